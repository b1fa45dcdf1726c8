import Derived.Test.YtbkodohojpchjaaGreatDoorDnB
import Derived.Laws.CopyRow
import Derived.Lib.AppendZerosOnto
import Derived.Lib.Overlaps
import Derived.Laws.Externs
import Derived.Lib.SlTrimSet
import Derived.Lib.Bytealg
/-
  A program's type table, looked through. Conditions: none.
-/
set_option linter.unusedSimpArgs false
set_option linter.unusedVariables false
set_option linter.constructorNameAsVariable false
namespace Dn
open Go
theorem UR {a b:Kd} (h:kdB a b=true):a=b:=by
 cases a<;>cases b<;>simp [kdB,kB] at h<;>first|rfl|(subst h;rfl)
def kN:List Kd→Kd→Bool
 |[k],k'=>kdB k k'
 |_,_=>false
theorem ef {l:List Kd} {k:Kd} (h:kN l k=true):l=[k]:=by
 cases l with
 |nil=>simp [kN] at h
 |cons a l=>cases l with
  |nil=>simp only [kN] at h;rw [UR h]
  |cons=>simp [kN] at h
def CY:List Nat→List Nat→Bool
 |[],[]=>true
 |a::l,b::m=>Nat.beq a b&&CY l m
 |_,_=>false
theorem EX {l m:List Nat} (h:CY l m=true):l=m:=by
 induction l generalizing m with
 |nil=>cases m<;>simp [CY] at h;rfl
 |cons a l ih=>
  cases m with
  |nil=>simp [CY] at h
  |cons b m=>
   simp only [CY,Bool.and_eq_true] at h
   rw [Nat.eq_of_beq_eq_true h.1,ih h.2]
def vn {α:Type}:List α→Bool
 |[]=>true
 |_=>false
theorem oQ {α:Type} {l:List α} (h:vn l=true):l=[]:=by cases l<;>simp [vn] at h;rfl
def J8 (ti:Nat→Option TI) (t:Nat):Bool:=match ti t with|some J=>vn J.cO&&Nat.ble 1 J.size|none=>false
theorem Is {ti:Nat→Option TI} {t:Nat} (h:J8 ti t=true): ∃J,ti t=some J∧J.cO=[]∧0<J.size:=by
 unfold J8 at h
 cases hJ:ti t with
 |none=>simp [hJ] at h
 |some J=>
  simp only [hJ,Bool.and_eq_true] at h
  exact ⟨J,rfl,oQ h.1,Nat.le_of_ble_eq_true h.2⟩
def EY:List Value→Nat→Bool
 |[],n=>Nat.beq n 0
 | .int .u8 k::r,n+1=>decide (k=0)&&EY r n
 |_,_=>false
theorem LU {l:List Value} {n:Nat} (h:EY l n=true):l=List.replicate n (.int .u8 0):=by
 induction l generalizing n with
 |nil=>have:=Nat.eq_of_beq_eq_true h;subst this;rfl
 |cons v l ih=>
  cases n with
  |zero=>cases v<;>simp [EY] at h
  |succ n=>
   unfold EY at h
   split at h
   ·rename_i h1;simp at h1
   ·rename_i k _ _ h1 h2
    simp only [List.cons.injEq] at h1
    obtain ⟨rfl,rfl⟩:=h1
    cases h2
    simp only [Bool.and_eq_true,decide_eq_true_eq] at h
    rw [h.1,ih h.2];rfl
   ·cases h
def Ca:List aG→aG→Bool
 |[.nil],.nil=>true
 |[.p (.b false)],.p (.b false)=>true
 |[.p (.i k n)],.p (.i k' m)=>kB k k'&&decide (n=m)
 |[.p (.s [])],.p (.s [])=>true
 |_,_=>false
theorem yq {l:List aG} {x:aG} (h:Ca l x=true):l=[x]:=by
 unfold Ca at h
 split at h<;>first|rfl|skip
 ·simp [kB] at h;rw [h.1,h.2]
 ·cases h
def US:List aG→Bool
 |[.hs x]=>decide (x=kE.zero)
 |_=>false
theorem UT {l:List aG} (h:US l=true):l=[.hs kE.zero]:=by
 unfold US at h
 split at h
 ·rw [of_decide_eq_true h]
 ·cases h
def UU (ti:Nat→Option TI) (P:Program) (I:TI) (z:Option Value):TypeDesc→Bool
 | .struct fs=>I.st&&vn I.cO&&Nat.ble 1 I.size&&Nat.beq (Dv I.lay) I.size&&CY (fs.toList.map (·.offset)) I.yV&&CY (fs.toList.map (·.type)) I.QV&&
  (fs.toList.all fun f=>J8 ti f.type)&&(match z with|some (.agg cs)=>sB I.zero cs.toList&&Nat.beq cs.size I.size|_=>false)
 | .tuple ts=>CY I.cO ts.toList&&!vn I.cO&&vn I.lay&&!I.st
 | .slice el=>!I.st&&vn I.cO&&Nat.beq I.size 1&&Nat.beq I.elem el&&J8 ti el&&(match z with|some (.slice none 0 0)=>true|_=>false)&&Ca I.zero .nil&&kN I.lay .l
 | .array n el=>!I.st&&vn I.cO&&Nat.beq I.size 32&&Nat.beq n 32&&Nat.beq I.elem el&&(match P.underlying el with|some (.int .u8)=>true|_=>false)&&(match P.info? el with|some i=>Nat.beq i.size 1|none=>false)&&
  kN I.lay .h&&US I.zero&&(match z with|some (.agg cs)=>EY cs.toList 32|_=>false)
 | .bool=>!I.st&&vn I.cO&&Nat.beq I.size 1&&kN I.lay .b&&Ca I.zero (.p (.b false))&&(match z with|some (.bool false)=>true|_=>false)
 | .int k=>!I.st&&vn I.cO&&Nat.beq I.size 1&&kN I.lay (.i k)&&Ca I.zero (.p (.i k 0))&&(match z with|some (.int k' n)=>kB k' k&&decide (n=0)|_=>false)
 | .string=>!I.st&&vn I.cO&&Nat.beq I.size 1&&kN I.lay .s&&Ca I.zero (.p (.s []))&&(match z with|some (.string b)=>vn b.data.toList|_=>false)
 |_=>!I.st&&vn I.cO&&Nat.beq I.size 1&&kN I.lay .raw&&(match z with|some v=>v.oneCell'&&sB I.zero [v]|none=>false)
theorem UW {ti:Nat→Option TI} {P:Program} {I:TI} {z:Option Value} {d:TypeDesc} (h:UU ti P I z d=true):q8 ti P I z d:=by
 cases d<;>simp only [UU,Bool.and_eq_true,Bool.not_eq_true'] at h<;>simp only [q8]
 case struct fs=>
  obtain ⟨⟨⟨⟨⟨⟨⟨h1,h2⟩,h3⟩,h4⟩,h5⟩,h6⟩,h7⟩,h8⟩:=h
  refine ⟨h1,oQ h2,⟨Nat.le_of_ble_eq_true h3,Nat.eq_of_beq_eq_true h4⟩,EX h5,EX h6,fun k f hk=> ?_,?_⟩
  ·exact Is (List.all_eq_true.1 h7 f (by
    have:fs.toList[k]? =some f:=by simpa using hk
    exact List.mem_of_getElem? this))
  ·split at h8
   ·rename_i cs
    simp only [Bool.and_eq_true] at h8
    exact ⟨cs,rfl,h8.1,Nat.eq_of_beq_eq_true h8.2⟩
   ·cases h8
 case tuple ts=>
  obtain ⟨⟨⟨h1,h2⟩,h3⟩,h4⟩:=h
  exact ⟨EX h1,fun he=>(by rw [he] at h2;simp [vn] at h2),oQ h3,h4⟩
 case slice el=>
  obtain ⟨⟨⟨⟨⟨⟨⟨h1,h2⟩,h3⟩,h4⟩,h5⟩,h6⟩,h7⟩,h8⟩:=h
  refine ⟨h1,oQ h2,Nat.eq_of_beq_eq_true h3,Nat.eq_of_beq_eq_true h4,Is h5,?_,yq h7,.l,ef h8,rfl⟩
  split at h6
  ·rfl
  ·cases h6
 case array n el=>
  obtain ⟨⟨⟨⟨⟨⟨⟨⟨⟨h1,h2⟩,h3⟩,h4⟩,h5⟩,h6⟩,h7⟩,h8⟩,h9⟩,P9⟩:=h
  refine ⟨h1,oQ h2,Nat.eq_of_beq_eq_true h3,Nat.eq_of_beq_eq_true h4,Nat.eq_of_beq_eq_true h5,?_,ef h8,UT h9,?_⟩
  ·split at h6
   ·rename_i hu
    split at h7
    ·rename_i i hi;exact ⟨i,hu,hi,Nat.eq_of_beq_eq_true h7⟩
    ·cases h7
   ·cases h6
  ·split at P9
   ·rename_i cs
    have:=LU P9
    congr 1
    congr 1
    apply Array.toList_inj.1
    rw [this];rfl
   ·cases P9
 case bool=>
  obtain ⟨⟨⟨⟨⟨h1,h2⟩,h3⟩,h4⟩,h5⟩,h6⟩:=h
  refine ⟨h1,oQ h2,Nat.eq_of_beq_eq_true h3,ef h4,yq h5,?_⟩
  split at h6
  ·rfl
  ·cases h6
 case int k=>
  obtain ⟨⟨⟨⟨⟨h1,h2⟩,h3⟩,h4⟩,h5⟩,h6⟩:=h
  refine ⟨h1,oQ h2,Nat.eq_of_beq_eq_true h3,ef h4,yq h5,?_⟩
  split at h6
  ·simp only [kB,Bool.and_eq_true,decide_eq_true_eq] at h6
   rw [h6.1,h6.2]
  ·cases h6
 case string=>
  obtain ⟨⟨⟨⟨⟨h1,h2⟩,h3⟩,h4⟩,h5⟩,h6⟩:=h
  refine ⟨h1,oQ h2,Nat.eq_of_beq_eq_true h3,ef h4,yq h5,?_⟩
  split at h6
  ·rename_i b;exact ⟨b,rfl,oQ h6⟩
  ·cases h6
 all_goals
  obtain ⟨⟨⟨⟨h1,h2⟩,h3⟩,h4⟩,h5⟩:=h
  refine ⟨h1,oQ h2,Nat.eq_of_beq_eq_true h3,ef h4,?_⟩
  split at h5
  ·rename_i v
   simp only [Bool.and_eq_true] at h5
   exact ⟨v,rfl,h5.1,h5.2⟩
  ·cases h5
def abX (ti:Nat→Option TI) (P:Program) (t:Nat) (I:TI):Bool:=
 match P.underlying t,P.info? t with
 |some d,some i=>(!vn I.cO||(Nat.beq i.size I.size&&Nat.beq i.bytes I.bytes))&&UU ti P I i.zero d
 |_,_=>false
theorem Ye {ti:Nat→Option TI} {P:Program} {t:Nat} {I:TI} (h:abX ti P t I=true):na ti P t I:=by
 unfold abX at h
 split at h
 ·rename_i d i hu hi
  simp only [Bool.and_eq_true,Bool.or_eq_true,Bool.not_eq_true'] at h
  refine ⟨d,i,hu,hi,fun hc=> ?_,UW h.2⟩
  rcases h.1 with h1|h1
  ·rw [hc] at h1;simp [vn] at h1
  ·exact ⟨Nat.eq_of_beq_eq_true h1.1,Nat.eq_of_beq_eq_true h1.2⟩
 ·cases h
def wm:List (Nat×TI)→Nat→Option TI
 |[],_=>none
 |(k,s)::r,t=>bif Nat.beq k t then some s else wm r t
def ai5 (P:Program) (Xk:List (Nat×TI)):Bool:=Xk.all fun p=>abX (wm Xk) P p.1 p.2
theorem It {l:List (Nat×TI)} {t:Nat} {I:TI} (h:wm l t=some I):(t,I)∈l:=by
 induction l with
 |nil=>simp [wm] at h
 |cons p l ih=>
  obtain ⟨k,s⟩:=p
  simp only [wm,fm] at h
  by_cases hk:k=t
  ·subst hk;simp at h;subst h;simp
  ·simp only [hk,decide_false,cond_false] at h
   exact List.mem_cons_of_mem _ (ih h)
theorem Yf {P:Program} {Xk:List (Nat×TI)} (h:ai5 P Xk=true):kK P (wm Xk):=fun t I hI=>Ye (List.all_eq_true.1 h (t,I) (It hI))
end Dn
/-
  Comparing values of plain types. Conditions: none.
-/
set_option linter.unusedSimpArgs false
set_option linter.unusedVariables false
set_option linter.constructorNameAsVariable false
namespace Dn
open Go
def Yg:List Kd→List Kd
 |[]=>[]
 | .h::r=>List.replicate 32 (.i .u8)++Yg r
 |k::r=>k::Yg r
def J9:Kd→Value→Bool
 | .b,.bool _=>true
 | .i k,.int k' _=>decide (k'=k)
 | .s,.string _=>true
 |_,_=>false
def ja:List Kd→List Value→Prop
 |[],vs=>vs=[]
 |k::ks,vs=> ∃v r,vs=v::r∧J9 k v=true∧ja ks r
def UX:Value→Value→Bool
 | .bool a,.bool b=>decide (a=b)
 | .int _ a,.int _ b=>decide (a=b)
 | .string a,.string b=>decide (a.data.toList=b.data.toList)
 |_,_=>false
def ki:List Value→List Value→Bool
 |[],[]=>true
 |x::xs,y::ys=>UX x y&&ki xs ys
 |_,_=>false
theorem sN {xs ys us vs:List Value} (h:xs.length=ys.length):ki (xs++us) (ys++vs)=(ki xs ys&&ki us vs):=by
 induction xs generalizing ys with
 |nil=>cases ys with|nil=>simp [ki]|cons=>simp at h
 |cons x xs ih=>cases ys with|nil=>simp at h|cons y ys=>simp only [List.cons_append,ki,ih (by simpa using h),Bool.and_assoc]
theorem ja.length {ks:List Kd}: ∀{vs:List Value},ja ks vs→vs.length=ks.length:=by
 induction ks with
 |nil=>intro vs h;cases h;rfl
 |cons k ks ih=>intro vs h;obtain ⟨v,r,rfl,_,h2⟩:=h;simp [ih h2]
theorem ja.append {ks js:List Kd}: ∀{vs us:List Value},ja ks vs→ja js us→ja (ks++js) (vs++us):=by
 induction ks with
 |nil=>intro vs us h h';cases h;simpa using h'
 |cons k ks ih=>intro vs us h h';obtain ⟨v,r,rfl,h1,h2⟩:=h;exact ⟨v,r++us,rfl,h1,ih h2 h'⟩
theorem ja.split {ks js:List Kd}: ∀{vs:List Value},ja (ks++js) vs→ja ks (vs.take ks.length)∧ja js (vs.drop ks.length):=by
 induction ks with
 |nil=>intro vs h;exact ⟨by simp [ja],by simpa using h⟩
 |cons k ks ih=>
  intro vs h
  obtain ⟨v,r,rfl,h1,h2⟩:=h
  obtain ⟨h3,h4⟩:=ih h2
  exact ⟨⟨v,_,rfl,h1,h3⟩,by simpa using h4⟩
theorem EZ (x:kE):ja (List.replicate 32 (.i .u8)) (bq x):=by
 have: ∀(l:List UInt8),ja (List.replicate l.length (.i .u8)) (l.map fun b=>Value.int .u8 (b.toNat:Int)):=by
  intro l
  induction l with
  |nil=>rfl
  |cons b l ih=>exact ⟨_,_,rfl,by simp [J9],ih⟩
 have h:=this x.l
 rw [x.h] at h
 exact h
theorem Iu (x y:kE):ki (bq x) (bq y)=decide (x=y):=by
 have: ∀(l m:List UInt8),l.length=m.length→ki (l.map fun b=>Value.int .u8 (b.toNat:Int)) (m.map fun b=>Value.int .u8 (b.toNat:Int))=decide (l=m):=by
  intro l
  induction l with
  |nil=>intro m h;cases m with|nil=>rfl|cons=>simp at h
  |cons b l ih=>
   intro m h
   cases m with
   |nil=>simp at h
   |cons b' m=>
    simp only [List.map_cons,ki,UX,ih m (by simpa using h),List.cons.injEq]
    have:((b.toNat:Int)=(b'.toNat:Int))↔b=b':=by
     constructor
     ·intro he;apply UInt8.toNat_inj.1;omega
     ·intro he;rw [he]
    simp [this]
 rw [bq,bq,this x.l y.l (by rw [x.h,y.h])]
 by_cases h:x=y
 ·subst h;simp
 ·have:x.l≠y.l:=fun he=>h (kE.ext' he)
  simp [h,this]
section
variable {e:Env}
theorem Iv {lay:List Kd}: ∀{ls:List aG} {vs:List Value},aw e vs ls→eR lay ls=true→ja (Yg lay) vs:=by
 induction lay with
 |nil=>
  intro ls vs h hf
  cases ls with
  |nil=>cases h;rfl
  |cons=>simp [eR] at hf
 |cons k lay ih=>
  intro ls vs h hf
  cases ls with
  |nil=>simp [eR] at hf
  |cons l ls=>
   simp only [eR] at hf
   cases h1:mJ k l with
   |false=>simp [h1] at hf
   |true=>
    simp only [h1,cond_true] at hf
    obtain ⟨v,u,rfl,g1,g2⟩:=h
    have hr:=ih g2 hf
    have one: ∀m:MV,∀kd:Kd,l= .p m→(∀w:List Value,lm e.key e.φ w m→ ∃x,w=[x]∧J9 kd x=true)→ja (kd::Yg lay) (v++u):=by
     intro m kd hl hm
     subst hl
     obtain ⟨x,rfl,hx⟩:=hm v g1.2
     exact ⟨x,u,rfl,hx,hr⟩
    cases k<;>cases l<;>simp only [mJ] at h1<;>try (cases h1;done)
    ·rename_i m
     cases m<;>simp only [mJ] at h1<;>try (cases h1;done)
     exact one _ _ rfl (fun w hw=>by cases hw;exact ⟨_,rfl,rfl⟩)
    ·rename_i k m
     cases m<;>simp only [mJ] at h1<;>try (cases h1;done)
     exact one _ _ rfl (fun w hw=>by cases hw;exact ⟨_,rfl,h1⟩)
    ·rename_i m
     cases m<;>simp only [mJ] at h1<;>try (cases h1;done)
     exact one _ _ rfl (fun w hw=>by cases hw;exact ⟨_,rfl,rfl⟩)
    ·rename_i x
     have g1:v=bq x:=g1
     subst g1
     exact (EZ x).append hr
theorem Hi {l l':aG} {v v':List Value} {b:Bool} (h:aY e v l) (h':aY e v' l') (hb:BP l l'=some b):ki v v'=b∧v.length=v'.length:=by
 unfold BP at hb
 split at hb
 ·obtain ⟨_,h⟩:=h;obtain ⟨_,h'⟩:=h'
  cases h;cases h'
  simp at hb;exact ⟨by simp [ki,UX,←hb],rfl⟩
 ·obtain ⟨_,h⟩:=h;obtain ⟨_,h'⟩:=h'
  cases h;cases h'
  rename_i k x k' y _ _
  cases hk:decide (k=k') with
  |false=>simp [hk] at hb
  |true=>simp [hk] at hb;exact ⟨by simp [ki,UX,←hb],rfl⟩
 ·obtain ⟨_,h⟩:=h;obtain ⟨_,h'⟩:=h'
  cases h;cases h'
  simp at hb;exact ⟨by simp [ki,UX,←hb],rfl⟩
 ·rename_i x y
  have h:v=bq x:=h
  have h':v'=bq y:=h'
  subst h;subst h'
  simp at hb
  exact ⟨by rw [Iu,←hb],by rw [cR,cR]⟩
 ·cases hb
theorem UY {ls:List aG}: ∀{wk:List aG} {vs Np:List Value} {b:Bool},aw e vs ls→aw e Np wk→iY ls wk=some b→ki vs Np=b:=by
 induction ls with
 |nil=>
  intro wk vs Np b h h' hb
  cases wk with
  |nil=>cases h;cases h';simp [iY] at hb;subst hb;rfl
  |cons l' wk=>simp [iY] at hb
 |cons l ls ih=>
  intro wk vs Np b h h' hb
  cases wk with
  |nil=>simp [iY] at hb
  |cons l' wk=>
   obtain ⟨v,u,rfl,h1,h2⟩:=h
   obtain ⟨v',u',rfl,GX,Lo⟩:=h'
   have two: ∀x y,BP l l'=some x→iY ls wk=some y→b=(x&&y)→ki (v++u) (v'++u')=b:=by
    intro x y hx hy Nr
    obtain ⟨g1,g2⟩:=Hi h1 GX hx
    rw [sN g2,g1,ih h2 Lo hy,Nr]
   cases ls with
   |nil=>
    cases wk with
    |nil=>
     have hb:BP l l'=some b:=hb
     exact two b true hb rfl (by simp)
    |cons p q=>
     simp only [iY] at hb
     split at hb
     ·rename_i x y hx hy;exact two x y hx hy (by simpa using hb.symm)
     ·cases hb
   |cons p q=>
    simp only [iY] at hb
    split at hb
    ·rename_i x y hx hy;exact two x y hx hy (by simpa using hb.symm)
    ·cases hb
end
def tt (F:TypeId→Option (List Kd)) (P:Program):List Field→Nat→Nat→Option (List Kd)
 |[],o,n=>bif Nat.beq o n then some [] else none
 |f::fs,o,n=>match F f.type with
  |some ks=>bif Nat.beq f.offset o&&Nat.beq ks.length (P.cellsOf f.type)&&!(f.name== "_") then (match tt F P fs (o+ks.length) n with|some r=>some (ks++r)|none=>none) else none
  |none=>none
def LW:Nat→List Kd→List Kd
 |0,_=>[]
 |n+1,ks=>ks++LW n ks
def mA (P:Program):Nat→TypeId→Option (List Kd)
 |0,_=>none
 |d+1,t=>match P.underlying t with
  |some .bool=>some [.b]
  |some (.int k)=>some [.i k]
  |some .string=>some [.s]
  |some (.array n e)=>match mA P d e with
   |some ks=>bif Nat.beq ks.length (P.cellsOf e)&&(match P.info? e with|some _=>true|none=>false) then some (LW n ks) else none
   |none=>none
  |some (.struct fs)=>bif P.stoodInHeld t then none else tt (mA P d) P fs.toList 0 (P.cellsOf t)
  |_=>none
def Hj:TypeDesc→Bool
 | .struct _=>true
 | .array _ _=>true
 |_=>false
theorem E0 {F:TypeId→Option (List Kd)} {P:Program}: ∀(fs:List Field) (o n:Nat) (ks:List Kd),tt F P fs o n=some ks→o+ks.length=n:=by
 intro fs
 induction fs with
 |nil=>
  intro o n ks hk
  simp only [tt] at hk
  cases hb:Nat.beq o n with
  |false=>simp [hb] at hk
  |true=>simp [hb] at hk;subst hk;simpa using Nat.eq_of_beq_eq_true hb
 |cons f fs ihf=>
  intro o n ks hk
  simp only [tt] at hk
  cases hf:F f.type with
  |none=>simp [hf] at hk
  |some js=>
   simp only [hf] at hk
   cases hc:Nat.beq f.offset o&&Nat.beq js.length (P.cellsOf f.type)&&!(f.name== "_") with
   |false=>simp [hc] at hk
   |true=>
    simp only [hc,cond_true] at hk
    cases hr:tt F P fs (o+js.length) n with
    |none=>simp [hr] at hk
    |some rs=>
     simp only [hr,Option.some.injEq] at hk
     subst hk
     have:=ihf _ _ _ hr
     simp only [List.length_append];omega
def sb (P:Program) (t:TypeId) (v:Value) (cs:List Value):Prop:=
 match P.underlying t with
 |some (.struct _)|some (.array _ _)=>v= .agg cs.toArray
 |_=>cs=[v]
theorem LX (n:Nat) (ks:List Kd):(LW n ks).length=n *ks.length:=by
 induction n with
 |zero=>simp [LW]
 |succ n ih=>simp only [LW,List.length_append,ih,Nat.succ_mul];omega
section
variable {P:Program} {w:World}
theorem yr {t:TypeId} {xs:Array Value} {off:Nat} {n:Nat} {d:TypeDesc} (hu:P.underlying t=some d) (hn:P.cellsOf t=n) (iQ:Hj d=false→n=1) (hl:off+n≤xs.size):
 ∃v,(Go.part t xs off).run P w= .ok v w∧sb P t v ((xs.toList.drop off).take n):=by
 obtain ⟨i,hi⟩:=info_of_underlying hu
 have q9:i.size=n:=by rw [←hn];simp [Program.cellsOf,hi]
 cases hd:Hj d with
 |true=>
  refine ⟨.agg (xs.extract off (off+n)),?_,?_⟩
  ·cases d<;>simp [Hj] at hd<;>simp [Go.part,isAgg,run_underlying hu,Go.sizeOf,typeInfo,hi,q9]
  ·have he:(xs.extract off (off+n))=((xs.toList.drop off).take n).toArray:=by
    apply Array.toList_inj.1
    rw [Array.toList_extract];simp [List.extract]
   unfold sb
   cases d<;>simp [Hj] at hd<;>simp only [hu]<;>rw [he]
 |false=>
  have JM:=iQ hd
  subst JM
  have dn:off<xs.size:=by omega
  refine ⟨xs[off],?_,?_⟩
  ·cases d<;>simp [Hj] at hd<;>simp [Go.part,isAgg,run_underlying hu,dn]
  ·have he:(xs.toList.drop off).take 1=[xs[off]]:=by
    rw [List.take_one,List.head?_drop];simp [dn]
   unfold sb
   cases d<;>simp [Hj] at hd<;>simp only [hu]<;>exact he
theorem Rz {F:TypeId→Option (List Kd)} {dd:Nat} {xs ys:Array Value}: ∀(fs:List Field) (o n:Nat) (ks:List Kd),tt F P fs o n=some ks→xs.size=n→ys.size=n→ja ks (xs.toList.drop o)→ja ks (ys.toList.drop o)→
 (∀f∈fs,∀js,F f.type=some js→(∃d,P.underlying f.type=some d∧(Hj d=false→js.length=1))∧
  ∀(x y:Value) (us vs:List Value),sb P f.type x us→sb P f.type y vs→ja js us→ja js vs→(Op.equalIn dd f.type x y).run P w= .ok (ki us vs) w)→
 (Op.eqFields dd xs ys fs).run P w= .ok (ki (xs.toList.drop o) (ys.toList.drop o)) w:=by
 intro fs
 induction fs with
 |nil=>
  intro o n ks hk hx hy _ _ _
  simp only [tt] at hk
  cases hb:Nat.beq o n with
  |false=>simp [hb] at hk
  |true=>
   have hb:=Nat.eq_of_beq_eq_true hb
   have h1:xs.toList.drop o=[]:=List.drop_eq_nil_of_le (by simp [hx,hb])
   have h2:ys.toList.drop o=[]:=List.drop_eq_nil_of_le (by simp [hy,hb])
   rw [h1,h2]
   simp [Op.eqFields,ki]
 |cons f fs ih=>
  intro o n ks hk hx hy fx fy hF
  simp only [tt] at hk
  cases hf:F f.type with
  |none=>simp [hf] at hk
  |some js=>
   simp only [hf] at hk
   cases hc:Nat.beq f.offset o&&Nat.beq js.length (P.cellsOf f.type)&&!(f.name== "_") with
   |false=>simp [hc] at hk
   |true=>
    simp only [hc,cond_true] at hk
    simp only [Bool.and_eq_true,Bool.not_eq_true'] at hc
    obtain ⟨⟨h1,h2⟩,h3⟩:=hc
    have h1:=Nat.eq_of_beq_eq_true h1
    have h2:=Nat.eq_of_beq_eq_true h2
    have h3:f.name≠ "_" :=by intro he;rw [he] at h3;simp at h3
    cases hr:tt F P fs (o+js.length) n with
    |none=>simp [hr] at hk
    |some rs=>
     simp only [hr,Option.some.injEq] at hk
     subst hk
     obtain ⟨fx1,fx2⟩:=fx.split
     obtain ⟨fy1,fy2⟩:=fy.split
     rw [List.drop_drop] at fx2 fy2
     have lx:=fx.length
     have ly:=fy.length
     simp only [List.length_drop,List.length_append,Array.length_toList] at lx ly
     obtain ⟨⟨d,hu,iQ⟩,iV⟩:=hF f (by simp) js hf
     by_cases hz:o+js.length≤xs.size∧o+js.length≤ys.size
     ·obtain ⟨x,px,wx⟩:=yr (w:=w) (xs:=xs) (off:=f.offset) hu h2.symm iQ (by rw [h1];exact hz.1)
      obtain ⟨y,py,wy⟩:=yr (w:=w) (xs:=ys) (off:=f.offset) hu h2.symm iQ (by rw [h1];exact hz.2)
      rw [h1] at wx wy
      have he:=iV x y _ _ wx wy fx1 fy1
      have zC:=ih (o+js.length) n rs hr hx hy fx2 fy2 (fun g hg=>hF g (by simp [hg]))
      simp only [Op.eqFields,h3,ne_eq,not_false_eq_true,if_true,Sem.run_bind,px,py,he,Result.andThen_ok]
      have EP:ki (xs.toList.drop o) (ys.toList.drop o)=(ki ((xs.toList.drop o).take js.length) ((ys.toList.drop o).take js.length)&&ki (xs.toList.drop (o+js.length)) (ys.toList.drop (o+js.length))):=by
       rw [←List.drop_drop,←List.drop_drop,←sN (by rw [fx1.length,fy1.length]),List.take_append_drop,List.take_append_drop]
      rw [EP]
      cases ki ((xs.toList.drop o).take js.length) ((ys.toList.drop o).take js.length)
      ·simp
      ·simpa using zC
     ·exfalso
      have:=E0 _ _ _ _ hr
      omega
theorem UZ {e:TypeId} {dd:Nat} {xs ys:Array Value} {js:List Kd} (GY:js.length=P.cellsOf e) (hd: ∃d,P.underlying e=some d∧(Hj d=false→js.length=1))
 (iV: ∀(x y:Value) (us vs:List Value),sb P e x us→sb P e y vs→ja js us→ja js vs→(Op.equalIn dd e x y).run P w= .ok (ki us vs) w):
 ∀(m i:Nat),xs.size=(i+m) *js.length→ys.size=(i+m) *js.length→ja (LW m js) (xs.toList.drop (i *js.length))→ja (LW m js) (ys.toList.drop (i *js.length))→
 (Op.eqItems dd e (P.cellsOf e) xs ys (List.range' i m)).run P w= .ok (ki (xs.toList.drop (i *js.length)) (ys.toList.drop (i *js.length))) w:=by
 intro m
 induction m with
 |zero=>
  intro i hx hy _ _
  have h1:xs.toList.drop (i *js.length)=[]:=List.drop_eq_nil_of_le (by simp [hx])
  have h2:ys.toList.drop (i *js.length)=[]:=List.drop_eq_nil_of_le (by simp [hy])
  rw [h1,h2]
  simp [Op.eqItems,ki]
 |succ m ih=>
  intro i hx hy fx fy
  simp only [LW] at fx fy
  obtain ⟨fx1,fx2⟩:=fx.split
  obtain ⟨fy1,fy2⟩:=fy.split
  have hmul:i *js.length+js.length=(i+1) *js.length:=by rw [Nat.succ_mul]
  rw [List.drop_drop,hmul] at fx2 fy2
  obtain ⟨d,hu,iQ⟩:=hd
  have hle:(i+1) *js.length≤(i+(m+1)) *js.length:=Nat.mul_le_mul_right _ (by omega)
  obtain ⟨x,px,wx⟩:=yr (w:=w) (xs:=xs) (off:=i *js.length) hu GY.symm iQ (by omega)
  obtain ⟨y,py,wy⟩:=yr (w:=w) (xs:=ys) (off:=i *js.length) hu GY.symm iQ (by omega)
  have he:=iV x y _ _ wx wy fx1 fy1
  have zC:=ih (i+1) (by rw [hx];congr 1;omega) (by rw [hy];congr 1;omega) fx2 fy2
  rw [List.range'_succ]
  simp only [Op.eqItems,Sem.run_bind,←GY,px,py,he,Result.andThen_ok]
  have EP:ki (xs.toList.drop (i *js.length)) (ys.toList.drop (i *js.length))=(ki ((xs.toList.drop (i *js.length)).take js.length) ((ys.toList.drop (i *js.length)).take js.length)&&ki (xs.toList.drop ((i+1) *js.length)) (ys.toList.drop ((i+1) *js.length))):=by
   rw [←hmul,←List.drop_drop,←List.drop_drop,←sN (by rw [fx1.length,fy1.length]),List.take_append_drop,List.take_append_drop]
  rw [EP]
  cases ki ((xs.toList.drop (i *js.length)).take js.length) ((ys.toList.drop (i *js.length)).take js.length)
  ·simp
  ·rw [←GY] at zC;simpa using zC
theorem Iw: ∀(d:Nat) (t:TypeId) (ks:List Kd),mA P d t=some ks→ ∃k,P.underlying t=some k∧(Hj k=false→ks.length=1):=by
 intro d t ks h
 cases d with
 |zero=>simp [mA] at h
 |succ d=>
  simp only [mA] at h
  cases hu:P.underlying t with
  |none=>simp [hu] at h
  |some k=>
   refine ⟨k,rfl,fun ha=> ?_⟩
   cases k<;>simp only [hu] at h<;>first
    |(simp only [Option.some.injEq] at h;subst h;rfl)
    |(cases h;done)
    |(simp [Hj] at ha;done)
theorem CZ: ∀(d:Nat) (t:TypeId) (ks:List Kd),mA P d t=some ks→ ∀(m:Nat) (x y:Value) (us vs:List Value),sb P t x us→sb P t y vs→ja ks us→ja ks vs→
 (Op.equalIn (m+d) t x y).run P w= .ok (ki us vs) w:=by
 intro d
 induction d with
 |zero=>intro t ks h;simp [mA] at h
 |succ d ih=>
  intro t ks h m x y us vs hx hy fx fy
  simp only [mA] at h
  have hmd:m+(d+1)=(m+d)+1:=rfl
  rw [hmd]
  cases hu:P.underlying t with
  |none=>simp [hu] at h
  |some k=>
   cases k<;>simp only [hu] at h<;>try (cases h;done)
   case bool=>
    simp only [Option.some.injEq] at h;subst h
    simp only [sb,hu] at hx hy
    subst hx;subst hy
    obtain ⟨v,r,h1,h2,h3⟩:=fx
    obtain ⟨v',r',GX,Lo,h3'⟩:=fy
    simp at h1 GX
    obtain ⟨rfl,_⟩:=h1
    obtain ⟨rfl,_⟩:=GX
    cases x<;>simp [J9] at h2
    cases y<;>simp [J9] at Lo
    rename_i a b
    rw [run_equalIn_bool' w _ t a b hu]
    simp [ki,UX]
    cases a<;>cases b<;>rfl
   case int k=>
    simp only [Option.some.injEq] at h;subst h
    simp only [sb,hu] at hx hy
    subst hx;subst hy
    obtain ⟨v,r,h1,h2,h3⟩:=fx
    obtain ⟨v',r',GX,Lo,h3'⟩:=fy
    simp at h1 GX
    obtain ⟨rfl,_⟩:=h1
    obtain ⟨rfl,_⟩:=GX
    cases x<;>simp [J9] at h2
    cases y<;>simp [J9] at Lo
    subst h2;subst Lo
    rw [run_equalIn_int w _ t _ _ _ _ hu]
    simp only [ki,UX,Bool.and_true]
    congr 1
   case string=>
    simp only [Option.some.injEq] at h;subst h
    simp only [sb,hu] at hx hy
    subst hx;subst hy
    obtain ⟨v,r,h1,h2,h3⟩:=fx
    obtain ⟨v',r',GX,Lo,h3'⟩:=fy
    simp at h1 GX
    obtain ⟨rfl,_⟩:=h1
    obtain ⟨rfl,_⟩:=GX
    cases x<;>simp [J9] at h2
    cases y<;>simp [J9] at Lo
    rw [run_equalIn_string w _ t _ _ hu]
    simp only [ki,UX,Bool.and_true,toList_data]
    congr 1
    exact Bool.beq_eq_decide_eq _ _
   case array n e=>
    cases hke:mA P d e with
    |none=>simp [hke] at h
    |some js=>
     simp only [hke] at h
     cases hc:Nat.beq js.length (P.cellsOf e)&&(match P.info? e with|some _=>true|none=>false) with
     |false=>simp [hc] at h
     |true=>
      simp only [hc,cond_true,Option.some.injEq] at h
      subst h
      simp only [Bool.and_eq_true] at hc
      have GY:=Nat.eq_of_beq_eq_true hc.1
      obtain ⟨i,hi⟩: ∃i,P.info? e=some i:=by
       cases hi:P.info? e with
       |none=>rw [hi] at hc;simp at hc
       |some i=>exact ⟨i,rfl⟩
      simp only [sb,hu] at hx hy
      subst hx;subst hy
      rw [run_equalIn_array w (m+d) us.toArray vs.toArray hu hi,List.range_eq_range']
      have l1:=fx.length
      have l2:=fy.length
      rw [LX] at l1 l2
      have:=UZ (w:=w) (xs:=us.toArray) (ys:=vs.toArray) (js:=js) (dd:=m+d) GY (Iw d e js hke) (fun x y us vs a b c d'=>ih e js hke m x y us vs a b c d') n 0 (by simpa using l1) (by simpa using l2) (by simpa using fx) (by simpa using fy)
      simpa using this
   case struct fs=>
    cases ez:P.stoodInHeld t with
    |true=>simp [ez] at h
    |false=>
     simp only [ez,cond_false] at h
     simp only [sb,hu] at hx hy
     subst hx;subst hy
     have Uy:P.fieldsOf t=fs:=by simp [Program.fieldsOf,hu]
     rw [run_equalIn_struct w (m+d) t us.toArray vs.toArray (by rw [Uy];exact hu) ez,Uy]
     have hl:=E0 _ _ _ _ h
     have:=Rz (w:=w) (dd:=m+d) (xs:=us.toArray) (ys:=vs.toArray) fs.toList 0 (P.cellsOf t) ks h (by simp [fx.length];omega) (by simp [fy.length];omega) (by simpa using fx) (by simpa using fy)
      (fun f hf js hjs=>⟨Iw d f.type js hjs,fun x y us vs a b c d'=>ih f.type js hjs m x y us vs a b c d'⟩)
     simpa using this
end
theorem Qa {l m:List Kd} (h:Du l m=true):l=m:=by
 induction l generalizing m with
 |nil=>cases m<;>simp [Du] at h;rfl
 |cons a l ih=>
  cases m with
  |nil=>simp [Du] at h
  |cons b m=>
   simp only [Du,Bool.and_eq_true] at h
   rw [UR h.1,ih h.2]
def Oi:List Kd→Bool
 |[]=>true
 | .l::_=>false
 | .raw::_=>false
 |_::r=>Oi r
def eqB (P:Program) (t:Nat) (I:TI):Bool:=
 !Oi I.lay||!vn I.cO||((match mA P 20 t with|some ks=>Du ks (Yg I.lay)|none=>false)&&!P.eqGuardType P.depth t&&
  (match P.underlying t with|some (.struct _)=>I.st|some (.array _ _)=>!I.st&&kN I.lay .h|some .bool=>!I.st&&kN I.lay .b|some (.int k)=>!I.st&&kN I.lay (.i k)|some .string=>!I.st&&kN I.lay .s|_=>false))
def abY (P:Program) (Xk:List (Nat×TI)):Bool:=Xk.all fun p=>eqB P p.1 p.2
theorem RB {lay:List Kd}: ∀{ls:List aG},eR lay ls=true→Oi lay=true:=by
 induction lay with
 |nil=>intro ls _;rfl
 |cons k lay ih=>
  intro ls h
  cases ls with
  |nil=>simp [eR] at h
  |cons l ls=>
   simp only [eR] at h
   cases h1:mJ k l with
   |false=>simp [h1] at h
   |true=>
    simp only [h1,cond_true] at h
    have:=ih h
    cases k<;>first|exact this|(cases l<;>simp [mJ] at h1)
theorem RC {t:TypeId} {x y:Value} (h:(∃b,x= .bool b)∨ ∃cs,x= .agg cs) (op:BinOp):
 (op= .eql→binOp op t x y=(do pure (.bool (←Op.equal t x y))))∧(op= .neq→binOp op t x y=(do pure (.bool (!(←Op.equal t x y))))):=by
 rcases h with ⟨b,rfl⟩|⟨cs,rfl⟩<;>refine ⟨?_,?_⟩<;>rintro rfl<;>cases y<;>rfl
theorem RD {P:Program} {Xk:List (Nat×TI)} (h:abY P Xk=true):NR P (wm Xk):=by
 intro t I hI hc e w vx vy sx sy b rx ry fx fy shx shy hb n1 n2
 have hr:=List.all_eq_true.1 h (t,I) (It hI)
 simp only [eqB,RB fx,Bool.not_true,Bool.false_or] at hr
 rw [hc] at hr
 simp only [vn,Bool.not_true,Bool.false_or,Bool.and_eq_true,Bool.not_eq_true'] at hr
 obtain ⟨⟨hk,hg⟩,hd⟩:=hr
 cases Ra:mA P 20 t with
 |none=>simp [Ra] at hk
 |some ks=>
  simp only [Ra] at hk
  have hk:=Qa hk
  subst hk
  have cells: ∀(v:Value) (s:Slot),ab e v s→eR I.lay (aP s)=true→lN I.st s=true→(∃us,sb P t v us∧aw e us (aP s))∧((∃b,v= .bool b)∨(∃cs,v= .agg cs)∨(∃k n,s= .sc (.p (.i k n)))∨ ∃l,s= .sc (.p (.s l))):=by
   intro v s hv hf hs
   cases s<;>simp only [lN] at hs<;>try (cases hs;done)
   ·rename_i l
    have ez:I.st=false:=by simpa using hs
    cases hu:P.underlying t with
    |none=>simp [hu] at hd
    |some d=>
     simp only [hu] at hd
     cases d<;>simp only [ez,Bool.not_false,Bool.true_and] at hd<;>try (cases hd;done)
     ·have hl:=ef hd
      rw [hl] at hf
      simp only [aP,eR] at hf
      cases l<;>simp [mJ] at hf
      rename_i m
      cases m<;>simp [mJ] at hf
      have:=CK hv
      exact ⟨⟨[v],by simp [sb,hu],[v],[],rfl,hv,rfl⟩,.inl ⟨_,this⟩⟩
     ·have hl:=ef hd
      rw [hl] at hf
      simp only [aP,eR] at hf
      cases l<;>simp [mJ] at hf
      rename_i m
      cases m<;>simp [mJ] at hf
      exact ⟨⟨[v],by simp [sb,hu],[v],[],rfl,hv,rfl⟩,.inr (.inr (.inl ⟨_,_,rfl⟩))⟩
     ·have hl:=ef hd
      rw [hl] at hf
      simp only [aP,eR] at hf
      cases l<;>simp [mJ] at hf
      rename_i m
      cases m<;>simp [mJ] at hf
      exact ⟨⟨[v],by simp [sb,hu],[v],[],rfl,hv,rfl⟩,.inr (.inr (.inr ⟨_,rfl⟩))⟩
     ·have hl:=ef hd
      rw [hl] at hf
      simp only [aP,eR] at hf
      cases l<;>simp [mJ] at hf
      rename_i x
      have hv:v= .agg (bq x).toArray:=hv
      exact ⟨⟨bq x,by simp [sb,hu,hv],bq x,[],by simp,rfl,rfl⟩,.inr (.inl ⟨_,hv⟩)⟩
   ·rename_i cs
    cases hu:P.underlying t with
    |none=>simp [hu] at hd
    |some d=>
     simp only [hu] at hd
     cases d<;>simp only [hs,Bool.not_true,Bool.false_and] at hd<;>try (cases hd;done)
     obtain ⟨arr,hv,qk⟩:=hv
     exact ⟨⟨arr.toList,by simp [sb,hu,hv],qk⟩,.inr (.inl ⟨_,hv⟩)⟩
  obtain ⟨⟨us,wx,lx⟩,kx⟩:=cells vx sx rx fx shx
  obtain ⟨⟨vs,wy,ly⟩,ky⟩:=cells vy sy ry fy shy
  have iV:(Op.equal t vx vy).run P w= .ok b w:=by
   have:=CZ (P:=P) (w:=w) 20 t _ Ra 9980 vx vy us vs wx wy (Iv lx fx) (Iv ly fy)
   rw [UY lx ly hb] at this
   exact this
  refine ⟨iV,fun x y op=> ?_⟩
  have hxk:(∃b,vx= .bool b)∨ ∃cs,vx= .agg cs:=by
   rcases kx with h1|h1|⟨k,n,h1⟩|⟨l,h1⟩
   ·exact .inl h1
   ·exact .inr h1
   ·exfalso
    subst h1
    cases hu:P.underlying t with
    |none=>simp [hu] at hd
    |some d=>
     simp only [aP] at fx fy hb
     cases U0:I.lay with
     |nil=>rw [U0] at fx;simp [eR] at fx
     |cons k0 r0=>
      rw [U0] at fx fy
      simp only [eR] at fx
      cases k0<;>simp [mJ] at fx
      obtain ⟨RE,hr0⟩:=fx
      have hr0:r0=[]:=by cases r0<;>simp [eR] at hr0;rfl
      subst hr0
      cases sy<;>simp only [lN] at shx shy<;>try (cases shy;done)
      ·rename_i l
       simp only [aP,eR] at fy
       cases l<;>simp [mJ] at fy
       rename_i m
       cases m<;>simp [mJ] at fy
       exact n1 _ _ _ _ rfl rfl
      ·rw [shy] at shx;cases shx
   ·exfalso
    subst h1
    simp only [aP] at fx fy hb
    cases U0:I.lay with
    |nil=>rw [U0] at fx;simp [eR] at fx
    |cons k0 r0=>
     rw [U0] at fx fy
     simp only [eR] at fx
     cases k0<;>simp [mJ] at fx
     have hr0:r0=[]:=by cases r0<;>simp [eR] at fx;rfl
     subst hr0
     cases sy<;>simp only [lN] at shx shy<;>try (cases shy;done)
     ·rename_i l
      simp only [aP,eR] at fy
      cases l<;>simp [mJ] at fy
      rename_i m
      cases m<;>simp [mJ] at fy
      exact n2 _ _ rfl rfl
     ·rw [shy] at shx;cases shx
  refine ⟨?_,RC hxk op⟩
  have hg':P.eqGuardType P.depth t=false:=hg
  rcases hxk with ⟨bb,rfl⟩|⟨cs,rfl⟩
  ·cases op<;>rfl
  ·cases vy<;>cases op<;>first|rfl|(simp [eqGuard,hg'])
end Dn
/-
  A program's types of maps, looked through. Conditions: none.
-/
set_option linter.unusedSimpArgs false
set_option linter.unusedVariables false
set_option linter.constructorNameAsVariable false
namespace Dn
open Go
theorem Ka {lay:List Kd}: ∀{ks:List MV},dq lay ks=true→ja (Yg lay) (ks.flatMap BJ):=by
 induction lay with
 |nil=>intro ks h;cases ks with|nil=>rfl|cons=>simp [dq] at h
 |cons k lay ih=>
  intro ks h
  cases ks with
  |nil=>simp [dq] at h
  |cons m ks=>
   simp only [dq,Bool.and_eq_true] at h
   have h2:=ih h.2
   have h1:=h.1
   cases k<;>cases m<;>simp only [BU] at h1<;>try (cases h1;done)
   ·exact ⟨_,_,rfl,rfl,h2⟩
   ·exact ⟨_,_,rfl,h1,h2⟩
   ·exact ⟨_,_,rfl,rfl,h2⟩
   ·exact (EZ _).append h2
theorem Yh {lay:List Kd}: ∀{a b:List MV},dq lay a=true→dq lay b=true→ki (a.flatMap BJ) (b.flatMap BJ)=iL b a:=by
 induction lay with
 |nil=>
  intro a b ha hb
  cases a<;>cases b<;>simp [dq] at ha hb
  rfl
 |cons k lay ih=>
  intro a b ha hb
  cases a with
  |nil=>simp [dq] at ha
  |cons x a=>
   cases b with
   |nil=>simp [dq] at hb
   |cons y b=>
    simp only [dq,Bool.and_eq_true] at ha hb
    have ih:=ih ha.2 hb.2
    have h1:=ha.1
    have h2:=hb.1
    cases k<;>cases x<;>simp only [BU] at h1<;>try (cases h1;done)
    all_goals cases y<;>simp only [BU] at h2<;>try (cases h2;done)
    ·rename_i p q
     simp only [List.flatMap_cons,BJ,List.cons_append,List.nil_append,ki,UX,iL,G6,ih]
     congr 1;rw [decide_eq_decide];exact eq_comm
    ·rename_i k1 p k2 q
     have e1:=of_decide_eq_true h1
     have e2:=of_decide_eq_true h2
     subst e1;subst e2
     simp only [List.flatMap_cons,BJ,List.cons_append,List.nil_append,ki,UX,iL,G6,ih,decide_true,Bool.true_and]
     congr 1;rw [decide_eq_decide];exact eq_comm
    ·rename_i p q
     simp only [List.flatMap_cons,BJ,List.cons_append,List.nil_append,ki,UX,iL,G6,ih]
     congr 1;rw [decide_eq_decide];simp [eq_comm]
    ·rename_i p q
     simp only [List.flatMap_cons,BJ,iL,G6]
     rw [sN (by rw [cR,cR]),Iu,ih]
     congr 1;rw [decide_eq_decide];exact eq_comm
def Cb:TypeDesc→Bool
 | .bool| .int _| .string=>true
 |_=>false
def aeV (P:Program) (n:Nat) (fs:List Field):Bool:=fs.all fun f=>(match P.underlying f.type with|some d=>Cb d|none=>false)&&Nat.ble (f.offset+1) n
def aaC (P:Program) (kt:Nat) (I:TI):Bool:=match P.underlying kt with
 |some .bool=>!I.st&&kN I.lay .b
 |some (.int k)=>!I.st&&kN I.lay (.i k)
 |some .string=>!I.st&&kN I.lay .s
 |some (.struct fs)=>I.st&&(match mA P 20 kt with|some ks=>Du ks (Yg I.lay)|none=>false)&&aeV P (Yg I.lay).length fs.toList
 |_=>false
def aaD (b:Bool):Option Value→Bool
 |some (.bool false)=>b
 |some (.int .i64 n)=>!b&&decide (n=0)
 |_=>false
def aeW (P:Program) (ti:Nat→Option TI) (t kt:Nat) (b:Bool):Bool:=match P.underlying t with
 |some (.map kt' el)=>Nat.beq kt' kt&&(match P.info? el with|some i=>aaD b i.zero|none=>false)&&(match ti kt with|some I=>vn I.cO&&aaC P kt I|none=>false)
 |_=>false
def E5:List (Nat×(Nat×Bool))→Nat→Option (Nat×Bool)
 |[],_=>none
 |(k,s)::r,t=>bif Nat.beq k t then some s else E5 r t
theorem RF {l:List (Nat×(Nat×Bool))} {t:Nat} {I:Nat×Bool} (h:E5 l t=some I):(t,I)∈l:=by
 induction l with
 |nil=>simp [E5] at h
 |cons p l ih=>
  obtain ⟨k,s⟩:=p
  simp only [E5,fm] at h
  by_cases hk:k=t
  ·subst hk;simp at h;subst h;simp
  ·simp only [hk,decide_false,cond_false] at h
   exact List.mem_cons_of_mem _ (ih h)
def Yi (P:Program) (ti:Nat→Option TI) (l:List (Nat×(Nat×Bool))):Bool:=l.all fun p=>aeW P ti p.1 p.2.1 p.2.2
theorem yt {k:Kd} {ks:List MV} (h:dq [k] ks=true): ∃m,ks=[m]∧BU k m=true:=by
 cases ks with
 |nil=>simp [dq] at h
 |cons m r=>
  cases r with
  |cons=>simp [dq] at h
  |nil=>exact ⟨m,rfl,by simpa [dq] using h⟩
theorem jC {P:Program} {t:TypeId} {d:TypeDesc} (hu:P.underlying t=some d) (hd:Cb d=true) (em:Bool) (n:Nat) (v:Value) (w:World):(Instr.checkKey em (n+1) t v).run P w= .ok () w:=by
 rw [Instr.checkKey]
 simp only [Sem.run_bind,run_underlying hu,Result.andThen]
 cases d<;>simp [Cb] at hd<;>cases v<;>rfl
theorem E6 {P:Program} {t:TypeId} {d:TypeDesc} (hu:P.underlying t=some d) (hd:Cb d=true) {xs:Array Value} {off:Nat} (h:off<xs.size) (w:World):(Go.part t xs off).run P w= .ok xs[off] w:=by
 cases d<;>simp [Cb] at hd<;>simp [Go.part,isAgg,run_underlying hu,h]
theorem Oj {P:Program} {c:Ctx} {l:List (Nat×(Nat×Bool))} (h:Yi P c.ti l=true) (hm: ∀t p,c.mt t=some p→E5 l t=some p):B4 P c:=by
 intro t s hs
 unfold uV at hs
 cases P6:c.mt t with
 |none=>simp [P6] at hs
 |some p=>
  obtain ⟨kt,b⟩:=p
  simp only [P6] at hs
  cases hI:c.tv kt with
  |none=>simp [hI] at hs
  |some I=>
   simp only [hI] at hs
   cases hit:Dt ⟨I.st,I.lay,b⟩ with
   |true=>simp [hit] at hs
   |false=>
   simp only [hit,cond_false,Option.some.injEq] at hs
   subst hs
   obtain ⟨Nn,PL⟩:=bO hI
   have hb:=List.all_eq_true.1 h _ (RF (hm t _ P6))
   simp only [aeW] at hb
   split at hb
   ·rename_i kt' el hu
    simp only [Bool.and_eq_true] at hb
    obtain ⟨⟨vf,wg⟩,hb3⟩:=hb
    have vf:=Nat.eq_of_beq_eq_true vf
    subst vf
    split at wg
    ·rename_i inf ai6
     rw [Nn] at hb3
     simp only [Bool.and_eq_true] at hb3
     have hk:=hb3.2
     have hz: ∀w:World,(zeroValue el).run P w= .ok (yX b (iM b)) w:=by
      intro w
      have:inf.zero=some (yX b (iM b)):=by
       generalize inf.zero=z at wg
       unfold aaD at wg
       split at wg
       ·subst wg;rfl
       ·simp only [Bool.and_eq_true,Bool.not_eq_true'] at wg
        obtain ⟨h1,h2⟩:=wg
        subst h1
        rw [of_decide_eq_true h2];rfl
       ·cases wg
      simp [zeroValue,typeInfo,ai6,this]
     unfold aaC at hk
     refine ⟨kt',el,hu,hz,?_⟩
     split at hk
     ·rename_i hd
      simp only [Bool.and_eq_true,Bool.not_eq_true'] at hk
      have hl:=ef hk.2
      refine ⟨fun em ks w hf=>jC hd rfl em 9999 _ w,_,hd,.inl fun a b' ha BW=> ?_⟩
      rw [hl] at ha BW
      obtain ⟨x,rfl,hx⟩:=yt ha
      obtain ⟨y,rfl,hy⟩:=yt BW
      cases x<;>simp [BU] at hx
      cases y<;>simp [BU] at hy
      rename_i p q
      simp only [hk.1,fJ,Instr.sameNow,iL,G6,Bool.and_true]
      congr 1;rw [Bool.eq_iff_iff];simp only [beq_iff_eq,decide_eq_true_eq];exact eq_comm
     ·rename_i k hd
      simp only [Bool.and_eq_true,Bool.not_eq_true'] at hk
      have hl:=ef hk.2
      refine ⟨fun em ks w hf=>jC hd rfl em 9999 _ w,_,hd,.inl fun a b' ha BW=> ?_⟩
      rw [hl] at ha BW
      obtain ⟨x,rfl,hx⟩:=yt ha
      obtain ⟨y,rfl,hy⟩:=yt BW
      cases x<;>simp [BU] at hx
      cases y<;>simp [BU] at hy
      subst hx;subst hy
      rename_i p q
      simp only [hk.1,fJ,Instr.sameNow,iL,G6,Bool.and_true,if_true,decide_true,Bool.true_and]
      congr 1;rw [Bool.eq_iff_iff];simp only [beq_iff_eq,decide_eq_true_eq];exact eq_comm
     ·rename_i hd
      simp only [Bool.and_eq_true,Bool.not_eq_true'] at hk
      have hl:=ef hk.2
      refine ⟨fun em ks w hf=>jC hd rfl em 9999 _ w,_,hd,.inl fun a b' ha BW=> ?_⟩
      rw [hl] at ha BW
      obtain ⟨x,rfl,hx⟩:=yt ha
      obtain ⟨y,rfl,hy⟩:=yt BW
      cases x<;>simp [BU] at hx
      cases y<;>simp [BU] at hy
      rename_i p q
      simp only [hk.1,fJ,Instr.sameNow,iL,G6,Bool.and_true]
      congr 1;rw [beq_toListBytes,ByteArray.toList_eq,ByteArray.toList_eq,Bool.eq_iff_iff];simp only [beq_iff_eq,decide_eq_true_eq,List.toList_toArray];exact eq_comm
     ·rename_i fs hd
      simp only [Bool.and_eq_true] at hk
      obtain ⟨⟨ez,Xi⟩,Uy⟩:=hk
      split at Xi
      ·rename_i ks Ra
       have Xi:=Qa Xi
       subst Xi
       have hkv: ∀q,fJ true q= .agg (q.flatMap BJ).toArray:=by intro q;rfl
       refine ⟨fun em q w hf=> ?_,_,hd,.inr fun x y hx hy=>⟨?_,fun w=> ?_⟩⟩
       ·have hlen:(q.flatMap BJ).length=(Yg I.lay).length:=(Ka hf).length
        rw [ez,hkv,show (10000:Nat)=9999+1 from rfl,Instr.checkKey]
        simp only [Sem.run_bind,run_underlying hd,Result.andThen_ok]
        rw [←Array.forIn_toList]
        have each: ∀f∈fs.toList,(∃d,P.underlying f.type=some d∧Cb d=true)∧f.offset<(q.flatMap BJ).toArray.size:=by
         intro f hf
         have:=List.all_eq_true.1 Uy f hf
         simp only [Bool.and_eq_true] at this
         obtain ⟨h1,h2⟩:=this
         split at h1
         ·rename_i d hd;exact ⟨⟨d,hd,h1⟩,by have:=Nat.le_of_ble_eq_true h2;simp only [List.size_toArray];omega⟩
         ·cases h1
        clear Uy
        generalize fs.toList=L at each
        generalize (q.flatMap BJ).toArray=xs at each
        induction L with
        |nil=>simp
        |cons f L ih=>
         obtain ⟨⟨d,h1,h2⟩,h3⟩:=each f (by simp)
         have vf:=jC h1 h2 em 9998 xs[f.offset] w
         have wg:=E6 (P:=P) h1 h2 h3 w
         by_cases hn:f.name= "_"
         ·simp only [List.forIn_cons,Sem.run_bind,hn,ne_eq,not_true_eq_false,if_false,Result.andThen_ok,Sem.run_pure]
          exact ih (fun y hy=>each y (by simp [hy]))
         ·simp only [List.forIn_cons,Sem.run_bind,hn,ne_eq,not_false_eq_true,if_true,Result.andThen_ok,vf,wg,Sem.run_pure]
          exact ih (fun y hy=>each y (by simp [hy]))
       ·rw [ez,hkv,hkv];rfl
       ·rw [ez,hkv,hkv]
        have:=CZ (P:=P) (w:=w) 20 kt' _ Ra 9980 (.agg (x.flatMap BJ).toArray) (.agg (y.flatMap BJ).toArray) (x.flatMap BJ) (y.flatMap BJ) (by simp [sb,hd]) (by simp [sb,hd]) (Ka hx) (Ka hy)
        rw [Yh hx hy] at this
        exact this
      ·cases Xi
     ·cases hk
    ·cases wg
   ·cases hb
end Dn
/-
  Functions that are handed a variable do what their abstract run says. Conditions: none.
-/
set_option linter.unusedSimpArgs false
set_option linter.unusedVariables false
namespace Dn
open Go
section
variable {P:Program} {c:Ctx} {Z:bL} {e e':Env} {st bZ:St} {a a':Act} {w w':World} {R:Type} {r:R}
theorem RG {rs:List ResultVar} (hT:kK P c.ti): ∀{e:Env} {st:St} {K:List MV→St→Option R},bX c Z e st a w→QZ c st rs K=some r→
 ∃e' bZ ms vs,bX c Z e' bZ a w∧Ext Z.In e e'∧(rs.mapM (pW a.tmps)).run P w= .ok vs w∧cf e'.key e'.φ vs ms∧K ms bZ=some r:=by
 induction rs with
 |nil=>intro e st K h hK;exact ⟨e,st,[],[],h,.refl _ _,by simp,rfl,hK⟩
 |cons x rs ih=>
  intro e st K h hK
  have go: ∀(s:Slot) (v:Value),ab e v s→(pW a.tmps x).run P w= .ok v w→(lM st s fun m st=>QZ c st rs fun ms st=>K (m::ms) st)=some r→
   ∃e' bZ ms vs,bX c Z e' bZ a w∧Ext Z.In e e'∧((x::rs).mapM (pW a.tmps)).run P w= .ok vs w∧cf e'.key e'.φ vs ms∧K ms bZ=some r:=by
   intro s v hs bS hK
   obtain ⟨e1,ec,m,h1,h2,h3,h4,hK⟩:=nb h hs hK
   obtain ⟨e2,dO,ms,vs,q1,q2,q3,q4,hK⟩:=ih h1 hK
   refine ⟨e2,dO,m::ms,v::vs,q1,h2.trans q2,?_,⟨v,vs,rfl,?_,q4⟩,hK⟩
   ·simp [List.mapM_cons,bS,q3]
   ·have:=h4.mono q2.on.φ
    rw [←q2.on.key] at this;exact this
  simp only [QZ] at hK
  cases x with
  |tmp t=>
   simp only at hK
   have hs:=h.slot t
   by_cases hb: ∃cs,ao st.fr t= .box cs
   ·obtain ⟨cs,hb⟩:=hb
    rw [hb] at hK
    simp [lM] at hK
   ·refine go (ao st.fr t) (a.tmps.getD t undef) ?_ rfl hK
    generalize ao st.fr t=s at hs hb
    cases s<;>first|exact hs|exact absurd ⟨_,rfl⟩ hb
  |cell b t=>
   simp only at hK
   have hs:=h.slot b
   split at hK
   ·rename_i I cs hI hb
    obtain ⟨Nn,PL⟩:=bO hI
    rw [hb] at hs
    obtain ⟨hv,Dz⟩:=hs
    cases B6:eV cs||zo b with
    |true=>simp [B6] at hK
    |false=>
    obtain ⟨we,hpb⟩:=Bool.or_eq_false_iff.1 B6
    simp only [B6,cond_false] at hK
    have hv:=hv.1 hpb
    rw [u7 we] at hv
    obtain ⟨arr,T,c8,qk⟩:=Dz.cells we
    have hm:w.rangeAt (e.B b) 0 arr.toList:=by
     intro j v hj
     rw [Nat.zero_add,cell_of c8];simpa using hj
    obtain ⟨v,s,h1,h2,h3,h4⟩:=lp (P:=P) (st:=st) (s:= .skip) (hT t I Nn) PL qk hm hK
    refine go s v h2 ?_ h4
    simpa [pW,hv,asAddr,Instr.loadAt,Instr.sureAddr] using h1 w hm
   ·simp at hK
theorem E7 {key:Nat→Nat} {φ:Ph} {v:Value} {m:MV} (h:fj key φ v (.cell m)):False:=by
 have:=h.1
 simp [MV.one] at this
theorem aeZ (off pos:Nat):zo (1000000+off *1000+pos)=true:=Nat.ble_eq_true_of_le (by omega)
theorem U1 {f pos:Nat} {ks:List LK} {fn:Func} {b8:List (List Kd)} {ms:List MV} {m:MV} (hG:Good P c) (hD:P7 P c) (hf:P.funcs[f]? =some fn) (AQ:(fn.name== "runtime.NumGoroutine")=false)
 (hn:c.n=fn.ntmps) (hnp:fn.ntmps≤1000000) (q9:fn.params.size+b8.length≤fn.ntmps) (hg:c.eB (c.key f)=true) (y8:c.sig (c.key f)=some (pos,ks)) (hb:HW c b8 pos ks fn ms=some m):kM P c f ms m:=by
 intro φ w Z vs hz fq jo
 unfold HW at hb
 cases pi:fn.body with
 |none=>simp [pi] at hb
 |some b=>
 simp only [pi] at hb
 split at hb
 rotate_left
 ·simp at hb
 rename_i b' off ls BW B6
 cases BW
 cases lJ:!gY c ks||!Nat.ble pos 999 with
 |true=>simp [lJ] at hb
 |false=>
 simp only [lJ,cond_false] at hb
 simp only [Bool.or_eq_false_iff,Bool.not_eq_false'] at lJ
 obtain ⟨jr,eD⟩:=lJ
 have eD:=Nat.le_of_ble_eq_true eD
 simp only [eX,hg,if_true] at fq
 have hC:aas c Z φ w (c.key f) vs ms:=by
  rcases fq with ⟨v0,v1,v2,xs,m1,ys,_,rfl,_,h4,_⟩|⟨v0,v1,v2,xs,m1,m2,_,rfl,_,_,h4,h5⟩|h
  ·exfalso
   rcases pos with _|_|_|pos<;>simp at B6
   subst B6
   exact E7 h4
  ·exfalso
   rcases pos with _|_|_|pos<;>simp at B6
   ·subst B6;exact E7 h4
   ·subst B6;exact E7 h5
  ·exact h
 obtain ⟨pos',ks',QY,wk,bc,yi,hvp,ab2,ud,qj⟩:=hC
 rw [y8] at yi
 simp only [Option.some.injEq,Prod.mk.injEq] at yi
 obtain ⟨rfl,rfl⟩:=yi
 rw [B6] at ab2
 simp only [Option.some.injEq,MV.cell.injEq,MV.func.injEq] at ab2
 obtain ⟨rfl,rfl⟩:=ab2
 obtain ⟨cs,mm,E,arr,T,xl,c8,hzb,ql,qk,fX,eO⟩:=qj
 let e:Env:=⟨c.key,φ,E,fun _=>bc,mm⟩
 have bS:(callFunc f vs.toArray).run P w= .ok (.enter f vs.toArray) w:=by
  have Et: ¬fn.name= "runtime.NumGoroutine" :=by simpa using AQ
  simp [callFunc,hf,Et,pi]
 unfold fP
 rw [bS]
 refine calls_of_wp hf pi ?_
 have ud:cf e.key e.φ vs (ms.set pos (.rp [])):=ud
 obtain ⟨fr,rest,kc,qu,hb,rfl,l1,a2,k1,s1⟩:=CX ud hb
 obtain ⟨n8,hb,l2,k2,s2⟩:=Iq a2 hb
 simp only [uY] at hb
 obtain ⟨fL,ae0,ye,g1,hb⟩:=ju hb
 cases ae0 with
 |cons=>simp [gN] at hb
 |nil=>
 simp only [gN] at hb
 have iV:cs=fL∧mm=ye.aV:=by
  unfold PT at xl
  rw [g1] at xl
  simp only [gN,Option.some.injEq,Prod.mk.injEq] at xl
  exact ⟨xl.1.symm,xl.2.symm⟩
 obtain ⟨rfl,hmm⟩:=iV
 rw [←hmm] at hb
 have htn:(kc++qu).toArray.size=fn.params.size+b8.length:=by simp [l1,l2]
 let a:Act:={tmps:=(kc++qu).toArray++Array.replicate (fn.ntmps-(kc++qu).toArray.size) undef,defers:=[]}
 have Ex: ∀(t:Nat) (v:Value),(kc++qu)[t]? =some v→a.tmps.getD t undef=v:=by
  intro t v ht
  have dn:t<(kc++qu).length:=(List.getElem?_eq_some_iff.1 ht).1
  rw [Array.getD_eq_getD_getElem?]
  show (((kc++qu).toArray++Array.replicate _ undef)[t]?).getD undef=v
  rw [Array.getElem?_append_left (by simpa using dn)]
  simp only [List.getElem?_toArray]
  rw [ht];rfl
 have EW: ∀t,dp (ao (fr++n8) t)=false∧(∀cs,ao (fr++n8) t≠ .box cs)∧ab e (a.tmps.getD t undef) (ao (fr++n8) t):=by
  intro t
  rw [xd]
  by_cases h1:t∈aU fr
  ·simp only [h1,if_true]
   obtain ⟨g1,g2,v,g3,g4⟩:=s1 _ (AP h1)
   refine ⟨g1,?_,?_⟩
   ·intro cs hc;simp only [hc,cP] at g2;cases g2
   ·rw [Ex t v ?_];exact g4
    have dn:t<kc.length:=(List.getElem?_eq_some_iff.1 g3).1
    rw [List.getElem?_append_left dn];exact g3
  ·simp only [h1,if_false]
   by_cases h2:t∈aU n8
   ·obtain ⟨g1,g2,v,g3,g4⟩:=s2 _ (AP h2)
    refine ⟨g1,g2,?_⟩
    rw [Ex t v ?_];exact g4
    have hk:=h2
    rw [k2,List.mem_range'] at hk
    obtain ⟨i,hi,he⟩:=hk
    have AF:fn.params.size=kc.length:=by rw [l1];simp
    rw [List.getElem?_append_right (by omega),←AF];exact g3
   ·rw [qJ _ _ h2]
    exact ⟨rfl,fun cs hc=>(by cases hc),by simp [ab]⟩
 obtain ⟨q,hq⟩: ∃q,q=1000000+off *1000+pos:=⟨_,rfl⟩
 have Oc:zo q=true:=by rw [hq];exact aeZ off pos
 have hpo:posOf q=pos:=by rw [hq];unfold posOf;omega
 have hof:K8 q=off:=by rw [hq];unfold K8;omega
 rw [←hq] at hb
 let Zc:bL:={bL.plain Z with ct:=[pos],T:=fun _=> .pointer (some ⟨bc,off,none⟩)}
 have ae1:a.tmps.getD pos undef= .pointer (some ⟨bc,off,none⟩):=Ex pos _ hvp
 have Rm: ∀t,ao ((q,Slot.box cs)::(fr++n8)) t=if t=q then .box cs else ao (fr++n8) t:=by
  intro t
  simp only [ao,fm]
  by_cases RH:t=q
  ·subst RH;simp
  ·have: ¬q=t:=fun h=>RH h.symm
   simp [RH,this]
 have Qb:aU (fr++n8)=List.range' 0 (fn.params.toList.length+b8.length):=by
  have:aU (fr++n8)=aU fr++aU n8:=by simp [aU]
  rw [this,k1,k2]
  have:=List.range'_append_1 (s:=0) (m:=fn.params.toList.length) (n:=b8.length)
  simpa using this
 have aaE: ∀t ds,ao ((q,Slot.box cs)::(fr++n8)) t= .box ds→t=q:=by
  intro t ds ht
  rw [Rm] at ht
  by_cases RH:t=q
  ·exact RH
  ·rw [if_neg RH] at ht;exact absurd ht ((EW t).2.1 ds)
 have pV:bX c Zc e ⟨[pos],[],(q,.box cs)::(fr++n8),mm⟩ a w:=by
  refine ⟨⟨rfl,rfl,rfl,fun t ht=> ?_⟩,?_,rfl,rfl,?_,?_,?_,fun f o ho=> ?_,fun t t' cs fL h1 h2 db=> ?_,fun t ds f o h1 ho=> ?_,fun f f' o o' k h1 h2 h3 h4=>eO f f' o o' k h1 h2 h3 h4,jo,hz⟩
  ·have:t=pos:=by simpa [Zc] using ht
   rw [this];exact ae1
  ·show ((kc++qu).toArray++Array.replicate (fn.ntmps-(kc++qu).toArray.size) undef).size=c.n
   rw [Array.size_append,Array.size_replicate,htn,hn];omega
  ·show (aU ((q,Slot.box cs)::(fr++n8))).Nodup
   show (q::aU (fr++n8)).Nodup
   rw [Qb]
   refine List.nodup_cons.2 ⟨fun hm=> ?_,List.nodup_range'⟩
   rw [List.mem_range'] at hm
   obtain ⟨i,hi,he⟩:=hm
   have:fn.params.toList.length=fn.params.size:=by simp
   omega
  ·intro t
   show bW Zc e w t _ (ao ((q,Slot.box cs)::(fr++n8)) t)
   rw [Rm]
   by_cases RH:t=q
   ·rw [if_pos RH,RH]
    exact ⟨⟨fun hp=>(by rw [Oc] at hp;cases hp),fun _=>⟨by rw [hpo];simp [Zc],by rw [hof]⟩⟩,⟨.inr hzb,⟨_,c8,rfl,qk⟩,ql⟩⟩
   ·rw [if_neg RH]
    obtain ⟨g1,g2,g3⟩:=EW t
    generalize ao (fr++n8) t=s at g1 g2 g3
    cases s<;>first|exact g3|exact absurd rfl (g2 _)
  ·intro t
   show cv _ (ao ((q,Slot.box cs)::(fr++n8)) t)
   rw [Rm]
   by_cases RH:t=q
   ·rw [if_pos RH];trivial
   ·rw [if_neg RH];exact uc (EW t).1
  ·obtain ⟨I,cells,q1,q2,q3,q4,q5⟩:=(fX f o ho).1.row
   exact ⟨I,cells,q1,q2,q3,q4,fun b hb=>⟨.inr (q5 b hb).1,(q5 b hb).2.1,fun hc=>by simp [Zc,bL.fz,bL.plain] at hc⟩⟩
  ·exact absurd ((aaE t _ h1).trans (aaE t' _ h2).symm) db
  ·exact (fX f o ho).2
 refine P8 hG hD b pV hb ?_
 intro n e' bZ a' w' h' t' hK
 cases hle:Nat.ble n 1 with
 |false=>simp [hle] at hK
 |true=>
  simp only [hle,cond_true] at hK
  obtain ⟨e2,dO,ns,us,q1,q2,q3,q4,hK⟩:=RG (P:=P) hG.ti h' hK
  split at hK
  rotate_left
  ·simp at hK
  rename_i qK zw
  cases PM:eV qK with
  |true=>simp [PM] at hK
  |false=>
  simp only [PM,cond_false] at hK
  obtain ⟨outs,ps,ht,hK⟩:=z6 hK
  simp only [Option.some.injEq] at hK
  have xm:(results fn a'.tmps).run P w'= .ok (if h:us.toArray.size=1 then us.toArray[0] else .tuple us.toArray) w':=by
   have hm:(fn.results.mapM (pW a'.tmps)).run P w'= .ok us.toArray w':=by
    rw [Array.mapM_eq_mapM_toList]
    simp [q3]
   have PM:results fn a'.tmps=(do let vs←fn.results.mapM (pW a'.tmps);pure (if h:vs.size=1 then vs[0] else .tuple vs)):=by
    unfold results
    congr 1
   rw [PM]
   simp [hm]
  have ae2:=q1.slot q
  rw [zw] at ae2
  obtain ⟨_,hT⟩:=ae2.1.2 Oc
  have hB:e2.B q=bc:=by
   have hT:Value.pointer (some ⟨bc,off,none⟩)= .pointer (some ⟨e2.B q,K8 q,none⟩):=hT
   simp only [Value.pointer.injEq,Option.some.injEq,Addr.mk.injEq] at hT
   exact hT.1.symm
  have ae3:bE dO.ct q=false:=by
   rw [q1.defers.2.1]
   cases hh:bE Zc.ct q with
   |false=>rfl
   |true=>
    have:=(bF _ _).1 hh
    have:q=pos:=by simpa [Zc] using this
    omega
  have hco:=(EG q1 zw PM jr ht).wide (AO q1 zw ae3 ht)
  have JS:e2.key=c.key:=q1.key
  have LR: ∃φ',Trans Z φ w φ' w'∧zZ φ' w'∧zx c Z φ' w' (c.key f) (kc++qu) (if h:us.toArray.size=1 then us.toArray[0] else .tuple us.toArray) m:=by
   refine ⟨e2.φ,t'.trans q2.tr,q1.nT,?_⟩
   rw [JS] at q4
   subst hK
   refine ⟨?_,pos,ks,bc,off,y8,hvp,by rw [←hB];exact hco⟩
   by_cases X2: ∃m',ns=[m']
   ·obtain ⟨m',rfl⟩:=X2
    obtain ⟨v,u,rfl,g1,g2⟩:=q4
    have g2:u=[]:=g2
    subst g2
    simp only [List.size_toArray,List.length_singleton,dite_true]
    cases m'<;>first|exact g1|exact absurd g1.1 (by simp [MV.one])
   ·have hm:adV ns= .cN ns:=by
     cases ns with
     |nil=>rfl
     |cons x l=>
      cases l with
      |nil=>exact absurd ⟨x,rfl⟩ X2
      |cons=>rfl
    have db:us.toArray.size≠1:=by
     intro h1
     have:=q4.length
     rw [List.size_toArray] at h1
     rw [h1] at this
     obtain ⟨m1,h2⟩:=List.length_eq_one_iff.1 this.symm
     exact X2 ⟨m1,h2⟩
    rw [hm,dif_neg db]
    exact ⟨us.toArray,rfl,by simpa using q4⟩
  match n,hle with
  |0,_=>exact ⟨h'.defers.1,_,xm,_,rfl,LR⟩
  |1,_=>exact ⟨h'.defers.1,_,xm,_,rfl,LR⟩
  |n+2,hle=>simp [Nat.ble] at hle
end
end Dn
/-
  Operations whose order is open. Conditions: none.
-/
set_option linter.unusedSimpArgs false
set_option linter.unusedVariables false
namespace Dn
open Go
section
variable {P:Program} {c:Ctx} {ops:Array Oper} {N:Act→World→Prop}
def qv (N:Act→World→Prop):Exit→Act→World→Prop
 | .normal,a,w=>N a w
 |_,_,_=>False
def vo (c:Ctx) (oi:Oper) (ops:Array Oper) (i:Nat):Bool:=match ops[i]? with|some o=>Tw c o||zq oi o|none=>true
def Hk (P:Program) (c:Ctx) (ops:Array Oper) (N:Act→World→Prop) (φ:Ph):Nat→Array Bool→Act→World→Prop
 |0,listed,a,w=>Region.ready .any ops listed=[]∧N a w
 |fuel+1,listed,a,w=>(Region.ready .any ops listed=[]→N a w)∧
  ∀i∈Region.ready .any ops listed,wpOp P ops (qv N) i (fun a' w'=>((∀oi,vo c oi ops i=true→e9 c oi w w')∧zZ φ w')∧Hk P c ops N φ fuel (listed.setIfInBounds i true) a' w') a w
theorem RI {φ φ':Ph} (hp:qp φ φ'): ∀(fuel:Nat) (listed:Array Bool) (a:Act) (w:World),Hk P c ops N φ' fuel listed a w→Hk P c ops N φ fuel listed a w:=by
 intro fuel
 induction fuel with
 |zero=>intro listed a w h;exact h
 |succ fuel ih=>intro listed a w h;exact ⟨h.1,fun i hi=>wpOp_mono (fun a w h=>⟨⟨h.1.1,fun b o v hv=>h.1.2 b o v (hp b o v hv)⟩,ih _ _ _ h.2⟩) (h.2 i hi)⟩
theorem U2 {φ:Ph}: ∀(fuel:Nat) (listed:Array Bool) (a:Act) (w:World),Hk P c ops N φ fuel listed a w→wpAny P .any ops (qv N) fuel listed a w:=by
 intro fuel
 induction fuel with
 |zero=>intro listed a w h;exact h
 |succ fuel ih=>intro listed a w h;exact ⟨h.1,fun i hi=>wpOp_mono (fun a w h=>ih _ _ _ h.2) (h.2 i hi)⟩
theorem Ok {oi oj p:Oper} {w w':World} (h1:zq oi p=true) (h2:zq oj p=true) (h:e9 c oi w w'):e9 c oj w w':=by
 unfold zq at h1 h2
 split at h1
 ·rename_i t t' g1 g2
  split at h2
  ·rename_i u u' g3 g4
   rw [g2] at g4
   cases g4
   have e1:=Nat.eq_of_beq_eq_true h1
   have e2:=Nat.eq_of_beq_eq_true h2
   subst e1;subst e2
   simpa [e9,Rn,g1,g3] using h
  ·cases h2
 ·cases h1
theorem ab3 {j:Nat} {oi oj:Oper} {v:Value} (hj:ops[j]? =some oj) (tY:oi.apart ops oj=true)
 (hsi: ∀cs b,oi.op≠ .select cs b) (hsj: ∀cs b,oj.op≠ .select cs b) {K:Act→World→Prop} {a:Act} {w:World} (h:wpOp P ops (qv N) j K (a.put oi.dst v) w):
 wpOp P ops (qv N) j (fun a' w'=>(execOp a'.eval oi=execOp a.eval oi∧Region.wanted oi (yielded ops a'.tmps)=Region.wanted oi (yielded ops a.tmps))∧K (a'.put oi.dst v) w') a w:=by
 obtain ⟨h1,h2,h3⟩:=Oper.apart_spec tY
 have keep: ∀(a:Act) (u:Value),execOp (a.put oj.dst u).eval oi=execOp a.eval oi∧Region.wanted oi (yielded ops (a.put oj.dst u).tmps)=Region.wanted oi (yielded ops a.tmps):=
  fun a u=>⟨execOp_put oi hsi a oj.dst u h3,wanted_put oi a oj.dst u h3⟩
 unfold wpOp at *
 simp only [hj] at *
 rw [wanted_put oj a oi.dst v h1] at h
 split
 ·rename_i hw
  simp only [hw,if_true] at h
  rcases h with h|⟨ae4,U3⟩
  case inr=>obtain ⟨_,_,hf⟩:=U3;exact hf.elim
  refine .inl ?_
  unfold Oper.wp at *
  rw [execOp_put oj hsj a oi.dst v h1] at h
  generalize (execOp a.eval oj).run P w=r at *
  cases r with
  |ok n w'=>
   cases n<;>simp only [Oper.upon] at h⊢
   case value u=>exact ⟨keep a u,by rw [←Act.put_comm a v u h2];exact h⟩
   case skip=>exact ⟨keep a _,by rw [←Act.put_comm a v undef h2];exact h⟩
   case defer d=>
    refine ⟨keep _ _,?_⟩
    rw [←Act.put_comm _ v undef h2,←Act.put_defers]
    exact h
   case enter f args=>
    refine Calls.mono h fun x yg he=> ?_
    cases x with
    |returned u=>exact ⟨keep a u,by rw [←Act.put_comm a v u h2];exact he⟩
    |panicked c=>exact he
    |outgrown=>exact he
   case row row args=>exact Rows.mono h fun u yg he=>⟨keep a u,by rw [←Act.put_comm a v u h2];exact he⟩
  |halt x w'=>
   cases x<;>simp only [Oper.upon] at h⊢
   case panic u=>exact h
 ·rename_i hw
  simp only [hw] at h
  exact ⟨keep a _,by rw [←Act.put_comm a v undef h2];exact h⟩
def Qc (P:Program) (c:Ctx) (ops:Array Oper) (φ:Ph) (o:Oper) (v:Value) (a:Act) (w:World):Prop:=
 (Region.wanted o (yielded ops a.tmps)=true∧ ∀w',(lk c o=true→(still c o=false→e9 c o w w')∧zZ φ w')→(execOp a.eval o).run P w'= .ok (.value v) w')∨
 (Region.wanted o (yielded ops a.tmps)=false∧v=undef)
theorem E8 {φ:Ph} {i:Nat} {oi:Oper} {v:Value} {D:List Nat} (hD: ∀j oj,j∈D→j≠i→ops[j]? =some oj→ ∃e∈oj.after,Region.binds .any e=true∧e.on∈D) (hi:ops[i]? =some oi) (LY: ∀(j:Nat) (o:Oper) cs b,ops[j]? =some o→o.op≠ .select cs b):
 ∀(fuel:Nat) (listed:Array Bool) (a:Act) (w:World),
  (∀j oj,ops[j]? =some oj→j∉D→j≠i→listed.getD j true=false→oi.apart ops oj=true∧(lk c oi=true→still c oi=false→vo c oi ops j=true))→(∀d∈D,listed.getD d false=false)→
  i∈Region.ready .any ops listed→Qc P c ops φ oi v a w→zZ φ w→
  Hk P c ops N φ fuel (listed.setIfInBounds i true) (a.put oi.dst v) w→Hk P c ops N φ (fuel+1) listed a w:=by
 have self: ∀(fuel:Nat) (listed:Array Bool) (a:Act) (w:World),Qc P c ops φ oi v a w→zZ φ w→Hk P c ops N φ fuel (listed.setIfInBounds i true) (a.put oi.dst v) w→
  wpOp P ops (qv N) i (fun a' w'=>((∀oi,vo c oi ops i=true→e9 c oi w w')∧zZ φ w')∧Hk P c ops N φ fuel (listed.setIfInBounds i true) a' w') a w:=by
  intro fuel listed a w hy hm H
  unfold wpOp
  simp only [hi]
  rcases hy with ⟨hw,hv⟩|⟨hw,rfl⟩
  ·simp only [hw,if_true,Oper.wp,hv w (fun _=>⟨fun _=>(dz.refl w).for,hm⟩),Oper.upon]
   exact .inl ⟨⟨fun _ _=>(dz.refl w).for,hm⟩,H⟩
  ·simp only [hw,Bool.false_eq_true,if_false]
   exact ⟨⟨fun _ _=>(dz.refl w).for,hm⟩,H⟩
 intro fuel
 induction fuel with
 |zero=>
  intro listed a w _ _ hr hy hm H
  refine ⟨fun h=>(by rw [h] at hr;cases hr),fun j hj=> ?_⟩
  by_cases Td:j=i
  ·subst Td;exact self 0 listed a w hy hm H
  ·have:=ready_mono hj Td
   rw [H.1] at this
   cases this
 |succ fuel ih=>
  intro listed a w ql DB hr hy hm H
  refine ⟨fun h=>(by rw [h] at hr;cases hr),fun j hj=> ?_⟩
  by_cases Td:j=i
  ·subst Td;exact self (fuel+1) listed a w hy hm H
  ·have h1:=H.2 j (ready_mono hj Td)
   obtain ⟨Yj,oj,hoj,mb⟩:=mem_ready.1 hj
   have hjD:j∉D:=by
    intro hjd
    obtain ⟨e,he,hb,tp⟩:=hD j oj hjd Td hoj
    have h1:=mb e he hb
    rw [DB e.on tp] at h1;cases h1
   obtain ⟨tY,hgr⟩:=ql j oj hoj hjD Td Yj
   have h2:=ab3 hoj tY (fun cs b=>LY i oi cs b hi) (fun cs b=>LY j oj cs b hoj) h1
   have ae5: ∀d∈D,(listed.setIfInBounds j true).getD d false=false:=by
    intro d hd
    rw [getD_set_ne false (fun he=>hjD (by rw [he];exact hd))];exact DB d hd
   have ab4: ∀k ok,ops[k]? =some ok→k∉D→k≠i→(listed.setIfInBounds j true).getD k true=false→oi.apart ops ok=true∧(lk c oi=true→still c oi=false→vo c oi ops k=true):=fun k ok hk hkD Yk hun=>by
    refine ql k ok hk hkD Yk ?_
    by_cases Yl:j=k
    ·subst Yl;exact Yj
    ·rw [getD_set_ne true Yl] at hun;exact hun
   refine wpOp_mono (fun a' w' h3=>⟨h3.2.1,ih (listed.setIfInBounds j true) a' w' ab4 ae5 (ready_mono hr (Ne.symm Td)) ?_ h3.2.1.2 ?_⟩) h2
   ·obtain ⟨⟨he,hwn⟩,⟨hg,_⟩,_⟩:=h3
    rcases hy with ⟨hw,hv⟩|⟨hw,rfl⟩
    ·refine .inl ⟨by rw [hwn];exact hw,fun yg RJ=> ?_⟩
     rw [he]
     exact hv yg (fun hl=>⟨fun hs=>(hg oi (hgr hl hs)).trans ((RJ hl).1 hs),(RJ hl).2⟩)
    ·exact .inr ⟨by rw [hwn];exact hw,rfl⟩
   ·rw [Array.setIfInBounds_comm _ _ Td]
    exact h3.2.2
variable {Z:bL} {R:Type} {K:St→Option R} {r:R}
theorem RL (op:Op):NF op=op.operands.toList:=by
 cases op<;>first|rfl|simp [NF,Op.operands,Call.operands]
 all_goals first|rfl|(rename_i c;cases c.callee<;>simp)
theorem U4 (l:List Operand):Lg l=l.filterMap fun| .tmp t=>some t|_=>none:=by
 induction l with
 |nil=>rfl
 |cons x l ih=>cases x<;>simp [Lg,ih]
theorem Ix (o:Oper):JE ops.toList o=o.looksAt ops:=by
 unfold JE Oper.looksAt
 rw [RL,U4]
 congr 1
 cases o.guard with
 |none=>rfl
 |some g=>
  obtain ⟨g,wnt⟩:=g
  simp only [Array.getElem?_toList]
  cases ops[g]? <;>rfl
theorem yu {x y:Oper} (h:JF ops.toList x y=true):x.apart ops y=true:=by
 unfold JF at h
 unfold Oper.apart
 rw [Ix,Ix] at h
 have hn: ∀(l:List Nat) (d:Nat),bE l d=l.contains d:=by
  intro l d
  have:=bF l d
  cases h1:bE l d<;>cases h2:l.contains d<;>simp_all
 cases hx:x.dst<;>cases hy:y.dst<;>simp_all [bne,fm]
theorem ue (e:Edge):Eg e=Region.binds .any e:=by
 unfold Eg Region.binds
 cases e.ground<;>rfl
structure U5 (ops:Array Oper) (listed:Array Bool) (pre:List Nat):Prop where
 size:listed.size=ops.size
 mem: ∀i,i<ops.size→(listed.getD i true=true↔i∈pre)
theorem U5.set {listed:Array Bool} {pre:List Nat} {x:Nat} (h:U5 ops listed pre) (hx:x<ops.size):U5 ops (listed.setIfInBounds x true) (x::pre):=by
 refine ⟨by simpa using h.size,fun i hi=> ?_⟩
 by_cases Te:x=i
 ·subst Te
  have:x<listed.size:=by rw [h.size];exact hx
  simp [this]
 ·rw [getD_set_ne true Te,h.mem i hi]
  simp only [List.mem_cons]
  exact ⟨.inr,fun hh=>hh.resolve_left (fun he=>Te he.symm)⟩
theorem U5.AU {listed:Array Bool} {pre:List Nat} {i:Nat} (h:U5 ops listed pre) (hi:i<ops.size):listed.getD i true=false↔i∉pre:=by
 rw [←h.mem i hi];cases listed.getD i true<;>simp
theorem U5.done {listed:Array Bool} {pre:List Nat} {i:Nat} (h:U5 ops listed pre) (hi:i<ops.size):listed.getD i false=true↔i∈pre:=by
 rw [←h.mem i hi]
 have hl:i<listed.size:=by rw [h.size];exact hi
 simp [hl]
theorem xp: ∀(rest pre:List Nat),tS c ops.toList pre rest=true→ ∀z∈rest,z∉pre:=by
 intro rest
 induction rest with
 |nil=>intro pre _ z hz;cases hz
 |cons y rest ihr=>
  intro pre hd z hz
  simp only [tS] at hd
  cases hy:ops.toList[y]? with
  |none=>simp [hy] at hd
  |some oy=>
   simp only [hy,Bool.and_eq_true,Bool.not_eq_true'] at hd
   rcases List.mem_cons.1 hz with rfl|hz
   ·rw [←bF,hd.1.1.1.2];simp
   ·exact fun hzp=>ihr (y::pre) hd.2 z hz (by simp [hzp])
theorem Hl {o:Oper} {x:Nat}: ∀(rest D0:List Nat),qX c ops.toList o D0 rest=true→(∀y,y∈D0→y≠x→ ∃p,ops[y]? =some p∧ ∃e∈p.after,Region.binds .any e=true∧e.on∈D0)→
 ∃D:List Nat,(∀y∈D0,y∈D)∧(∀y∈D,y∈D0∨y∈rest)∧(∀j oj,j∈D→j≠x→ops[j]? =some oj→ ∃e∈oj.after,Region.binds .any e=true∧e.on∈D)∧
  (∀y∈rest,y∉D→ ∃p,ops[y]? =some p∧o.apart ops p=true∧(lk c o=true→still c o=false→(Tw c p||zq o p)=true)):=by
 intro rest
 induction rest with
 |nil=>
  intro D0 _ h0
  refine ⟨D0,fun y hy=>hy,fun y hy=> .inl hy,fun j oj hj db ho=> ?_,fun y hy=>by cases hy⟩
  obtain ⟨p,hp,he⟩:=h0 j hj db
  rw [ho] at hp;cases hp;exact he
 |cons y rest ih=>
  intro D0 h h0
  simp only [qX] at h
  cases hy:ops.toList[y]? with
  |none=>simp [hy] at h
  |some p=>
   simp only [hy] at h
   have hy':ops[y]? =some p:=by simpa using hy
   cases he:zQ p (bE D0) with
   |true=>
    simp only [he,cond_true] at h
    obtain ⟨D,D1,D2,D3,D4⟩:=ih (y::D0) h (by
     intro z hz db
     rcases List.mem_cons.1 hz with rfl|hz
     ·unfold zQ at he
      obtain ⟨ed,Ym,hb⟩:=List.any_eq_true.1 he
      simp only [Bool.and_eq_true,ue] at hb
      exact ⟨p,hy',ed,by simpa using Ym,hb.1,by simp [(bF _ _).1 hb.2]⟩
     ·obtain ⟨q,hq,ed,h1,h2,h3⟩:=h0 z hz db
      exact ⟨q,hq,ed,h1,h2,by simp [h3]⟩)
    refine ⟨D,fun z hz=>D1 z (by simp [hz]),fun z hz=> ?_,D3,fun z hz hzD=> ?_⟩
    ·rcases D2 z hz with h1|h1
     ·rcases List.mem_cons.1 h1 with h1|h1
      ·exact .inr (by simp [h1])
      ·exact .inl h1
     ·exact .inr (by simp [h1])
    ·rcases List.mem_cons.1 hz with rfl|hz
     ·exact absurd (D1 z (by simp)) hzD
     ·exact D4 z hz hzD
   |false=>
    simp only [he,cond_false,Bool.and_eq_true,Bool.or_eq_true,Bool.not_eq_true'] at h
    obtain ⟨⟨h1,h2⟩,h3⟩:=h
    obtain ⟨D,D1,D2,D3,D4⟩:=ih D0 h3 h0
    refine ⟨D,D1,fun z hz=>(D2 z hz).imp id (fun h=>by simp [h]),D3,fun z hz hzD=> ?_⟩
    rcases List.mem_cons.1 hz with rfl|hz
    ·refine ⟨p,hy',yu h1,fun hl hs=> ?_⟩
     rcases h2 with ((h2|h2)|h2)|h2
     ·rw [hl] at h2;cases h2
     ·simp [h2]
     ·rw [hs] at h2;cases h2
     ·simp [h2]
    ·exact D4 z hz hzD
def bL.outs (Z:bL) (bs:List Nat):bL:={Z with In:=fun b=>Z.In b∧b∉bs,Pr:=fun b=>Z.Pr b∧b∉bs}
theorem bX.C0 {Z Z':bL} {e:Env} {st:St} {a:Act} {w:World} (h:bX c Z e st a w) (hI: ∀b,Z.In b→Z'.In b) (hP: ∀b,Z.Pr b→Z'.Pr b) (h1:Z'.ct=Z.ct) (h2:Z'.cu=Z.cu) (h3:Z'.T=Z.T) (h4:Z'.cov=Z.cov):bX c Z' e st a w:=by
 refine ⟨by rw [h1,h2,h3];exact h.defers,h.size,h.m,h.key,h.nodup,fun t=> ?_,h.root,fun f o ho=> ?_,h.bb,h.bf,h.ff,h.nT,fun b hb=>hI b (h.cr b hb)⟩
 ·have hs:=h.slot t
  generalize ao st.fr t=s at hs
  cases s<;>simp only [bW] at hs⊢ <;>first|exact hs|skip
  exact ⟨⟨hs.1.1,fun hp=>by rw [h1,h3];exact hs.1.2 hp⟩,⟨by rcases hs.2.cr with ⟨x,y⟩|x;exact .inl ⟨by rw [h1];exact x,hP _ y⟩;exact .inr (hI _ x),hs.2.obj,hs.2.free⟩⟩
 ·obtain ⟨I,cells,g1,g2,g3,g4,g5⟩:=(h.iT f o ho).row
  refine ⟨I,cells,g1,g2,g3,g4,fun bc hb=> ?_⟩
  obtain ⟨k1,k2,k3⟩:=g5 bc hb
  refine ⟨?_,k2,fun hc hz j hj=>k3 (by have hc:f∈Z'.cu:=hc;rw [h2] at hc;exact hc) hz j hj⟩
  rcases k1 with ⟨x,y⟩|x
  ·exact .inl ⟨by rw [h2];exact x,hP _ y⟩
  ·exact .inr (hI _ x)
theorem bX.narrow {e:Env} {st:St} {a:Act} {w w':World} {bs:List Nat} (h:bX c (Z.outs bs) e st a w) (g:dz w w') (hs:w.heap.size<w'.heap.size):bX c (Z.outs (w.heap.size::bs)) e st a w':=by
 have h':=h.grow g
 have sa: ∀b,b<w.heap.size→(Z.outs bs).In b→(Z.outs (w.heap.size::bs)).In b:=fun b hb hi=>⟨hi.1,by simp only [List.mem_cons,not_or];exact ⟨by omega,hi.2⟩⟩
 have EB: ∀b,b<w.heap.size→(Z.outs bs).Pr b→(Z.outs (w.heap.size::bs)).Pr b:=fun b hb hi=>⟨hi.1,by simp only [List.mem_cons,not_or];exact ⟨by omega,hi.2⟩⟩
 refine ⟨h'.defers,h'.size,h'.m,h'.key,h'.nodup,fun t=> ?_,h'.root,fun f o ho=> ?_,h'.bb,h'.bf,h'.ff,h'.nT,fun b hb=> ?_⟩
 ·have hs:=h.slot t
  have yi:=h'.slot t
  generalize ao st.fr t=s at hs yi
  cases s<;>simp only [bW] at hs yi⊢ <;>first|exact yi|skip
  obtain ⟨o2,k1,_⟩:=hs.2.obj
  have hl:=bB k1
  exact ⟨yi.1,⟨by rcases yi.2.cr with ⟨x,y⟩|x;exact .inl ⟨x,EB _ hl y⟩;exact .inr (sa _ hl x),yi.2.obj,yi.2.free⟩⟩
 ·obtain ⟨I,cells,g1,g2,g3,g4,g5⟩:=(h'.iT f o ho).row
  refine ⟨I,cells,g1,g2,g3,g4,fun bc hb=> ?_⟩
  obtain ⟨k1,k2,k3⟩:=g5 bc hb
  refine ⟨?_,k2,k3⟩
  have hl:bc<w.heap.size:=by
   obtain ⟨I',TU,l1,l2,l3,l4,l5⟩:=(h.iT f o ho).row
   rcases l3.2 with ⟨hv,_⟩|⟨gg,cap,dm,hv,_,hg,_⟩
   ·rw [hv] at hb;simp [Value.ownBlock] at hb
   ·rw [hv] at hb
    simp only [Value.ownBlock,Option.some.injEq] at hb
    have:=bB hg
    omega
  rcases k1 with ⟨x,y⟩|x
  ·exact .inl ⟨x,EB _ hl y⟩
  ·exact .inr (sa _ hl x)
 ·refine ⟨(h.cr b (by omega)).1,?_⟩
  simp only [List.mem_cons,not_or]
  exact ⟨by omega,(h.cr b (by omega)).2⟩
def Yn (b:Nat):Value:= .pointer (some ⟨b,0,none⟩)
def uf (ops:Array Oper) (i:Nat):Option Nat:=match ops[i]? with
 |some o=>o.dst
 |none=>none
def tu (ops:Array Oper):List (Nat×Nat)→Act→Act
 |[],a=>a
 |p::r,a=>(tu ops r a).put (uf ops p.1) (Yn p.2)
structure Yo (c:Ctx) (Z:bL) (ops:Array Oper) (e:Env) (w:World) (p:Nat×Nat):Prop where
 row: ∃o t I d arr T,ops[p.1]? =some o∧Lh o=true∧o.op= .alloc t∧c.tv t=some I∧o.dst=some d∧w.heap[p.2]? =some (.cells arr T (0,0))∧ ∀e':Env,aw e' arr.toList I.zero
 free: ∀off,e.φ p.2 off=none
 cr:Z.In p.2
theorem yv {o:Oper} (h:Lh o=true): ∃t d,o.op= .alloc t∧o.dst=some d∧o.guard=none∧ ∀e∈o.after,Region.binds .any e=false:=by
 unfold Lh at h
 split at h
 ·rename_i t d h1 h2 h3
  refine ⟨t,d,h1,h2,h3,fun e he=> ?_⟩
  have:=List.all_eq_true.1 h e (by simpa using he)
  simpa [ue] using this
 ·cases h
theorem z7 {t:TypeId} {I:TI} (hI:c.tv t=some I) (hT:kK P c.ti): ∃i z,P.info? t=some i∧i.zero=some z∧ ∀e:Env,aw e z.cells.toList I.zero:=by
 obtain ⟨r8,hc⟩:=bO hI
 obtain ⟨d,i,h1,h2,h3,h4⟩:=hT t I r8
 suffices hz: ∃z,i.zero=some z∧ ∀e:Env,aw e z.cells.toList I.zero by
  obtain ⟨z,h5,h6⟩:=hz
  exact ⟨i,z,h2,h5,h6⟩
 cases d<;>simp only [q8] at h4
 case struct fs=>obtain ⟨_,_,_,_,_,_,cs,hz,hl,_⟩:=h4;exact ⟨_,hz,fun e=>by simpa [Value.cells] using kL hl⟩
 case tuple ts=>exact absurd hc h4.2.1
 case slice el=>obtain ⟨_,_,_,_,_,hz,hl,_⟩:=h4;exact ⟨_,hz,fun e=>by rw [hl];exact ⟨[.slice none 0 0],[],rfl,rfl,rfl⟩⟩
 case array n el=>obtain ⟨_,_,_,_,_,_,_,hl,hz⟩:=h4;exact ⟨_,hz,fun e=>by rw [hl];exact ⟨bq kE.zero,[],by simp [Value.cells],rfl,rfl⟩⟩
 case bool=>obtain ⟨_,_,_,_,hl,hz⟩:=h4;exact ⟨_,hz,fun e=>by rw [hl];exact ⟨[.bool false],[],rfl,⟨rfl,.b _⟩,rfl⟩⟩
 case int k=>obtain ⟨_,_,_,_,hl,hz⟩:=h4;exact ⟨_,hz,fun e=>by rw [hl];exact ⟨[.int k 0],[],rfl,⟨rfl,.i _ _⟩,rfl⟩⟩
 case string=>
  obtain ⟨_,_,_,_,hl,b,hz,hb⟩:=h4
  refine ⟨_,hz,fun e=>by rw [hl];refine ⟨[.string b],[],rfl,⟨rfl,?_⟩,rfl⟩;rw [←hb];exact .s b⟩
 all_goals
  obtain ⟨_,_,_,_,v,hz,hv,hl⟩:=h4
  refine ⟨v,hz,fun e=> ?_⟩
  have:v.cells.toList=[v]:=by cases v<;>simp_all [Value.cells,Value.oneCell']
  rw [this];exact kL hl
theorem C1 {o:Oper} (hs: ∀cs b,o.op≠ .select cs b) (a:Act): ∀(pd:List (Nat×Nat)),(∀p∈pd,∀d,uf ops p.1=some d→d∉o.looksAt ops)→
 execOp (tu ops pd a).eval o=execOp a.eval o∧Region.wanted o (yielded ops (tu ops pd a).tmps)=Region.wanted o (yielded ops a.tmps)
 |[],_=>⟨rfl,rfl⟩
 |p::r,h=>by
  obtain ⟨h1,h2⟩:=C1 hs a r (fun q hq=>h q (by simp [hq]))
  have hp:=h p (by simp)
  exact ⟨(execOp_put o hs _ _ _ hp).trans h1,(wanted_put o _ _ _ hp).trans h2⟩
theorem AV (a:Act) (y:Option Nat) (v:Value): ∀(pd:List (Nat×Nat)),(∀p∈pd,∀d,uf ops p.1=some d→y≠some d)→(tu ops pd a).put y v=tu ops pd (a.put y v)
 |[],_=>rfl
 |p::r,h=>by
  simp only [tu]
  rw [Act.put_comm _ _ _ (fun d hd=>h p (by simp) d hd),AV a y v r (fun q hq=>h q (by simp [hq]))]
theorem Yp {j:Nat} {oj:Oper} {x:Option Nat} {v:Value} (hj:ops[j]? =some oj) (h1: ∀d,x=some d→d∉oj.looksAt ops) (h2: ∀d,x=some d→oj.dst≠some d)
 (hsj: ∀cs b,oj.op≠ .select cs b) {K:Act→World→Prop} {a:Act} {w:World} (h:wpOp P ops (qv N) j K a w):
 wpOp P ops (qv N) j (fun a' w'=> ∃a'',a'=a''.put x v∧K a'' w') (a.put x v) w:=by
 unfold wpOp at *
 simp only [hj] at *
 rw [wanted_put oj a x v h1]
 split
 ·rename_i hw
  simp only [hw,if_true] at h
  rcases h with h|⟨ae4,U3⟩
  case inr=>obtain ⟨_,_,hf⟩:=U3;exact hf.elim
  refine .inl ?_
  unfold Oper.wp at *
  rw [execOp_put oj hsj a x v h1]
  generalize (execOp a.eval oj).run P w=r at *
  cases r with
  |ok n w'=>
   cases n<;>simp only [Oper.upon] at h⊢
   case value u=>exact ⟨_,Act.put_comm a v u h2,h⟩
   case skip=>exact ⟨_,Act.put_comm a v undef h2,h⟩
   case defer d=>
    refine ⟨{a.put oj.dst undef with defers:=d::(a.put oj.dst undef).defers},?_,by simpa [Act.put_defers] using h⟩
    have:=Act.put_comm a v undef h2
    cases x<;>cases hd:oj.dst<;>simp_all [Act.put]
   case enter f args=>
    refine Calls.mono h fun y yg he=> ?_
    cases y with
    |returned u=>exact ⟨_,Act.put_comm a v u h2,he⟩
    |panicked c=>exact he
    |outgrown=>exact he
   case row row args=>exact Rows.mono h fun u yg he=>⟨_,Act.put_comm a v u h2,he⟩
  |halt y w'=>
   cases y<;>simp only [Oper.upon] at h⊢
   case panic u=>exact h
 ·rename_i hw
  simp only [hw] at h
  exact ⟨_,Act.put_comm a v undef h2,h⟩
theorem Qd {j:Nat} {oj:Oper} (hj:ops[j]? =some oj) (hsj: ∀cs b,oj.op≠ .select cs b) {K:Act→World→Prop} {a:Act} {w:World} (h:wpOp P ops (qv N) j K a w): ∀(pd:List (Nat×Nat)),
 (∀p∈pd,∀d,uf ops p.1=some d→d∉oj.looksAt ops∧oj.dst≠some d)→wpOp P ops (qv N) j (fun a' w'=> ∃a'',a'=tu ops pd a''∧K a'' w') (tu ops pd a) w
 |[],_=>wpOp_mono (fun a' w' hk=>⟨a',rfl,hk⟩) h
 |p::r,hp=>by
  have h1:=Qd hj hsj h r (fun q hq=>hp q (by simp [hq]))
  have h2:=Yp (v:=Yn p.2) hj (fun d hd=>(hp p (by simp) d hd).1) (fun d hd=>(hp p (by simp) d hd).2) hsj h1
  refine wpOp_mono ?_ h2
  rintro a' w' ⟨a1,rfl,a2,rfl,hk⟩
  exact ⟨a2,rfl,hk⟩
theorem Cc: ∀{l m:List Nat},l.Nodup→(∀x∈l,x∈m)→l.length≤m.length
 |[],m,_,_=>Nat.zero_le _
 |x::l,m,hn,hs=>by
  have hn:=List.nodup_cons.1 hn
  have h1:l.length≤(m.erase x).length:=Cc hn.2 fun y hy=>(List.mem_erase_of_ne (fun he=>hn.1 (by rw [←he];exact hy))).2 (hs y (by simp [hy]))
  have h2:=List.length_erase_of_mem (hs x (by simp))
  have h3:0<m.length:=List.length_pos_of_mem (hs x (by simp))
  simp only [List.length_cons];omega
theorem LZ {x b:Nat} {o:Oper} (hdo:uf ops x=o.dst) (a:Act) (pr:List (Nat×Nat)): ∀(pl:List (Nat×Nat)),(∀p∈pl++pr,∀dd,uf ops p.1=some dd→o.dst≠some dd)→tu ops (pl++(x,b)::pr) a=tu ops (pl++pr) (a.put o.dst (Yn b))
 |[],h=>by
  simp only [List.nil_append,tu,hdo]
  exact AV a o.dst (Yn b) pr (fun p hp=>h p (by simp [hp]))
 |q::pl,h=>by
  simp only [List.cons_append,tu]
  rw [LZ hdo a pr pl (fun p hp=>h p (by simp only [List.cons_append,List.mem_cons];exact .inr hp))]
theorem U5.congr {listed:Array Bool} {l l':List Nat} (h:U5 ops listed l) (he: ∀i,i∈l↔i∈l'):U5 ops listed l':=⟨h.size,fun i hi=>by rw [h.mem i hi,he]⟩
theorem L0 {o:Oper}: ∀(rest D:List Nat),qX c ops.toList o D rest=true→ ∀y∈rest,∀p,ops[y]? =some p→Lh p=true→o.apart ops p=true:=by
 intro rest
 induction rest with
 |nil=>intro D _ y hy;cases hy
 |cons z rest ih=>
  intro D h y hy p hp DA
  simp only [qX] at h
  cases hz:ops.toList[z]? with
  |none=>simp [hz] at h
  |some q=>
   simp only [hz] at h
   cases he:zQ q (bE D) with
   |true=>
    simp only [he,cond_true] at h
    rcases List.mem_cons.1 hy with rfl|hy
    ·exfalso
     have hz':ops[y]? =some q:=by simpa using hz
     rw [hz'] at hp;cases hp
     obtain ⟨_,_,_,_,_,db⟩:=yv DA
     unfold zQ at he
     obtain ⟨ed,Ym,hb⟩:=List.any_eq_true.1 he
     simp only [Bool.and_eq_true,ue] at hb
     rw [db ed (by simpa using Ym)] at hb
     exact absurd hb.1 (by simp)
    ·exact ih _ h y hy p hp DA
   |false=>
    simp only [he,cond_false,Bool.and_eq_true] at h
    rcases List.mem_cons.1 hy with rfl|hy
    ·have hz':ops[y]? =some q:=by simpa using hz
     rw [hz'] at hp;cases hp
     exact yu h.1.1
    ·exact ih _ h.2 y hy p hp DA
theorem E9 {o p:Oper} {y:Nat} (hp:ops[y]? =some p) (h:p.apart ops o=true∨o.apart ops p=true): ∀d,uf ops y=some d→d∉o.looksAt ops∧o.dst≠some d:=by
 intro d hd
 have hd:p.dst=some d:=by simpa [uf,hp] using hd
 rcases h with h|h
 ·obtain ⟨h1,h2,h3⟩:=Oper.apart_spec h
  exact ⟨h1 d hd,h2 d hd⟩
 ·obtain ⟨h1,h2,h3⟩:=Oper.apart_spec h
  exact ⟨h3 d hd,fun he=>h2 d he hd⟩
theorem Yo.later {Z:bL} {bs:List Nat} {e e':Env} {w w':World} {p:Nat×Nat} (h:Yo c Z ops e w p) (hb:p.2∈bs) (t:Trans (Z.outs bs).In e.φ w e'.φ w'):Yo c Z ops e' w' p:=by
 obtain ⟨o,ty,I,d,arr,T,h1,h2,h3,h4,h5,h6,h7⟩:=h.row
 have hn: ¬(Z.outs bs).In p.2:=fun hh=>hh.2 hb
 exact ⟨⟨o,ty,I,d,arr,T,h1,h2,h3,h4,h5,by rw [t.heap _ hn (bB h6)];exact h6,h7⟩,fun off=>by rw [t.free _ off hn];exact h.free off,h.cr⟩
theorem Trans.wide {Z Z':Nat→Prop} {φ φ':Ph} {w w':World} (t:Trans Z φ w φ' w') (h: ∀b,Z b→Z' b):Trans Z' φ w φ' w':=
 ⟨t.ph,fun b hb hl=>t.heap b (fun hz=>hb (h b hz)) hl,fun b o hb=>t.free b o (fun hz=>hb (h b hz)),t.size,t.rest⟩
theorem Yq (hG:Good P c) (LY: ∀(j:Nat) (o:Oper) cs b,ops[j]? =some o→o.op≠ .select cs b) {φ0:Ph} {w0:World} (hN: ∀a' w',Out c Z K r φ0 w0 a' w'→N a' w'):
 ∀(m:Nat) (rest pre:List Nat) (pd:List (Nat×Nat)) (l:List Oper) (listed:Array Bool) (e:Env) (st:St) (a:Act) (w:World),2 *rest.length-pd.length≤m→bX c (Z.outs (pd.map (·.2))) e st a w→uW c ops.toList l st K=some r→Trans Z.In φ0 w0 e.φ w→ll ops.toList rest=some l→
  tS c ops.toList pre rest=true→U5 ops listed (pd.map (·.1)++pre)→(∀i,i<ops.size→i∈pre∨i∈rest)→(∀i∈pre,i<ops.size)→(∀p∈pd,p.1∈rest)→(pd.map (·.1)).Nodup→(pd.map (·.2)).Nodup→(∀p∈pd,Yo c Z ops e w p)→
  pd.length≤rest.length→Hk P c ops N e.φ (rest.length-pd.length) listed (tu ops pd a) w:=by
 intro m
 induction m with
 |zero=>
  intro rest pre pd l listed e st a w hm h hK ht hp hd hL mb U6 EB JM Et S8 hle
  cases rest with
  |cons x rest=>simp only [List.length_cons] at hm hle;omega
  |nil=>
   cases pd with
   |cons p pd=>simp at hle
   |nil=>
    cases hp
    have h':bX c Z e st a w:=h.C0 (fun b hb=>hb.1) (fun b hb=>hb.1) rfl rfl rfl rfl
    refine ⟨?_,hN a w ⟨e,st,h',ht,hK⟩⟩
    cases hr:Region.ready .any ops listed with
    |nil=>rfl
    |cons i is=>
     have hi:i∈Region.ready .any ops listed:=by rw [hr];simp
     obtain ⟨h1,o,ho,_⟩:=mem_ready.1 hi
     have dn:i<ops.size:=(Array.getElem?_eq_some_iff.1 ho).1
     exact absurd (by simpa using (mb i dn).resolve_right (by simp)) ((hL.AU dn).1 h1)
 |succ m ihm=>
  intro rest pre pd l listed e st a w hm h hK ht hp hd hL mb U6 EB JM Et S8 hle
  cases rest with
  |nil=>
   cases pd with
   |cons p pd=>simp at hle
   |nil=>exact ihm [] pre [] l listed e st a w (by simp) h hK ht hp hd hL mb U6 EB JM Et S8 hle
  |cons x rest=>
   simp only [ll] at hp
   cases hox:ops.toList[x]? with
   |none=>simp [hox] at hp
   |some o=>
    cases Xl:ll ops.toList rest with
    |none=>simp [hox,Xl] at hp
    |some l'=>
     simp only [hox,Xl,Option.some.injEq] at hp
     subst hp
     have hx:ops[x]? =some o:=by simpa using hox
     have ab6:x<ops.size:=(Array.getElem?_eq_some_iff.1 hx).1
     have hd0:=hd
     simp only [tS,hox] at hd
     simp only [Bool.and_eq_true,Bool.not_eq_true'] at hd
     obtain ⟨⟨⟨⟨d1,d2⟩,d3⟩,d4⟩,d5⟩:=hd
     have aaG:x∉pre:=by rw [←bF,d2];simp
     have ai7:x∉rest:=by rw [←bF,d3];simp
     have Qe: ∀i,i<ops.size→i∈x::pre∨i∈rest:=by
      intro i hi
      rcases mb i hi with h1|h1
      ·exact .inl (by simp [h1])
      ·rcases List.mem_cons.1 h1 with h1|h1
       ·exact .inl (by simp [h1])
       ·exact .inr h1
     have aaH: ∀i∈x::pre,i<ops.size:=by
      intro i hi
      rcases List.mem_cons.1 hi with rfl|hi
      ·exact ab6
      ·exact U6 i hi
     have ab7:=hK
     simp only [uW] at hK
     have U7: ∀p∈pd,∃q,ops[p.1]? =some q∧Lh q=true:=fun p hp=>by
      obtain ⟨q,_,_,_,_,_,h1,h2,_⟩:=(S8 p hp).row
      exact ⟨q,h1,h2⟩
     unfold PI at hK
     obtain ⟨bZ,go,h',hK,hw⟩:=LL h hK
     have aaI: ∀cs b,o.op≠ .select cs b:=fun cs b=>LY x o cs b hx
     by_cases hxp:x∈pd.map (·.1)
     ·
      obtain ⟨⟨x',b⟩,hpx,hxe⟩:=List.mem_map.1 hxp
      have hxe:x'=x:=hxe
      subst hxe
      obtain ⟨o',t,I,d,arr,T,k1,k2,k3,k4,k5,k6,k7⟩:=(S8 _ hpx).row
      rw [hx] at k1;cases k1
      obtain ⟨_,_,_,_,hgn,db⟩:=yv k2
      have hgo:go=true:=by
       rw [←hw];simp [Region.wanted,hgn]
      subst hgo
      have Lk:(n6 o&&!lO c o)=false:=by simp [n6,k3]
      simp only [Lk,cond_false] at d4
      obtain ⟨pl,pr,rfl⟩:=List.append_of_mem hpx
      have hbn:b∉(pl++pr).map (·.2):=by
       have:((pl++(x',b)::pr).map (·.2)).Nodup:=Et
       simp only [List.map_append,List.map_cons,List.nodup_append,List.nodup_cons,List.mem_cons] at this
       simp only [List.map_append,List.mem_append,not_or]
       exact ⟨fun hm=>this.2.2 b hm b (by simp) rfl,this.2.1.1⟩
      have hxn:x'∉(pl++pr).map (·.1):=by
       have:((pl++(x',b)::pr).map (·.1)).Nodup:=JM
       simp only [List.map_append,List.map_cons,List.nodup_append,List.nodup_cons,List.mem_cons] at this
       simp only [List.map_append,List.mem_append,not_or]
       exact ⟨fun hm=>this.2.2 x' hm x' (by simp) rfl,this.2.1.1⟩
      have L2: ∀p∈pl++pr,p∈pl++(x',b)::pr:=fun p hp=>by
       simp only [List.mem_append,List.mem_cons] at hp⊢
       rcases hp with hp|hp
       ·exact .inl hp
       ·exact .inr (.inr hp)
      have pV:bX c (Z.outs ((pl++pr).map (·.2))) e bZ a w:=by
       refine h'.C0 (fun u hu=>⟨hu.1,fun hm=>hu.2 ?_⟩) (fun u hu=>⟨hu.1,fun hm=>hu.2 ?_⟩) rfl rfl rfl rfl<;>
       ·obtain ⟨p,hp,rfl⟩:=List.mem_map.1 hm
        exact List.mem_map.2 ⟨p,L2 p hp,rfl⟩
      have Yr:b∈(pl++(x',b)::pr).map (·.2):=by simp
      have kG:pT (Z.outs ((pl++pr).map (·.2))) e w bZ (Yn b) (.box I.zero):=by
       refine ⟨b,by rw [u7 (k7 e).xg];rfl,⟨⟨(S8 _ hpx).cr,hbn⟩,⟨_,k6,rfl,k7 e⟩,(S8 _ hpx).free⟩,fun t' fL zU BL=> ?_,fun f o' zS BL=> ?_⟩
       ·have hs:=h'.slot t'
        rw [zU] at hs
        rcases hs.2.cr with ⟨_,u⟩|u
        ·exact u.2 (by rw [BL];exact Yr)
        ·exact u.2 (by rw [BL];exact Yr)
       ·obtain ⟨I',cells,g1,g2,g3,g4,g5⟩:=(h'.iT f o' zS).row
        rcases (g5 b BL).1 with ⟨_,u⟩|u
        ·exact u.2 Yr
        ·exact u.2 Yr
      simp only [cond_true,opK,k3,k4] at hK
      obtain ⟨e2,dO,j1,j2,j3⟩:=dG pV kG hK
      have ab8:tu ops (pl++(x',b)::pr) a=tu ops (pl++pr) (a.put o.dst (Yn b)):=by
       have tY: ∀p∈pl++pr,∀dd,uf ops p.1=some dd→o.dst≠some dd:=by
        intro p hp dd hdd
        obtain ⟨q,hq,DA⟩:=U7 p (L2 p hp)
        have Ol:p.1∈rest:=by
         rcases List.mem_cons.1 (EB p (L2 p hp)) with he|he
         ·exact absurd (List.mem_map.2 ⟨p,hp,he⟩) hxn
         ·exact he
        have:=List.all_eq_true.1 d4 p.1 Ol
        have hq':ops.toList[p.1]? =some q:=by simpa using hq
        simp only [hq',DA,cond_true,Bool.and_eq_true] at this
        exact (E9 hq (.inl (yu this.1)) dd hdd).2
       exact LZ (by simp [uf,hx]) a pr pl tY
      rw [ab8,←j3]
      have hlen:(x'::rest).length-(pl++(x',b)::pr).length=rest.length-(pl++pr).length:=by simp only [List.length_cons,List.length_append];omega
      rw [hlen]
      refine ihm rest (x'::pre) (pl++pr) l' listed e2 dO _ w ?_ j1 j2 (by rw [j3];exact ht) Xl d5 ?_ Qe aaH ?_ ?_ ?_ ?_ ?_
      ·simp only [List.length_cons,List.length_append] at hm⊢;omega
      ·refine hL.congr (fun i=> ?_)
       simp only [List.map_append,List.map_cons,List.mem_append,List.mem_cons]
       constructor
       ·rintro ((h1|h1|h1)|h1)
        ·exact .inl (.inl h1)
        ·exact .inr (.inl h1)
        ·exact .inl (.inr h1)
        ·exact .inr (.inr h1)
       ·rintro ((h1|h1)|h1|h1)
        ·exact .inl (.inl h1)
        ·exact .inl (.inr (.inr h1))
        ·exact .inl (.inr (.inl h1))
        ·exact .inr h1
      ·intro p hp
       rcases List.mem_cons.1 (EB p (L2 p hp)) with he|he
       ·exact absurd (List.mem_map.2 ⟨p,hp,he⟩) hxn
       ·exact he
      ·have:((pl++(x',b)::pr).map (·.1)).Nodup:=JM
       refine List.Nodup.sublist ?_ this
       exact List.Sublist.map _ (List.Sublist.append_left (List.sublist_cons_self _ _) pl)
      ·have:((pl++(x',b)::pr).map (·.2)).Nodup:=Et
       refine List.Nodup.sublist ?_ this
       exact List.Sublist.map _ (List.Sublist.append_left (List.sublist_cons_self _ _) pl)
      ·intro p hp
       obtain ⟨q1,q2,q3⟩:=S8 p (L2 p hp)
       exact ⟨q1,fun off=>by rw [j3];exact q2 off,q3⟩
      ·simp only [List.length_cons,List.length_append] at hle⊢;omega
     ·have Ol: ∀p∈pd,p.1∈rest:=fun p hp=>by
       rcases List.mem_cons.1 (EB p hp) with he|he
       ·exact absurd (List.mem_map.2 ⟨p,hp,he⟩) hxp
       ·exact he
      have hlr:pd.length≤rest.length:=by
       have h1:(pd.map (·.1)).length≤rest.length:=Cc JM (fun i hi=>by obtain ⟨p,hp,rfl⟩:=List.mem_map.1 hi;exact Ol p hp)
       simpa using h1
      have ae8:(x::rest).length-pd.length=(rest.length-pd.length)+1:=by simp only [List.length_cons];omega
      rw [ae8]
      have hun:x∉pd.map (·.1)++pre:=by simp only [List.mem_append,not_or];exact ⟨hxp,aaG⟩
      have Kb:x∈Region.ready .any ops listed:=by
       refine mem_ready.2 ⟨(hL.AU ab6).2 hun,o,hx,fun ed Ym hb=> ?_⟩
       have:=List.all_eq_true.1 d1 ed (by simpa using Ym)
       simp only [ue,hb,Bool.not_true,Bool.false_or] at this
       have hm:=(bF _ _).1 this
       exact (hL.done (U6 _ hm)).2 (by simp [hm])
      have next: ∀(e':Env) (dO:St) (a':Act) (w':World),bX c (Z.outs (pd.map (·.2))) e' dO a' w'→Trans (Z.outs (pd.map (·.2))).In e.φ w e'.φ w'→uW c ops.toList l' dO K=some r→Hk P c ops N e.φ (rest.length-pd.length) (listed.setIfInBounds x true) (tu ops pd a') w':=by
       intro e' dO a' w' h1 t1 pU
       refine RI t1.ph _ _ _ _ ?_
       refine ihm rest (x::pre) pd l' _ e' dO a' w' ?_ h1 pU (ht.trans (t1.wide fun b hb=>hb.1)) Xl d5 ((hL.set ab6).congr fun i=> ?_) Qe aaH Ol JM Et (fun p hp=>(S8 p hp).later (List.mem_map.2 ⟨p,hp,rfl⟩) t1) hlr
       ·simp only [List.length_cons] at hm;omega
       ·simp only [List.mem_cons,List.mem_append]
        constructor
        ·rintro (h1|h1|h1)
         ·exact .inr (.inl h1)
         ·exact .inl h1
         ·exact .inr (.inr h1)
        ·rintro (h1|h1|h1)
         ·exact .inr (.inl h1)
         ·exact .inl h1
         ·exact .inr (.inr h1)
      cases Lk:n6 o&&!lO c o with
      |true=>
       simp only [Lk,cond_true] at d4
       have tY: ∀p∈pd,∀dd,uf ops p.1=some dd→dd∉o.looksAt ops∧o.dst≠some dd:=by
        intro p hp
        obtain ⟨q,hq,DA⟩:=U7 p hp
        exact E9 hq (.inr (L0 rest [x] d4 p.1 (Ol p hp) q hq DA))
       obtain ⟨hex,hwn⟩:=C1 aaI a pd (fun p hp d hd=>(tY p hp d hd).1)
       obtain ⟨D,D1,D2,D3,D4⟩:=Hl rest [x] d4 (fun y hy db=>absurd (by simpa using hy) db)
       have ql: ∀j oj,ops[j]? =some oj→j∉D→j≠x→listed.getD j true=false→o.apart ops oj=true∧(lk c o=true→still c o=false→vo c o ops j=true):=by
        intro j oj hoj hjD hjx Yj
        have ae9:j<ops.size:=(Array.getElem?_eq_some_iff.1 hoj).1
        have hjr:j∈rest:=by
         rcases Qe j ae9 with h1|h1
         ·rcases List.mem_cons.1 h1 with h1|h1
          ·exact absurd h1 hjx
          ·exact absurd (by simp [h1]) ((hL.AU ae9).1 Yj)
         ·exact h1
        obtain ⟨p,TV,H3,hp3⟩:=D4 j hjr hjD
        rw [hoj] at TV
        cases TV
        exact ⟨H3,fun hl hs=>by simp [vo,hoj,hp3 hl hs]⟩
       have DB: ∀d∈D,listed.getD d false=false:=by
        have ai9: ∀p∈pd,p.1∉D:=by
         intro p hp hpD
         obtain ⟨q,hq,DA⟩:=U7 p hp
         obtain ⟨ed,Ym,hb,_⟩:=D3 p.1 q hpD (fun he=>hxp (List.mem_map.2 ⟨p,hp,he⟩)) hq
         obtain ⟨_,_,_,_,_,db⟩:=yv DA
         rw [db ed Ym] at hb;cases hb
        intro d hd
        have hdn:d∉pd.map (·.1)++pre:=by
         simp only [List.mem_append,not_or]
         constructor
         ·intro hm
          obtain ⟨p,hp,rfl⟩:=List.mem_map.1 hm
          exact ai9 p hp hd
         ·rcases D2 d hd with h1|h1
          ·have h1:d=x:=by simpa using h1
           rw [h1];exact aaG
          ·exact fun hp=>xp rest (x::pre) d5 d h1 (by simp [hp])
        by_cases J7:d<ops.size
        ·cases hg:listed.getD d false with
         |false=>rfl
         |true=>exact absurd ((hL.done J7).1 hg) hdn
        ·have hl: ¬d<listed.size:=by rw [hL.size];exact J7
         simp [hl]
       cases go with
       |true=>
        simp only [cond_true] at hK
        obtain ⟨v,hv,e2,dO,k1,k2,k3⟩:=(Ob (Q:=qv N) hG h' hK).aiL (by simp only [Bool.and_eq_true] at Lk;exact Lk.1) (by simp only [Bool.and_eq_true,Bool.not_eq_true'] at Lk;exact Lk.2)
        refine E8 D3 hx LY (rest.length-pd.length) listed _ w ql DB Kb (.inl ⟨by rw [hwn];exact hw,fun w' hg=>by rw [hex];exact hv w' hg⟩) h.nT ?_
        rw [AV a o.dst v pd (fun p hp d hd=>(tY p hp d hd).2)]
        exact next e2 dO _ w k1 k2 k3
       |false=>
        simp only [cond_false] at hK
        obtain ⟨e2,dO,k1,k2,k3⟩:=dG (v:=undef) (s:= .skip) h' ⟨rfl,trivial⟩ hK
        refine E8 D3 hx LY (rest.length-pd.length) listed _ w ql DB Kb (.inr ⟨by rw [hwn];exact hw,rfl⟩) h.nT ?_
        rw [AV a o.dst undef pd (fun p hp d hd=>(tY p hp d hd).2)]
        exact next e2 dO _ w k1 (by rw [k3];exact .refl _ _ _) k2
      |false=>
       simp only [Lk,cond_false] at d4
       have tY: ∀p∈pd,∀dd,uf ops p.1=some dd→dd∉o.looksAt ops∧o.dst≠some dd:=by
        intro p hp
        obtain ⟨q,hq,DA⟩:=U7 p hp
        have:=List.all_eq_true.1 d4 p.1 (Ol p hp)
        have hq':ops.toList[p.1]? =some q:=by simpa using hq
        simp only [hq',DA,cond_true,Bool.and_eq_true] at this
        exact E9 hq (.inl (yu this.1))
       refine ⟨fun hr0=>(by rw [hr0] at Kb;cases Kb),fun i hi=> ?_⟩
       obtain ⟨aja,oi,Ys,ab9⟩:=mem_ready.1 hi
       have aca:i<ops.size:=(Array.getElem?_eq_some_iff.1 Ys).1
       have sa:=(hL.AU aca).1 aja
       simp only [List.mem_append,not_or] at sa
       by_cases Te:i=x
       ·subst Te
        rw [hx] at Ys;cases Ys
        have pV:wpOp P ops (qv N) i (fun a' w'=>(∀oi,vo c oi ops i=true→e9 c oi w w')∧ ∃e2 dO,bX c (Z.outs (pd.map (·.2))) e2 dO a' w'∧Trans (Z.outs (pd.map (·.2))).In e.φ w e2.φ w'∧uW c ops.toList l' dO K=some r) a w:=by
         unfold wpOp
         simp only [hx]
         rw [hw]
         cases go with
         |true=>
          simp only [cond_true] at hK
          simp only [if_true]
          left
          have hd:=Ob (Q:=qv N) hG h' hK
          cases hgr:Tw c o with
          |true=>
           simp only [Tw,Bool.or_eq_true] at hgr
           refine Oper.wp_mono ?_ (hd.aiM hgr)
           rintro a' w' ⟨hg,e2,dO,k1,k2,k3⟩
           exact ⟨fun _ _=>hg.for,e2,dO,k1,k2,k3⟩
          |false=>
           by_cases Xg: ∃oi,zq oi o=true
           ·obtain ⟨oi0,Xg⟩:=Xg
            refine Oper.wp_mono ?_ (aeD (Q:=qv N) hG h' hK Xg)
            rintro a' w' ⟨hg,e2,dO,k1,k2,k3⟩
            refine ⟨fun oi hh=> ?_,e2,dO,k1,k2,k3⟩
            have Ys:zq oi o=true:=by simpa [vo,hx,hgr] using hh
            exact Ok Xg Ys hg
           ·refine Oper.wp_mono ?_ hd.wp
            rintro a' w' ⟨e2,dO,k1,k2,k3⟩
            exact ⟨fun oi hh=>absurd ⟨oi,by simpa [vo,hx,hgr] using hh⟩ Xg,e2,dO,k1,k2,k3⟩
         |false=>
          simp only [cond_false] at hK
          simp only [Bool.false_eq_true,if_false]
          obtain ⟨e2,dO,k1,k2,k3⟩:=dG (v:=undef) (s:= .skip) h' ⟨rfl,trivial⟩ hK
          exact ⟨fun _ _=>(dz.refl w).for,e2,dO,k1,by rw [k3];exact .refl _ _ _,k2⟩
        refine wpOp_mono ?_ (Qd hx aaI pV pd tY)
        rintro a' w' ⟨a2,rfl,hg,e2,dO,k1,k2,k3⟩
        exact ⟨⟨hg,fun b o v hv=>k1.nT b o v (k2.ph b o v hv)⟩,next e2 dO a2 w' k1 k2 k3⟩
       ·have hir:i∈rest:=by
         rcases Qe i aca with h1|h1
         ·rcases List.mem_cons.1 h1 with h1|h1
          ·exact absurd h1 Te
          ·exact absurd h1 sa.2
         ·exact h1
        have Om:=List.all_eq_true.1 d4 i hir
        have ajc:ops.toList[i]? =some oi:=by simpa using Ys
        simp only [ajc] at Om
        cases DA:Lh oi with
        |false=>
         exfalso
         simp only [DA,cond_false] at Om
         unfold zQ at Om
         obtain ⟨ed,Ym,hb⟩:=List.any_eq_true.1 Om
         simp only [Bool.and_eq_true,ue,Bool.or_eq_true,Bool.not_eq_true'] at hb
         obtain ⟨vf,wg⟩:=hb
         have U8:=ab9 ed (by simpa using Ym) vf
         have DY:ed.on∉pd.map (·.1)++pre:=by
          rcases wg with wg|⟨wg,hb3⟩
          ·rw [Nat.eq_of_beq_eq_true wg];exact hun
          ·simp only [List.mem_append,not_or]
           refine ⟨fun hm=> ?_,fun hp=>xp rest (x::pre) d5 _ ((bF _ _).1 wg) (by simp [hp])⟩
           obtain ⟨p,hp,he⟩:=List.mem_map.1 hm
           obtain ⟨q,hq,hqa⟩:=U7 p hp
           have hq':ops.toList[ed.on]? =some q:=by rw [←he];simpa using hq
           simp [adT,hq',hqa] at hb3
         by_cases tp:ed.on<ops.size
         ·exact DY ((hL.done tp).1 U8)
         ·have:listed.getD ed.on false=false:=by
           have hl: ¬ed.on<listed.size:=by rw [hL.size];exact tp
           simp [hl]
          rw [this] at U8;cases U8
        |true=>
         obtain ⟨t,d,q1,q2,q3,q4⟩:=yv DA
         have hI: ∃I,c.tv t=some I:=by
          simp only [DA,cond_true,Bool.and_eq_true,adS,q1] at Om
          cases htv:c.tv t with
          |none=>rw [htv] at Om;exact absurd Om.2 (by simp)
          |some I=>exact ⟨I,rfl⟩
         obtain ⟨I,hI⟩:=hI
         obtain ⟨inf,z,hz1,TM,hz3⟩:=z7 hI hG.ti
         have hg:dz w (w.alloc (.cells z.cells t)):= .alloc w _ _
         unfold wpOp
         simp only [Ys]
         have hwn:Region.wanted oi (yielded ops (tu ops pd a).tmps)=true:=by simp [Region.wanted,q3]
         simp only [hwn,if_true]
         left
         have bS:(execOp (tu ops pd a).eval oi).run P w= .ok (.value (Yn w.heap.size)) (w.alloc (.cells z.cells t)):=by
          simp [execOp,q1,Instr.alloc,zeroValue,typeInfo,hz1,TM,newVar,newRow,newObj,Sem.run,Yn]
         unfold Oper.wp
         rw [bS]
         simp only [Oper.upon]
         refine ⟨⟨fun _ _=>hg.for,(h.grow hg).nT⟩,?_⟩
         have q9:w.heap.size<(w.alloc (.cells z.cells t)).heap.size:=by simp
         have ajd: ∀p∈pd,p.2<w.heap.size:=fun p hp=>by
          obtain ⟨_,_,_,_,_,_,_,_,_,_,_,k6,_⟩:=(S8 p hp).row
          exact bB k6
         have ab8:(tu ops pd a).put oi.dst (Yn w.heap.size)=tu ops ((i,w.heap.size)::pd) a:=by simp [tu,uf,Ys]
         rw [ab8]
         have dn:pd.length<rest.length:=by
          have h1:(i::pd.map (·.1)).length≤rest.length:=by
           refine Cc (List.nodup_cons.2 ⟨sa.1,JM⟩) ?_
           intro j hj
           rcases List.mem_cons.1 hj with rfl|hj
           ·exact hir
           ·obtain ⟨p,hp,rfl⟩:=List.mem_map.1 hj;exact Ol p hp
          simp only [List.length_cons,List.length_map] at h1;omega
         have zw:rest.length-pd.length=(x::rest).length-((i,w.heap.size)::pd).length:=by simp only [List.length_cons];omega
         rw [zw]
         refine ihm (x::rest) pre ((i,w.heap.size)::pd) (o::l') _ e st a _ ?_ (h.narrow hg q9) ?_ (ht.trans (hg.trans (fun b hb=>(h.cr b hb).1) _)) ?_ hd0 ?_ mb U6 ?_ ?_ ?_ ?_ ?_
         ·simp only [List.length_cons] at hm⊢;omega
         ·exact ab7
         ·simp [ll,hox,Xl]
         ·refine (hL.set aca).congr (fun j=> ?_)
          simp
         ·intro p hp
          rcases List.mem_cons.1 hp with rfl|hp
          ·exact List.mem_cons_of_mem _ hir
          ·exact EB p hp
         ·exact List.nodup_cons.2 ⟨sa.1,JM⟩
         ·refine List.nodup_cons.2 ⟨fun hm=> ?_,Et⟩
          obtain ⟨p,hp,he⟩:=List.mem_map.1 hm
          have:=ajd p hp
          have he:p.2=w.heap.size:=he
          omega
         ·intro p hp
          rcases List.mem_cons.1 hp with rfl|hp
          ·refine ⟨⟨oi,t,I,d,z.cells,t,Ys,DA,q1,hI,q2,km w _,hz3⟩,fun off=> ?_,(h.cr _ (Nat.le_refl _)).1⟩
           cases hp:e.φ w.heap.size off with
           |none=>rfl
           |some v=>
            have:=World.block_lt_of_cell? w _ (h.nT _ _ _ hp)
            simp at this
          ·obtain ⟨⟨o1,t1,I1,d1,aje,T1,k1,k2,k3,k4,k5,k6,k7⟩,q5,q6⟩:=S8 p hp
           exact ⟨⟨o1,t1,I1,d1,aje,T1,k1,k2,k3,k4,k5,by rw [hg.BK _ (bB k6)];exact k6,k7⟩,q5,q6⟩
         ·simp only [List.length_cons];omega
theorem Fa (hG:Good P c) {ops:Array Oper} {l:List Oper} {ord:List Nat} (hd:qY c ops ord=true) (hp:ll ops.toList ord=some l) {Z:bL} {e:Env} {st:St} {a:Act} {w:World} {R:Type} {K:St→Option R} {r:R} (h:bX c Z e st a w) (hK:uW c ops.toList l st K=some r):
 wpAny P .any ops (qv fun a' w'=>Out c Z K r e.φ w a' w') ops.size (Array.replicate ops.size false) a {w with drawn:=w.drawn+1}:=by
 simp only [qY,Bool.and_eq_true] at hd
 obtain ⟨⟨⟨X2,hl0⟩,mb⟩,hd⟩:=hd
 have LY: ∀(j:Nat) (o:Oper) cs b,ops[j]? =some o→o.op≠ .select cs b:=by
  intro j o cs b ho he
  have:=List.all_eq_true.1 X2 o (List.mem_of_getElem? (by simpa using ho:ops.toList[j]? =some o))
  simp [he] at this
 have aaJ:dz w {w with drawn:=w.drawn+1}:=⟨Nat.le_refl _,fun _ _=>rfl,rfl,rfl,rfl,fun _=>rfl⟩
 ·refine U2 (c:=c) (φ:=e.φ) _ _ _ _ ?_
  have hlen:ord.length=ops.size:=by have:=Nat.eq_of_beq_eq_true hl0;simpa using this
  rw [←hlen]
  have h0:bX c (Z.outs []) e st a {w with drawn:=w.drawn+1}:=(h.grow aaJ).C0 (fun b hb=>⟨hb,by simp⟩) (fun b hb=>⟨hb,by simp⟩) rfl rfl rfl rfl
  refine Yq hG LY (fun a' w' h=>h) (2 *ord.length) ord [] [] l _ e st a _ (by simp) h0 hK (aaJ.trans h.cr e.φ) hp hd ⟨by simp [hlen],fun i hi=> ?_⟩ (fun i hi=> .inr ((bF _ _).1 (List.all_eq_true.1 mb i (by simpa using hi)))) (by simp) (by simp) (by simp) (by simp) (by simp) (by simp)
  simp [hlen,hi]
end
end Dn
/-
  What is asked of slices.DeleteFunc, and of the function that it is handed. Conditions: none.
-/
set_option linter.unusedSimpArgs false
set_option linter.unusedVariables false
namespace Dn
open Go
theorem C2 {S:Type} {step:S→MV→Option (Bool×S)}: ∀{xs zs:List MV} {s:S},lZ step s (xs++zs)=(match lZ step s xs with|some (ys,s1)=>(match lZ step s1 zs with|some (us,s2)=>some (ys++us,s2)|none=>none)|none=>none):=by
 intro xs
 induction xs with
 |nil=>intro zs s;simp only [List.nil_append,lZ];cases lZ step s zs<;>rfl
 |cons x xs ih=>
  intro zs s
  simp only [List.cons_append,lZ]
  cases step s x with
  |none=>rfl
  |some p=>
   obtain ⟨b,s1⟩:=p
   simp only [ih]
   cases lZ step s1 xs with
   |none=>rfl
   |some q=>
    obtain ⟨ys,s2⟩:=q
    dsimp only
    cases lZ step s2 zs with
    |none=>rfl
    |some q2=>cases b<;>rfl
theorem Qf {S:Type} {step:S→MV→Option (Bool×S)} {xs:List MV} {s s':S} {ys:List MV} (h:lZ step s xs=some (ys,s')) {k:Nat} (hk:k<xs.length):
 ∃yk sk b Yt,lZ step s (xs.take k)=some (yk,sk)∧step sk xs[k]=some (b,Yt)∧lZ step s (xs.take (k+1))=some (bif b then yk else yk++[xs[k]],Yt):=by
 have e:xs=xs.take k++xs[k]::xs.drop (k+1):=by simp
 rw [e,C2] at h
 cases h1:lZ step s (xs.take k) with
 |none=>simp [h1] at h
 |some p=>
  obtain ⟨yk,sk⟩:=p
  simp only [h1,lZ] at h
  cases h2:step sk xs[k] with
  |none=>simp [h2] at h
  |some q=>
   obtain ⟨b,Yt⟩:=q
   refine ⟨yk,sk,b,Yt,rfl,h2,?_⟩
   have e2:xs.take (k+1)=xs.take k++[xs[k]]:=by rw [List.take_add_one,List.getElem?_eq_getElem hk];rfl
   rw [e2,C2,h1]
   simp only [lZ,h2]
   cases b<;>simp
theorem U9 {S:Type} {step:S→MV→Option (Bool×S)}: ∀{xs:List MV} {s s':S} {ys:List MV},lZ step s xs=some (ys,s')→ys.length≤xs.length:=by
 intro xs
 induction xs with
 |nil=>intro s s' ys h;simp [lZ] at h;simp [h.1]
 |cons x xs ih=>
  intro s s' ys h
  simp only [lZ] at h
  cases h1:step s x with
  |none=>simp [h1] at h
  |some p=>
   obtain ⟨b,s1⟩:=p
   simp only [h1] at h
   cases h2:lZ step s1 xs with
   |none=>simp [h2] at h
   |some q=>
    obtain ⟨zs,s2⟩:=q
    simp only [h2,Option.some.injEq,Prod.mk.injEq] at h
    have:=ih h2
    rw [←h.1]
    cases b<;>simp<;>omega
structure vp (P:Program) (c:Ctx) (g:Nat) (lb:Array Value) {S:Type} (Inv:S→(Nat→Prop)→Ph→World→Prop) (step:S→MV→Option (Bool×S)):Prop where
 call: ∀{s Z φ W v x b s'},Inv s Z φ W→(∀b,W.heap.size≤b→Z b)→zZ φ W→fj c.key φ v x→step s x=some (b,s')→
  fP P g (#[v]++lb) W fun r W'=>r= .bool b∧ ∃φ',Trans Z φ W φ' W'∧zZ φ' W'∧Inv s' Z φ' W'
 frame: ∀{s Z φ W W'},Inv s Z φ W→W.heap.size≤W'.heap.size→(∀b,Z b→b<W.heap.size→W'.heap[b]? =W.heap[b]?)→Inv s (fun b=>Z b∧b<W.heap.size) φ W'
 mono: ∀{s Z Z' φ W},Inv s Z φ W→(∀b,Z b→Z' b)→Inv s Z' φ W
structure y9 (c:Ctx) (ob:Option Nat) {S:Type} (Inv:S→(Nat→Prop)→Ph→World→Prop) (Z0:Nat→Prop) (φ0:Ph) (w0:World) (s:S) (Z:Nat→Prop) (φ:Ph) (W:World):Prop where
 inv:Inv s Z φ W
 new: ∀b,W.heap.size≤b→Z b
 sub: ∀b,Z b→Z0 b∨w0.heap.size≤b
 nT:zZ φ W
 tr:Trans (fun b=>(Z0 b∨w0.heap.size≤b)∨ob=some b) φ0 w0 φ W
 free: ∀b off,ob=some b→φ b off=none
structure Kc (P:Program) (c:Ctx) (h el:Nat):Prop where
 run: ∀{S:Type} {Inv:S→(Nat→Prop)→Ph→World→Prop} {step:S→MV→Option (Bool×S)} {g:Nat} {lb:Array Value},vp P c g lb Inv step→
  ∀{v0:Value} {xs ys:List MV} {w:World} {Z0:Nat→Prop} {φ0:Ph} {s0 s':S},(∀x∈xs,∃ms,x= .agg ms)→dg c (bL.plain fun b=>v0.ownBlock=some b) (oe c.key φ0) w v0 ⟨el,false,xs⟩→(∀b,v0.ownBlock=some b→ ¬Z0 b)→
  Inv s0 Z0 φ0 w→(∀b,w.heap.size≤b→Z0 b)→zZ φ0 w→lZ step s0 xs=some (ys,s')→
  fP P h #[v0,.func (.func g) #[] lb] w fun v W=> ∃Z φ,y9 c v0.ownBlock Inv Z0 φ0 w s' Z φ W∧dg c (bL.plain fun b=>v0.ownBlock=some b) (oe c.key φ) W v ⟨el,false,ys⟩∧ ∀b,v.ownBlock=some b→v0.ownBlock=some b
def vq (P:Program) (c:Ctx):Prop:= ∀h,c.Jx h=true→Kc P c h (c.r7 (c.key h))
end Dn
/-
  Regions with a call of slices.DeleteFunc. Conditions: none.
-/
set_option linter.unusedSimpArgs false
set_option linter.unusedVariables false
namespace Dn
open Go
section
variable {P:Program} {c:Ctx} {Z:bL} {Z':Nat→Prop} {e e':Env} {st bZ:St} {a:Act} {w w':World} {R:Type} {K:St→Option R} {r:R} {Q:Exit→Act→World→Prop} {o:Oper} {root:Nat} {cs:List aG} {ks:List LK} {ls outs:List MV} {ps:List (Nat×Nat)} {φ':Ph}
theorem RM (h:bX c Z e st a w) (hf:ao st.fr root= .box cs) (hm:eV cs=false) (hr:bE st.ct root=false) (ht:TC st [] ks cs ls ps) (hZ: ∀b,Z' b↔w.heap.size≤b∨gone e root ps b) {X:Nat→Prop} (hXb: ∀t fL,ao st.fr t= .box fL→ ¬X (e.B t)) (hXf: ∀f o b,aO st.aV f=some o→(e.E f).ownBlock=some b→ ¬X b) (vk:Trans (fun b=>Z' b∨X b) e.φ w φ' w') (hi:zZ φ' w')
 (hc:nt c Z' φ' w' (e.B root) ks outs) (hK:HT st root ks ps outs K=some r): ∃e' bZ,bX c Z e' bZ a w'∧e'.φ=φ'∧(∀b,X b→ ¬Z' b→(∀t fL,ao bZ.fr t= .box fL→e'.B t≠b)∧ ∀f o,aO bZ.aV f=some o→(e'.E f).ownBlock≠some b)∧K bZ=some r:=by
 unfold HT at hK
 obtain ⟨qK,rest,ye,g1,hK⟩:=ju hK
 cases rest with
 |cons=>simp [gN] at hK
 |nil=>
 simp only [gN,LF] at hK
 cases lJ:HS (bo ks) (jS (et ps) st.aV)||meets (bo ks) st.cu with
 |true=>simp [lJ] at hK
 |false=>
 simp only [lJ,cond_false,P2,ln,uY] at hK
 obtain ⟨N9,EO⟩:=Bool.or_eq_false_iff.1 lJ
 have N9:=EL N9
 have EO:=EM EO
 obtain ⟨oh,m3,E,arr,T,xl,c8,hzb,ql,qk,fX,eO⟩:=hc
 have iV:oh=qK∧m3=ye.aV:=by
  unfold PT at xl
  rw [g1] at xl
  simp only [gN,Option.some.injEq,Prod.mk.injEq] at xl
  exact ⟨xl.1.symm,xl.2.symm⟩
 obtain ⟨rfl,rfl⟩:=iV
 have dQ:=xk g1
 have ft: ∀f o,aO ye.aV f=some o→f∈bo ks:=fun f o ho=>(AN g1 f o ho).resolve_left (by simp [aO])
 have hs:=h.slot root
 rw [hf] at hs
 have sa: ∀b,Z' b→Z.In b:=by
  intro b hb
  rcases (hZ b).1 hb with hb|hb
  ·exact h.cr b hb
  ·exact AO h hf hr ht b hb
 have LI: ∀t fL,ao st.fr t= .box fL→t≠root→ ¬Z' (e.B t):=by
  intro t fL Uu db hz
  rcases (hZ _).1 hz with hz|hz|⟨x,g,hp,hz⟩
  ·have:=vi h Uu;omega
  ·exact h.bb t root fL cs Uu hf db hz
  ·obtain ⟨o,ho,_⟩:=ht.aV x g hp
   exact h.bf t fL g o Uu ho hz
 have hold: ∀f o,aO (jS (et ps) st.aV) f=some o→aO st.aV f=some o∧f∉et ps:=by
  intro f o ho
  rw [EH] at ho
  cases hn:bE (et ps) f with
  |true=>simp [hn] at ho
  |false=>
   simp only [hn,Bool.false_eq_true,if_false] at ho
   exact ⟨ho,fun hm=>by rw [(bF _ _).2 hm] at hn;cases hn⟩
 have CT: ∀f o b,aO (jS (et ps) st.aV) f=some o→(e.E f).ownBlock=some b→ ¬Z' b:=by
  intro f o b ho hb hz
  obtain ⟨zS,hnf⟩:=hold f o ho
  rcases (hZ _).1 hz with hz|hz|⟨x,g,hp,hz⟩
  ·have:=vj h zS hb;omega
  ·exact h.bf root cs f o hf zS (by rw [hb,hz])
  ·obtain ⟨o2,cE,_⟩:=ht.aV x g hp
   have:=h.ff f g o o2 b zS cE hb hz
   subst this
   exact hnf (CR.2 ⟨x,hp⟩)
 have acb: ∀t fL,ao st.fr t= .box fL→t≠root→ ¬(Z' (e.B t)∨X (e.B t)):=fun t fL h1 h2 h3=>h3.elim (LI t fL h1 h2) (hXb t fL h1)
 have Va: ∀f o b,aO (jS (et ps) st.aV) f=some o→(e.E f).ownBlock=some b→ ¬(Z' b∨X b):=fun f o b h1 h2 h3=>h3.elim (CT f o b h1 h2) (hXf f o b (hold f o h1).1 h2)
 let E2:Nat→Value:=fun f=>if bE (bo ks) f=true then E f else e.E f
 have wY: ∀f,f∈bo ks→E2 f=E f:=fun f hf=>by show (if _ then _ else _)=_;rw [if_pos ((bF _ _).2 hf)]
 have K5: ∀f,f∉bo ks→E2 f=e.E f:=fun f hf=>by show (if _ then _ else _)=_;rw [if_neg (fun hq=>hf ((bF _ _).1 hq))]
 have mf: ∀f o,aO (ye.aV++jS (et ps) st.aV) f=some o→(f∈bo ks∧aO ye.aV f=some o)∨(f∉bo ks∧aO (jS (et ps) st.aV) f=some o):=by
  intro f o ho
  rw [Ij] at ho
  cases hq:aO ye.aV f with
  |some o2=>simp only [hq,Option.some.injEq] at ho;exact .inl ⟨ft f o2 hq,by rw [ho]⟩
  |none=>
   simp only [hq] at ho
   refine .inr ⟨fun hm=> ?_,ho⟩
   rw [N9 f hm] at ho;cases ho
 let e2:Env:=⟨e.key,φ',E2,e.B,ye.aV++jS (et ps) st.aV⟩
 have tp:kn (fun g=>True∧g∉bo ks) (fun _=>True) e e2:=by
  refine ⟨rfl,vk.ph,fun _ _=>rfl,fun f o' zS hS=> ?_⟩
  rcases mf f o' zS with ⟨h1,_⟩|⟨h1,h2⟩
  ·exact absurd h1 hS.2
  ·exact ⟨o',by rw [h.m];exact (hold f o' h2).1,K5 f h1,rfl⟩
 have Uv:aw e2 arr.toList oh:=by
  have abI:kn (fun f=>f∈bo ks) (fun _=>True) ⟨c.key,φ',E,fun _=>e.B root,ye.aV⟩ ⟨c.key,φ',E2,fun _=>e.B root,ye.aV++jS (et ps) st.aV⟩:=by
   refine ⟨rfl,.refl _,fun _ _=>rfl,fun f o' zS hS=> ?_⟩
   rcases mf f o' zS with ⟨h1,h2⟩|⟨h1,_⟩
   ·exact ⟨o',h2,wY f h1,rfl⟩
   ·exact absurd hS h1
  have h1:=qk.on abI dQ
  have abJ:kn (fun _=>True) (fun _=>False) ⟨c.key,φ',E2,fun _=>e.B root,ye.aV++jS (et ps) st.aV⟩ e2:=⟨h.key,.refl _,fun _ h=>h.elim,fun f o ho _=>⟨o,ho,rfl,rfl⟩⟩
  exact h1.on abJ (fun _ _ _ _=>trivial)
 have hm3:eV oh=false:=Uv.xg
 have Rm: ∀t,ao (cc (mg (bo ks) st.fr) root (.box oh)) t=if t=root then .box oh else AM (bo ks) (ao st.fr t):=fun t=>by rw [bN,EI]
 have tq: ∀t ds,ao (cc (mg (bo ks) st.fr) root (.box oh)) t= .box ds→ ∃ds0,ao st.fr t= .box ds0:=by
  intro t ds hb
  rw [Rm] at hb
  by_cases vk:t=root
  ·exact ⟨cs,by rw [vk];exact hf⟩
  ·rw [if_neg vk] at hb
   obtain ⟨d0,h1,_⟩:=sI _ hb
   exact ⟨d0,h1⟩
 refine ⟨e2,⟨st.ct,st.cu,cc (mg (bo ks) st.fr) root (.box oh),ye.aV++jS (et ps) st.aV⟩,⟨h.defers,h.size,rfl,h.key,?_,?_,?_,?_,?_,?_,?_,hi,fun b hb=>h.cr b (Nat.le_trans vk.size hb)⟩,rfl,fun b hb Xm=>⟨fun t ds Uu he=> ?_,fun f o ho he=> ?_⟩,hK⟩
 rotate_left 7
 ·obtain ⟨d0,k1⟩:=tq t ds Uu
  exact hXb t d0 k1 (by have he:e.B t=b:=he;rw [he];exact hb)
 ·have he:(E2 f).ownBlock=some b:=he
  rcases mf f o ho with ⟨k1,k2⟩|⟨k1,k2⟩
  ·rw [wY f k1] at he
   obtain ⟨I,cells,_,_,_,_,q5⟩:=(fX f o k2).1.row
   exact Xm (q5 _ he).1
  ·rw [K5 f k1] at he
   exact hXf f o b (hold f o k2).1 he hb
 ·show (aU (cc (mg (bo ks) st.fr) root (.box oh))).Nodup
  refine ee ?_
  rw [EJ];exact h.nodup
 ·intro t
  show bW Z e2 w' t _ (ao (cc (mg (bo ks) st.fr) root (.box oh)) t)
  rw [Rm]
  by_cases rc:t=root
  ·subst rc
   rw [if_pos rfl]
   exact ⟨hs.1.kH (by rw [u6 hm,u6 hm3]),hs.2.cr,⟨_,c8,rfl,Uv⟩,ql⟩
  ·rw [if_neg rc]
   have ez:=h.slot t
   have XA:=acb t
   generalize ao st.fr t=s at ez XA
   by_cases B2: ∃ds,s= .box ds
   ·obtain ⟨ds,rfl⟩:=B2
    rw [LG]
    have hz:=XA ds rfl rc
    obtain ⟨o2,h1,h2⟩:=ez.2.obj
    refine ⟨ez.1.kH (Ii _ _),ez.2.cr,⟨o2,by show w'.heap[e.B t]? =_;rw [vk.heap _ hz (bB h1)];exact h1,?_⟩,fun off=>by show φ' (e.B t) off=none;rw [vk.free _ off hz];exact ez.2.free off⟩
    exact (LH h2).on tp (P4 _ (fun l _ f _=>trivial))
   ·have abK:ab e (a.tmps.getD t undef) s:=by cases s<;>simp only [bW] at ez<;>first|exact ez|exact absurd ⟨_,rfl⟩ B2
    have h2:=(abK.aav (bo ks)).on tp (P3 _ (dH s))
    have Uw: ∀ds,AM (bo ks) s≠ .box ds:=fun ds hq=>by
     obtain ⟨d0,h1,_⟩:=sI _ hq
     exact B2 ⟨d0,h1⟩
    generalize AM (bo ks) s=s2 at h2 Uw
    cases s2<;>first|exact h2|exact absurd rfl (Uw _)
 ·intro t
  show cv (cc (mg (bo ks) st.fr) root (.box oh)) (ao (cc (mg (bo ks) st.fr) root (.box oh)) t)
  have Ua: ∀q,cP (ao st.fr q)=true→cP (ao (cc (mg (bo ks) st.fr) root (.box oh)) q)=true:=by
   intro q hq
   rw [Rm]
   by_cases hqr:q=root
   ·rw [if_pos hqr];rfl
   ·rw [if_neg hqr];exact EN _ hq
  rw [Rm]
  by_cases rc:t=root
  ·rw [if_pos rc];trivial
  ·rw [if_neg rc]
   refine CS _ ?_
   have oO:=h.root t
   generalize ao st.fr t=s at oO
   cases s with
   |ptr q o=>exact Ua q oO
   |hp q o i=>exact Ua q oO
   |w8 q=>exact Ua q oO
   |_=>trivial
 ·intro f o ho
  rcases mf f o ho with ⟨h1,h2⟩|⟨h1,h2⟩
  ·have hfm:=(fX f o h2).1
   have zW:f∉Z.cu:=by rw [←h.defers.2.2.1];exact EO f h1
   refine dg.to ?_ zW
   obtain ⟨I,cells,q1,q2,q3,q4,q5⟩:=hfm.row
   refine ⟨I,cells,q1,q2,?_,?_,fun b hb=> ?_⟩
   ·show w'.ownsRow 0 o.ty I.size (E2 f) o.xs.length cells
    rw [wY f h1];exact q3
   ·show a8 e.key φ' I.size cells o.xs
    rw [h.key];exact q4
   ·have hb:(E2 f).ownBlock=some b:=hb
    rw [wY f h1] at hb
    exact ⟨sa b (q5 b hb).1,(q5 b hb).2.1,fun hc=>hc.elim⟩
  ·obtain ⟨zS,hnf⟩:=hold f o h2
   obtain ⟨I,cells,q1,q2,q3,q4,q5⟩:=(h.iT f o zS).row
   refine ⟨I,cells,q1,q2,?_,q4.mono vk.ph,?_⟩
   ·show w'.ownsRow 0 o.ty I.size (E2 f) o.xs.length cells
    rw [K5 f h1]
    refine ⟨q3.1,?_⟩
    rcases q3.2 with h6|⟨g,cap,dm,k1,k2,k3,k4⟩
    ·exact .inl h6
    ·refine .inr ⟨g,cap,dm,k1,k2,?_,k4⟩
     rw [vk.heap g (Va f o g h2 (by rw [k1];rfl)) (bB k3)];exact k3
   ·intro bc hb
    have hb:(E2 f).ownBlock=some bc:=hb
    rw [K5 f h1] at hb
    refine ⟨(q5 bc hb).1,fun off u hu=>(q5 bc hb).2.1 off u ?_,fun k1 k2 j hj=>vk.ph.yf ((q5 bc hb).2.2 k1 k2 j hj) hj⟩
    have hu:φ' bc off=some u:=hu
    rw [vk.free _ off (Va f o bc h2 hb)] at hu;exact hu
 ·intro t t' c1 c2 h1 h2 db
  obtain ⟨d1,k1⟩:=tq t c1 h1
  obtain ⟨d2,k2⟩:=tq t' c2 h2
  exact h.bb t t' d1 d2 k1 k2 db
 ·intro t c1 f o h1 h2
  show (E2 f).ownBlock≠some (e.B t)
  rcases mf f o h2 with ⟨k1,k2⟩|⟨k1,k2⟩
  ·rw [wY f k1]
   by_cases rc:t=root
   ·rw [rc];exact (fX f o k2).2
   ·obtain ⟨d1,k3⟩:=tq t c1 h1
    intro hq
    obtain ⟨I,cells,_,_,_,_,q5⟩:=(fX f o k2).1.row
    exact LI t d1 k3 rc (q5 _ hq).1
  ·rw [K5 f k1]
   obtain ⟨d1,k3⟩:=tq t c1 h1
   exact h.bf t d1 f o k3 (hold f o k2).1
 ·intro f f' o o' k h1 h2 h3 h4
  have h3:(E2 f).ownBlock=some k:=h3
  have h4:(E2 f').ownBlock=some k:=h4
  rcases mf f o h1 with ⟨k1,k2⟩|⟨k1,k2⟩<;>rcases mf f' o' h2 with ⟨k3,k4⟩|⟨k3,k4⟩
  ·rw [wY f k1] at h3
   rw [wY f' k3] at h4
   exact eO f f' o o' k k2 k4 h3 h4
  ·rw [wY f k1] at h3
   rw [K5 f' k3] at h4
   obtain ⟨I,cells,_,_,_,_,q5⟩:=(fX f o k2).1.row
   exact absurd (q5 _ h3).1 (CT f' o' k k4 h4)
  ·rw [K5 f k1] at h3
   rw [wY f' k3] at h4
   obtain ⟨I,cells,_,_,_,_,q5⟩:=(fX f' o' k4).1.row
   exact absurd (q5 _ h4).1 (CT f o k k2 h3)
  ·rw [K5 f k1] at h3
   rw [K5 f' k3] at h4
   exact h.ff f f' o o' k (hold f o k2).1 (hold f' o' k4).1 h3 h4
end
end Dn
/-
  A call of slices.DeleteFunc. Conditions: none.
-/
set_option linter.unusedSimpArgs false
set_option linter.unusedVariables false
namespace Dn
open Go
section
variable {P:Program} {c:Ctx} {Z:bL} {e e':Env} {st bZ:St} {a:Act} {w w':World} {R:Type} {K:St→Option R} {r:R} {Q:Exit→Act→World→Prop} {o:Oper}
theorem fP.imp {P:Program} {f:FuncId} {args:Array Value} {w:World} {R R':Value→World→Prop} (hc:fP P f args w R) (h: ∀v w',R v w'→R' v w'):fP P f args w R':=by
 unfold fP at hc⊢
 split
 ·rename_i iV
  rw [iV] at hc
  exact Calls.mono hc (fun x yg ⟨v,e,hr⟩=>⟨v,e,h v yg hr⟩)
 ·rename_i iV
  rw [iV] at hc
  exact h _ _ hc
 ·rename_i h1 h2
  split at hc
  ·rename_i iV;exact absurd iV (h1 _ _ _)
  ·rename_i iV;exact absurd iV (h2 _ _)
  ·exact hc
theorem Trans.C0 {I J:Nat→Prop} {φ φ':Ph} (h:Trans I φ w φ' w') (hs: ∀b,I b→J b):Trans J φ w φ' w':=
 ⟨h.ph,fun b hb=>h.heap b (fun hz=>hb (hs b hz)),fun b o hb=>h.free b o (fun hz=>hb (hs b hz)),h.size,h.rest⟩
theorem L3 {key:Nat→Nat} {φ:Ph} {v:Value} {b:Bool} (h:fj key φ v (.b b)):v= .bool b:=by
 obtain ⟨_,h⟩:=h
 generalize yZ:[v]=l at h
 cases h;simpa using yZ
theorem On (hS:Sound P c) {f:Nat} (hg:c.eB (c.key f)=false) {lb:Array Value} {ms:List MV}:vp P c f lb (fun (_:Unit) (_:Nat→Prop) φ (_:World)=>cf c.key φ lb.toList ms) (Tx c.g (c.key f) ms):=by
 refine ⟨?_,fun h _ _=>h,fun h _=>h⟩
 intro s Z φ W v x b s' hinv kG jo Oo ez
 unfold Tx at ez
 split at ez
 ·rename_i b' hx
  simp only [Option.some.injEq,Prod.mk.injEq] at ez
  obtain ⟨rfl,_⟩:=ez
  have fq:eX c (fun b=>W.heap.size≤b) φ W (c.key f) (v::lb.toList) (x::ms):=by
   simp only [eX,hg,Bool.false_eq_true,if_false]
   exact ⟨v,lb.toList,rfl,Oo,hinv⟩
  have:=hS f (x::ms) (.b b') hx φ W (fun b=>W.heap.size≤b) _ (fun b hb=>hb) fq jo
  have e1:(v::lb.toList).toArray= #[v]++lb:=by apply Array.toList_inj.1;simp
  rw [e1] at this
  refine this.imp ?_
  rintro v' w' ⟨φ',t1,t2,t3⟩
  exact ⟨L3 t3,φ',t1.C0 kG,t2,hinv.mono t1.ph⟩
 ·cases ez
theorem RN (hS:Sound P c) {f pos bc:Nat} {ks:List LK} {ms:List MV} {lb0:List Value} (hg:c.eB (c.key f)=true) (y8:c.sig (c.key f)=some (pos,ks)) (eD:pos=ms.length+1):
 vp P c f (lb0++[Value.pointer (some ⟨bc,0,none⟩)]).toArray (fun ls Z φ W=>nt c Z φ W bc ks ls∧cf c.key φ lb0 ms) (HV c.g (c.key f) ms):=by
 refine ⟨?_,?_,fun h hz=>⟨h.1.wide hz,h.2⟩⟩
 ·intro ls Z φ W v x b s' hinv kG jo Oo ez
  obtain ⟨qj,ud⟩:=hinv
  unfold HV at ez
  split at ez
  ·rename_i b' outs hx
   simp only [Option.some.injEq,Prod.mk.injEq] at ez
   obtain ⟨rfl,rfl⟩:=ez
   have hl:=ud.length
   have fq:eX c Z φ W (c.key f) (v::(lb0++[Value.pointer (some ⟨bc,0,none⟩)])) (x::(ms++[.cell (.func 0 ls)])):=by
    simp only [eX,hg,if_true]
    refine .inr (.inr ⟨pos,ks,0,ls,bc,y8,?_,?_,?_,qj⟩)
    ·rw [eD,List.getElem?_cons_succ,←hl,List.getElem?_append_right (Nat.le_refl _)];simp
    ·rw [eD,List.getElem?_cons_succ,List.getElem?_append_right (Nat.le_refl _)];simp
    ·rw [eD,List.set_cons_succ,List.set_append_right _ _ (Nat.le_refl _),Nat.sub_self]
     exact ⟨v,_,rfl,Oo,ud.append ⟨_,[],rfl,⟨rfl,.rp bc 0 [] [] .nil (by simp)⟩,rfl⟩⟩
   have:=hS f _ _ hx φ W Z _ kG fq jo
   have e1:(v::(lb0++[Value.pointer (some ⟨bc,0,none⟩)])).toArray= #[v]++(lb0++[Value.pointer (some ⟨bc,0,none⟩)]).toArray:=by apply Array.toList_inj.1;simp
   rw [e1] at this
   refine this.imp ?_
   rintro v' w' ⟨φ',t1,t2,xm,pos',ks',ajf,QY,yi,S2,hc⟩
   rw [y8] at yi
   simp only [Option.some.injEq,Prod.mk.injEq] at yi
   obtain ⟨rfl,rfl⟩:=yi
   have hb:ajf=bc:=by
    rw [eD,List.getElem?_cons_succ,←hl,List.getElem?_append_right (Nat.le_refl _)] at S2
    simp at S2
    exact S2.1.symm
   subst hb
   exact ⟨L3 xm,φ',t1,t2,hc,ud.mono t1.ph⟩
  ·cases ez
 ·intro ls Z φ W W' hinv q9 tW
  obtain ⟨⟨cs,m,E,arr,T,k1,k2,k3,k4,k5,k6,k7⟩,ud⟩:=hinv
  have dn:=bB k2
  refine ⟨⟨cs,m,E,arr,T,k1,(tW bc k3 dn).trans k2,⟨k3,dn⟩,k4,k5,fun f' o' ho=>⟨?_,(k6 f' o' ho).2⟩,k7⟩,ud⟩
  obtain ⟨I,cells,q1,q2,q3,q4,q5⟩:=(k6 f' o' ho).1.row
  refine ⟨I,cells,q1,q2,⟨q3.1,?_⟩,q4,fun b hb=>⟨⟨(q5 b hb).1,JT q3 hb⟩,(q5 b hb).2⟩⟩
  rcases q3.2 with h6|⟨g,cap,dm,r1,r2,r3,r4⟩
  ·exact .inl h6
  ·exact .inr ⟨g,cap,dm,r1,r2,(tW g (q5 g (by rw [r1];rfl)).1 (bB r3)).trans r3,r4⟩
theorem Qg {xs:List MV} (h:xs.all NG=true): ∀x∈xs,∃ms,x= .agg ms:=by
 intro x hx
 have:=List.all_eq_true.1 h x hx
 cases x<;>simp [NG] at this
 exact ⟨_,rfl⟩
theorem put_comm {a:Act} {x y:Nat} (h:x≠y) (v u:Value):(a.put (some x) v).put (some y) u=(a.put (some y) u).put (some x) v:=by
 show ({a with tmps:=(a.tmps.setIfInBounds x v).setIfInBounds y u}:Act)={a with tmps:=(a.tmps.setIfInBounds y u).setIfInBounds x v}
 rw [Array.setIfInBounds_comm v u h]
theorem Qh {y d:Nat} {o1 o2:Oper} {h:Nat} {v0 v' fv:Value} {ys:List MV} {φ0:Ph} {w0:World} (hs:bX c Z e st a w) (h1:o1.dst=some y) (h2:o2.dst=some d) (hyd:d≠y) (sa: ∀b,v0.ownBlock=some b→Z.In b)
 (fX:dg c (bL.plain fun b=>v0.ownBlock=some b) (oe c.key e.φ) w v' ⟨c.r7 (c.key h),false,ys⟩) (dQ: ∀b,v'.ownBlock=some b→v0.ownBlock=some b) (tY: ∀b,v0.ownBlock=some b→(∀t fL,ao st.fr t= .box fL→e.B t≠b)∧ ∀f o,aO st.aV f=some o→(e.E f).ownBlock≠some b)
 (ht:Trans Z φ0 w0 e.φ w)
 (hK:(jy st (o2.dst.getD 0) ⟨c.r7 (c.key h),false,ys⟩ fun st=>bw c st o2.dst (.sc (.own (o2.dst.getD 0))) fun st=>bw c st o1.dst (.sc .un) K)=some r):Out c Z K r φ0 w0 ((a.put o1.dst fv).put o2.dst v') w:=by
 have zW:=hs.npf hK
 have pU:=qL hK
 have zw:dg c Z.nc e w v' ⟨c.r7 (c.key h),false,ys⟩:=by
  obtain ⟨I,cells,g1,g2,g3,g4,g5⟩:=fX.row
  refine ⟨I,cells,g1,g2,g3,by rw [hs.key];exact g4,fun bc hb=>⟨sa bc (dQ bc hb),(g5 bc hb).2.1,fun hc=>hc.elim⟩⟩
 have Lp:=hs.N3 zW zw fun b hb=>tY b (dQ b hb)
 obtain ⟨I,cells,g1,g2,g3,g4,g5⟩:=fX.row
 have iQ:v'.oneCell'=true:=by
  rcases g3.2 with ⟨rfl,_⟩|⟨g,cap,dm,rfl,_⟩<;>rfl
 obtain ⟨e3,nV,q1,q2,q3⟩:=dG (v:=v') (s:= .sc (.own (o2.dst.getD 0))) Lp (.of (xi iQ) trivial) pU
 obtain ⟨e4,st4,q4,q5,q6⟩:=dG (v:=fv) (s:= .sc .un) q1 (.of (by simp [ab]) trivial) q2
 rw [h1,h2] at q4
 rw [put_comm hyd] at q4
 rw [h1,h2]
 exact ⟨e4,st4,q4,by rw [q6,q3];exact ht,q5⟩
theorem Yu (hS:Sound P c) {h f x y d:Nat} {b8:Array Operand} {cl:Call} {o1 o2:Oper} (hd:Kc P c h (c.r7 (c.key h))) (h1:o1.op= .makeFunc (.func f) #[] b8) (h2:o2.op= .call cl) (oc:cl.callee= .value (.func h)) (fq:cl.args.toList=[.tmp x,.tmp y])
 (hd1:o1.dst=some y) (Xn:o2.dst=some d) (Nr:x≠y) (hyd:d≠y) (hyn:y<c.n) (pV:bX c Z e st a w) (hK:Ty c h f b8.toList (.tmp x) o1 o2 st K=some r):
 o1.wp P a w (fun a1 w1=>o2.wp P a1 w1 (Out c Z K r e.φ w) Q) Q:=by
 have afd:(execOp a.eval o1).run P w= .ok (.value (.func (.func f) #[] (b8.map a.eval))) w:=by simp [execOp,h1,Instr.makeFunc]
 unfold Oper.wp
 rw [afd,Oper.upon_value]
 have DX: ∀v:Value,(a.put o1.dst v).eval (.tmp x)=a.eval (.tmp x)∧(a.put o1.dst v).eval (.tmp y)=v:=by
  intro v
  rw [hd1]
  have hy:y<a.tmps.size:=by rw [pV.size];exact hyn
  constructor
  ·show (a.put (some y) v).tmps.getD x undef=a.tmps.getD x undef
   rw [Act.xf hy,if_neg Nr]
  ·show (a.put (some y) v).tmps.getD y undef=v
   rw [Act.xf hy,if_pos rfl]
 have acd: ∀v:Value,cl.args.map (a.put o1.dst v).eval= #[a.eval (.tmp x),v]:=by
  intro v
  apply Array.toList_inj.1
  rw [Array.toList_map,fq]
  simp [(DX v).1,(DX v).2]
 have Iy: ∀v:Value,(execOp (a.put o1.dst v).eval o2).run P w=(callFunc h #[a.eval (.tmp x),v]).run P w:=by
  intro v
  have:=acd v
  simp [execOp,h2,resolve,oc,this,Act.eval,Deferred.ofValue,invoke]
 unfold Ty at hK
 cases y8:c.sig (c.key f) with
 |none=>
  simp only [y8] at hK
  cases hg:c.eB (c.key f) with
  |true=>simp [hg] at hK
  |false=>
  simp only [hg,cond_false] at hK
  obtain ⟨e1,ec,ms,s1,x1,r1,pU,iQ⟩:=vg pV hK
  obtain ⟨e2,dO,xs,G,wL⟩:=ra s1 (s1.eval (.tmp x)).1 pU
  simp only [gF] at wL
  obtain ⟨Fb,EC⟩:=eC wL
  obtain ⟨p,hp,Xf⟩:=oP EC
  obtain ⟨ys,u⟩:=p
  have ud:cf c.key e1.φ (b8.map a.eval).toList ms:=by
   have:=gX.one r1 iQ
   rw [s1.key] at this
   simpa using this
  have DB: ∀b,(a.eval (.tmp x)).ownBlock=some b→ ¬w.heap.size≤b:=by
   intro b hb
   obtain ⟨I,cells,_,_,g3,_⟩:=G.row.row
   have:=JT g3 hb
   omega
  have wh:=hd.run (On hS hg) (Qg Fb) G.row DB ud (fun b hb=>hb) s1.nT hp
  refine ua (Iy _) wh ?_
  rintro v' w' ⟨Zw,φ',hW,fX,dQ⟩
  have Yv: ∀b,((w.heap.size≤b∨w.heap.size≤b)∨(a.eval (.tmp x)).ownBlock=some b)→Z.In b:=by
   rintro b ((hb|hb)|hb)
   ·exact s1.cr b hb
   ·exact s1.cr b hb
   ·exact G.In b hb
  have hzb: ∀t cs,ao dO.fr t= .box cs→ ¬((w.heap.size≤e2.B t∨w.heap.size≤e2.B t)∨(a.eval (.tmp x)).ownBlock=some (e2.B t)):=by
   rintro t cs ht ((hb|hb)|hb)
   ·have:=vi G.tZ ht;omega
   ·have:=vi G.tZ ht;omega
   ·exact G.box t cs ht hb
  have hzf: ∀f o k,aO dO.aV f=some o→(e2.E f).ownBlock=some k→ ¬((w.heap.size≤k∨w.heap.size≤k)∨(a.eval (.tmp x)).ownBlock=some k):=by
   rintro f o k ho hk ((hb|hb)|hb)
   ·have:=vj G.tZ ho hk;omega
   ·have:=vj G.tZ ho hk;omega
   ·exact G.iT f o k ho hk hb
  have vk:=hW.tr
  rw [←G.φ] at vk
  have hs3:=G.tZ.called Yv hzb hzf vk hW.nT
  have rc:Trans Z e.φ w φ' w':=x1.tr.trans (hW.tr.C0 Yv)
  exact Qh (e:={e2 with φ:=φ'}) hs3 hd1 Xn hyd G.In fX dQ (fun b hb=>⟨fun t fL ht he=>G.box t fL ht (by rw [hb,←he]),fun f o ho hk=>G.iT f o b ho hk hb⟩) rc Xf
 |some sg=>
  obtain ⟨pos,ks⟩:=sg
  simp only [y8] at hK
  obtain ⟨e1,ec,ms,s1,x1,r1,pU,iQ⟩:=vg pV hK
  obtain ⟨e2,dO,xs,G,wL⟩:=ra s1 (s1.eval (.tmp x)).1 pU
  simp only [gF] at wL
  obtain ⟨Fb,EC⟩:=eC wL
  cases xq:b8.toList.getLast? with
  |none=>simp [xq] at EC
  |some y0=>
  simp only [xq] at EC
  split at EC
  rotate_left
  ·cases EC
  rename_i root Oe
  split at EC
  rotate_left
  ·cases EC
  rename_i cs hf
  cases lJ:eV cs||bE dO.ct root||!gY c ks||!Nat.beq pos (ms.length+1)||!c.eB (c.key f) with
  |true=>simp [lJ] at EC
  |false=>
  simp only [lJ,cond_false] at EC
  simp only [Bool.or_eq_false_iff,Bool.not_eq_false'] at lJ
  obtain ⟨⟨⟨⟨hm,hr⟩,jr⟩,eD⟩,hg⟩:=lJ
  have eD:=Nat.eq_of_beq_eq_true eD
  obtain ⟨ls,ps,ht,Xf⟩:=z6 EC
  obtain ⟨p,hp,hK5⟩:=oP Xf
  obtain ⟨ys,outs⟩:=p
  have hy0:a.eval y0= .pointer (some ⟨e2.B root,0,none⟩):=by
   have:=(G.tZ.eval y0).1
   rw [Oe] at this
   exact this
  have afe:(b8.map a.eval)=((b8.toList.dropLast.map a.eval)++[Value.pointer (some ⟨e2.B root,0,none⟩)]).toArray:=by
   apply Array.toList_inj.1
   rw [Array.toList_map]
   have db:b8.toList≠[]:=by intro e;rw [e] at xq;simp at xq
   have h3:b8.toList=b8.toList.dropLast++[y0]:=by
    have h4:=List.dropLast_concat_getLast db
    have h5:=List.getLast?_eq_some_getLast db
    rw [xq] at h5
    rw [Option.some.inj h5]
    exact h4.symm
   rw [h3]
   simp [hy0]
  have ud:cf c.key e2.φ (b8.toList.dropLast.map a.eval) ms:=by
   have:=gX.one r1 iQ
   rw [s1.key,←G.φ] at this
   exact this
  have AW:dg c (bL.plain fun b=>(a.eval (.tmp x)).ownBlock=some b) (oe c.key e2.φ) w (a.eval (.tmp x)) ⟨c.r7 (c.key h),false,xs⟩:=by rw [G.φ];exact G.row
  let Z2:Nat→Prop:=fun b=>w.heap.size≤b∨gone e2 root ps b
  have hgx: ∀b,(a.eval (.tmp x)).ownBlock=some b→ ¬gone e2 root ps b:=by
   rintro b hb (rfl|⟨q,g,hp,hq⟩)
   ·exact G.box root cs hf hb
   ·obtain ⟨o,ho,_⟩:=ht.aV q g hp
    exact G.iT g o b ho hq hb
  have dn: ∀b,(a.eval (.tmp x)).ownBlock=some b→b<w.heap.size:=by
   intro b hb
   obtain ⟨I,cells,_,_,g3,_⟩:=G.row.row
   exact JT g3 hb
  have DB: ∀b,(a.eval (.tmp x)).ownBlock=some b→ ¬Z2 b:=by
   rintro b hb (h'|h')
   ·have:=dn b hb;omega
   ·exact hgx b hb h'
  have qj:nt c Z2 e2.φ w (e2.B root) ks ls:=(EG G.tZ hf hm jr ht).wide fun b hb=> .inr hb
  have wh:=hd.run (RN hS hg y8 eD) (Qg Fb) AW DB ⟨qj,ud⟩ (fun b hb=> .inl hb) G.tZ.nT hp
  rw [←afe] at wh
  refine ua (Iy _) wh ?_
  rintro v' w' ⟨Zw,φ',hW,fX,dQ⟩
  have hZ2: ∀b,Z2 b∨w.heap.size≤b→Z2 b:=fun b hb=>hb.elim id .inl
  have Yv: ∀b,Z2 b→Z.In b:=fun b hb=>hb.elim (G.tZ.cr b) (AO G.tZ hf hr ht b)
  have vk:Trans (fun b=>Z2 b∨(a.eval (.tmp x)).ownBlock=some b) e2.φ w φ' w':=hW.tr.C0 fun b hb=>hb.elim (fun h=> .inl (hZ2 b h)) .inr
  have ace:nt c Z2 φ' w' (e2.B root) ks outs:=hW.inv.1.wide fun b hb=>hZ2 b (hW.sub b hb)
  obtain ⟨e3,nV,h3,hφ3,hX,hK6⟩:=RM G.tZ hf hm hr ht (fun b=>Iff.rfl) (X:=fun b=>(a.eval (.tmp x)).ownBlock=some b) (fun t fL zU hb=>G.box t fL zU hb) (fun f o b ho hk hb=>G.iT f o b ho hk hb) vk hW.nT ace hK5
  have rc:Trans Z e.φ w φ' w':=by
   have t2:Trans Z e2.φ w φ' w':=vk.C0 fun b hb=>hb.elim (Yv b) (G.In b)
   rw [G.φ] at t2
   exact x1.tr.trans t2
  subst hφ3
  exact Qh h3 hd1 Xn hyd G.In fX dQ (fun b hb=>hX b hb (DB b hb)) rc hK6
end
end Dn
/-
  Regions in the order of their text. Conditions: none.
-/
set_option linter.unusedSimpArgs false
set_option linter.unusedVariables false
namespace Dn
open Go
section
variable {P:Program} {c:Ctx} {Z:bL} {e:Env} {st:St} {a:Act} {w:World} {R:Type} {K:St→Option R} {r:R} {Q:Exit→Act→World→Prop} {ops:Array Oper}
theorem L4 (hG:Good P c) {is:List Nat} {rest:List Nat}: ∀{os:List Oper} {e:Env} {st:St} {a:Act} {w:World},is.map (ops[·]?)=os.map some→bX c Z e st a w→uW c ops.toList os st K=some r→
 ∀{φ0:Ph} {w0:World},Trans Z φ0 w0 e.φ w→(∀a' w',Out c Z K r φ0 w0 a' w'→wpOps P ops Q rest a' w')→wpOps P ops Q (is++rest) a w:=by
 induction is with
 |nil=>
  intro os e st a w hm h hK φ0 w0 ht hQ
  cases os with
  |nil=>exact hQ a w ⟨e,st,h,ht,hK⟩
  |cons=>simp at hm
 |cons i is ih=>
  intro os e st a w hm h hK φ0 w0 ht hQ
  cases os with
  |nil=>simp at hm
  |cons o os=>
   simp only [List.map_cons,List.cons.injEq] at hm
   simp only [uW] at hK
   rw [List.cons_append,wpOps_cons]
   refine wpOp_mono ?_ (P5 hG hm.1 h hK)
   rintro a' w' ⟨e2,dO,h1,h2,h3⟩
   exact ih hm.2 h1 h3 (ht.trans h2) hQ
structure aaK (c:Ctx) (l pre:List Oper) (f:Nat) (b8:List Operand) (h:Nat) (x:Operand) (o1 o2:Oper) (post:List Oper):Prop where
 eq:l=pre++o1::o2::post
 is: ∃(cs:Array Operand) (cl:Call) (x' y d:Nat),cs.toList=b8∧o1.op= .makeFunc (.func f) #[] cs∧o2.op= .call cl∧cl.callee= .value (.func h)∧cl.args.toList=[.tmp x',.tmp y]∧x= .tmp x'∧o1.dst=some y∧o2.dst=some d∧c.Jx h=true∧x'≠y∧d≠y∧y<c.n
theorem Oq: ∀{l pre RO:List Oper} {f:Nat} {b8:List Operand} {h:Nat} {x:Operand} {o1 o2:Oper} {post:List Oper},Ay c pre l=some (RO,f,b8,h,x,o1,o2,post)→aaK c (pre.reverse++l) RO f b8 h x o1 o2 post:=by
 intro l
 induction l with
 |nil=>intro pre RO f b8 h x o1 o2 post hd;simp [Ay] at hd
 |cons p1 l ih=>
  intro pre RO f b8 h x o1 o2 post hd
  cases l with
  |nil=>simp [Ay] at hd
  |cons p2 r=>
   have acf:Ay c (p1::pre) (p2::r)=some (RO,f,b8,h,x,o1,o2,post)→aaK c (pre.reverse++p1::p2::r) RO f b8 h x o1 o2 post:=by
    intro hq
    have:=ih hq
    simpa using this
   unfold Ay at hd
   split at hd
   ·rename_i f' first cs cl h1 h2
    split at hd
    ·rename_i h' x' y' d' k1 k2 k3 k4
     cases hb:c.Jx h'&&Nat.beq y' d'&&!Nat.beq x' d'&&!Nat.ble c.n d'&&!Nat.beq (p2.dst.getD d') d' with
     |false=>simp only [hb,cond_false] at hd;exact acf hd
     |true=>
      simp only [hb,cond_true,Option.some.injEq,Prod.mk.injEq] at hd
      obtain ⟨rfl,rfl,rfl,rfl,rfl,rfl,rfl,rfl⟩:=hd
      simp only [Bool.and_eq_true,Bool.not_eq_true',fm,decide_eq_true_eq,decide_eq_false_iff_not] at hb
      obtain ⟨⟨⟨⟨q1,rfl⟩,q3⟩,q4⟩,q5⟩:=hb
      have hf:first= #[]:=by apply Array.toList_inj.1;simpa using k3
      subst hf
      have Xn: ∃d,p2.dst=some d∧d≠y':=by
       cases hp:p2.dst with
       |none=>rw [hp] at q5;simp at q5
       |some d=>rw [hp] at q5;exact ⟨d,rfl,q5⟩
      obtain ⟨d,Xn,hd3⟩:=Xn
      refine ⟨rfl,cs,cl,x',y',d,rfl,h1,h2,k1,k2,rfl,k4,Xn,q1,q3,hd3,?_⟩
      rcases Nat.lt_or_ge y' c.n with dn|Ta
      ·exact dn
      ·have anb:=Nat.ble_eq_true_of_le Ta
       simp_all
    ·exact acf hd
   ·exact acf hd
theorem L5: ∀{l:List Oper},Eh l=true→ ∀o∈l,o.guard=none:=by
 intro l
 induction l with
 |nil=>intro _ o ho;cases ho
 |cons p l ih=>
  intro h o ho
  unfold Eh at h
  cases hg:p.guard with
  |none=>
   rw [hg] at h
   rcases List.mem_cons.1 ho with rfl|ho
   ·exact hg
   ·exact ih h o ho
  |some=>rw [hg] at h;cases h
theorem RP (hG:Good P c) (Ke:vq P c) (id:Nat) (ops:Array Oper):LQ P c id ops:=by
 intro Z e st a w R K r Q h hK hQ
 unfold Tz at hK
 split at hK
 rotate_left
 ·exact Io (Rv hG id ops) h hK hQ
 rename_i pre f b8 hh x o1 o2 post hda
 obtain ⟨iV,cs,cl,x',y,d,rfl,k1,k2,k3,k4,rfl,k5,k6,k7,k8,k9,k10⟩:=Oq hda
 simp only [List.reverse_nil,List.nil_append] at iV
 cases Nl:Eh ops.toList with
 |false=>simp [Nl] at hK
 |true=>
 simp only [Nl,cond_true] at hK
 obtain ⟨std,hdr,hK⟩:=sH h hK
 have hgd:=L5 Nl
 have Ik:o1.guard=none:=hgd o1 (by rw [iV];simp)
 have RJ:o2.guard=none:=hgd o2 (by rw [iV];simp)
 refine wp_region ?_
 have q9:ops.size=pre.length+(post.length+2):=by rw [←Array.length_toList,iV];simp
 have mf: ∀i,ops[i]? =(pre++o1::o2::post)[i]? :=fun i=>by rw [←iV,Array.getElem?_toList]
 have acg:List.range ops.size=List.range pre.length++(pre.length::(pre.length+1)::((List.range post.length).map (· +(pre.length+2)))):=by
  rw [q9,List.range_add]
  congr 1
  rw [show post.length+2=2+post.length by omega,List.range_add]
  simp [List.range_succ]
  intros;omega
 rw [acg]
 refine L4 hG (os:=pre) ?_ hdr hK (.refl _ _ _) ?_
 ·apply List.ext_getElem?
  intro i
  simp only [List.getElem?_map]
  by_cases hi:i<pre.length
  ·rw [List.getElem?_range hi]
   simp only [Option.map_some,mf,List.getElem?_append_left hi]
   rw [List.getElem?_eq_getElem hi];rfl
  ·rw [List.getElem?_eq_none (by simp;omega),List.getElem?_eq_none (by omega)];rfl
 ·rintro a1 w1 ⟨e1,ec,s1,t1,pU⟩
  have hw:=Yu hG.fn (Ke hh k7) k1 k2 k3 k4 k5 k6 k8 k9 k10 s1 pU (P:=P) (Q:=Q)
  have tP:ops[pre.length]? =some o1:=by rw [mf];simp
  have S9:ops[pre.length+1]? =some o2:=by rw [mf,List.getElem?_append_right (by omega)];simp
  rw [wpOps_cons]
  unfold wpOp
  simp only [tP,Region.wanted,Ik,if_true]
  left
  refine Oper.wp_mono ?_ hw
  intro a2 w2 hw2
  rw [wpOps_cons]
  unfold wpOp
  simp only [S9,Region.wanted,RJ,if_true]
  left
  refine Oper.wp_mono ?_ hw2
  rintro a3 w3 ⟨e3,nV,s3,t3,EC⟩
  rw [←List.append_nil ((List.range post.length).map (· +(pre.length+2)))]
  refine L4 hG (os:=post) ?_ s3 EC (t1.trans t3) ?_
  ·apply List.ext_getElem?
   intro i
   simp only [List.getElem?_map,List.map_map]
   by_cases hi:i<post.length
   ·rw [List.getElem?_range hi]
    simp only [Option.map_some,Function.comp,mf]
    rw [List.getElem?_append_right (by omega),show i+(pre.length+2)-pre.length=i+2 by omega]
    simp [List.getElem?_eq_getElem hi]
   ·rw [List.getElem?_eq_none (by simp;omega),List.getElem?_eq_none (by omega)];rfl
  ·intro a' w' ho
   exact hQ a' w' ho
end
end Dn
/-
  Open order with two operations that may be done either way round. Conditions: none.
-/
set_option linter.unusedSimpArgs false
set_option linter.unusedVariables false
namespace Dn
open Go
section
variable {P:Program} {ops:Array Oper} {Q:Exit→Act→World→Prop}
theorem Iz (A B:Nat):(n7 ops A B).size=ops.size:=by simp [n7]
theorem Fc (A B i:Nat):(n7 ops A B)[i]? =(ops[i]?).map fun o=>if B=i then {o with after:=o.after.push ⟨A,.data⟩} else o:=by
 unfold n7
 rw [Array.getElem?_modify]
 by_cases h:B=i
 ·simp [h]
 ·cases ops[i]? <;>simp [h]
theorem Kf (A B:Nat) (tmps:Array Value):yielded (n7 ops A B) tmps=yielded ops tmps:=by
 funext j
 unfold yielded
 rw [Fc]
 cases ops[j]? with
 |none=>rfl
 |some o=>
  have e:(if B=j then {o with after:=o.after.push ⟨A,.data⟩} else o).dst=o.dst:=by split<;>rfl
  simp only [Option.map_some,Option.bind_some,e]
theorem RQ {A B i:Nat} {K:Act→World→Prop} {a:Act} {w:World} (h:wpOp P (n7 ops A B) Q i K a w):wpOp P ops Q i K a w:=by
 unfold wpOp at h⊢
 rw [Fc,Kf] at h
 cases hi:ops[i]? with
 |none=>rw [hi] at h;exact h
 |some o=>
  rw [hi] at h
  simp only [Option.map_some] at h
  by_cases hb:B=i
  ·rw [if_pos hb] at h;exact h
  ·rw [if_neg hb] at h;exact h
theorem Fe {A B i:Nat} {listed:Array Bool}:i∈Region.ready .any (n7 ops A B) listed↔i∈Region.ready .any ops listed∧(i=B→listed.getD A false=true):=by
 unfold Region.ready
 rw [Iz]
 simp only [List.mem_filter,List.mem_range,Fc]
 cases hi:ops[i]? with
 |none=>simp
 |some o=>
  by_cases hb:B=i
  ·subst hb
   simp [Array.all_push,Region.binds]
   constructor
   ·rintro ⟨h1,h2,h3,h4⟩;exact ⟨⟨h1,h2,h3⟩,h4⟩
   ·rintro ⟨⟨h1,h2,h3⟩,h4⟩;exact ⟨h1,h2,h3,h4⟩
  ·have BW: ¬i=B:=fun e=>hb e.symm
   simp [hb,BW]
def Ahd (A B:Nat):Bool→List Nat→Prop
 |_,[]=>True
 |la,i::r=>(i=B→la=true)∧Ahd A B (la||decide (i=A)) r
theorem Ff (A B:Nat): ∀L,Ahd A B true L
 |[]=>trivial
 |i::r=>⟨fun _=>rfl,by simpa using Ff A B r⟩
theorem Vb {A B:Nat} (h:A≠B): ∀L,Ahd A B false L∨Ahd B A false L
 |[]=> .inl trivial
 |i::r=>by
  by_cases ha:i=A
  ·subst ha
   exact .inl ⟨fun e=>absurd e h,by simpa using Ff i B r⟩
  ·by_cases hb:i=B
   ·subst hb
    exact .inr ⟨fun e=>absurd e ha,by simpa using Ff i A r⟩
   ·rcases Vb h r with h1|h1
    ·exact .inl ⟨fun e=>absurd e hb,by simpa [ha] using h1⟩
    ·exact .inr ⟨fun e=>absurd e ha,by simpa [hb] using h1⟩
theorem IA {A B:Nat}: ∀(fuel t:Nat) (listed:Array Bool) (a:Act) (w:World),A<listed.size→wpAny P .any (n7 ops A B) Q fuel listed a w→
 Ahd A B (listed.getD A false) (Region.linearise.go .any ops fuel t listed [])→wpOps P ops Q (Region.linearise.go .any ops fuel t listed []) a w:=by
 intro fuel
 induction fuel with
 |zero=>intro t listed a w _ h _;simpa [Region.linearise.go,wpOps] using h.2
 |succ fuel ih=>
  intro t listed a w hs h hA
  obtain ⟨h₀,h₁⟩:=h
  simp only [Region.linearise.go] at hA⊢
  change wpOps P ops Q (match (Region.ready .any ops listed)[t%(Region.ready .any ops listed).length]? with
   |some i=>Region.linearise.go .any ops fuel (t/(Region.ready .any ops listed).length) (listed.setIfInBounds i true) [i]
   |none=>[].reverse) a w
  change Ahd A B (listed.getD A false) (match (Region.ready .any ops listed)[t%(Region.ready .any ops listed).length]? with
   |some i=>Region.linearise.go .any ops fuel (t/(Region.ready .any ops listed).length) (listed.setIfInBounds i true) [i]
   |none=>[].reverse) at hA
  cases hi:(Region.ready .any ops listed)[t%(Region.ready .any ops listed).length]? with
  |none=>
   have abC:Region.ready .any ops listed=[]:=by
    cases hr:Region.ready .any ops listed with
    |nil=>rfl
    |cons x xs=>
     rw [hr] at hi
     have dn:t%(x::xs).length<(x::xs).length:=Nat.mod_lt _ (by simp)
     simp at hi
     simp at dn
     omega
   have aff:Region.ready .any (n7 ops A B) listed=[]:=by
    cases hr:Region.ready .any (n7 ops A B) listed with
    |nil=>rfl
    |cons x xs=>
     have:x∈Region.ready .any (n7 ops A B) listed:=by rw [hr];simp
     have:=(Fe.1 this).1
     rw [abC] at this;cases this
   simpa [wpOps] using h₀ aff
  |some i=>
   rw [hi] at hA
   simp only [] at hA⊢
   rw [linearise_go_acc,List.reverse_singleton,List.singleton_append] at hA⊢
   obtain ⟨hA1,hA2⟩:=hA
   rw [wpOps_cons]
   have tw:=Fe.2 ⟨List.mem_of_getElem? hi,hA1⟩
   refine wpOp_mono (fun a w hw=>ih _ _ a w (by simpa using hs) hw ?_) (RQ (h₁ i tw))
   have hg:(listed.setIfInBounds i true).getD A false=(listed.getD A false||decide (i=A)):=by
    rw [Array.getD_eq_getD_getElem?,Array.getD_eq_getD_getElem?,Array.getElem?_setIfInBounds]
    by_cases hia:i=A
    ·subst hia;simp [hs]
    ·simp [hia]
   rw [hg];exact hA2
theorem Hm {id A B:Nat} {a:Act} {w:World} (hm:P.follows .mixedOrders=true) (db:A≠B) (hA:A<ops.size) (hB:B<ops.size)
 (h1:wpAny P .any (n7 ops A B) Q ops.size (Array.replicate ops.size false) a {w with drawn:=w.drawn+1})
 (h2:wpAny P .any (n7 ops B A) Q ops.size (Array.replicate ops.size false) a {w with drawn:=w.drawn+1}):(Code.region id ops true).wp P Q a w:=
 wp_region_draw fun t=>by
  simp only [Region.schedule,hm,Bool.true_or,if_true]
  show wpOps P ops Q (Region.linearise.go .any ops ops.size t (Array.replicate ops.size false) []) a _
  rcases Vb db (Region.linearise.go .any ops ops.size t (Array.replicate ops.size false) []) with h|h
  ·exact IA ops.size t _ a _ (by simpa using hA) h1 (by simpa [hA] using h)
  ·exact IA ops.size t _ a _ (by simpa using hB) h2 (by simpa [hB] using h)
theorem L6 {c:Ctx} (hG:Good P c) (L7:P.follows .mixedOrders=true) (Ke:vq P c):P7 P c:=by
 refine ⟨fun id ops=>RP hG Ke id ops,?_,?_⟩
 ·intro id ops l hd hp Z e st a w R K r Q h hK hQ
  refine Code.wp_mono ?_ (wp_region_any L7 (Fa hG hd hp h hK))
  intro x a' w' hx
  cases x<;>first|exact hQ a' w' hx|exact hx.elim
 ·intro id ops A B o1 o2 l1 l2 db hA hB hd1 Xn TV H3 Z e st a w R K r Q h pU wL hQ
  have w1:=Fa hG hd1 TV h pU
  have w2:=Fa hG Xn H3 h wL
  rw [Iz] at w1 w2
  refine Code.wp_mono ?_ (Hm L7 db hA hB w1 w2)
  intro x a' w' hx
  cases x<;>first|exact hQ a' w' hx|exact hx.elim
end
end Dn
/-
  Functions of the library, by hand: copies of slices. Conditions: none.
-/
set_option linter.unusedSimpArgs false
set_option linter.unusedVariables false
namespace Dn
open Go
section
variable {P:Program} {c:Ctx} {Q:Exit→Act→World→Prop} {ops:Array Oper} {o:Oper} {a:Act} {w w':World}
theorem tx {i:Nat} {rest:List Nat} {v:Value} (hi:ops[i]? =some o) (hg:o.guard=none) (bS:(execOp a.eval o).run P w= .ok (.value v) w')
 (h:wpOps P ops Q rest (a.put o.dst v) w'):wpOps P ops Q (i::rest) a w:=by
 rw [wpOps_cons]
 unfold wpOp
 simp only [hi,Region.wanted,hg,if_true]
 left
 unfold Oper.wp
 rw [bS,Oper.upon_value];exact h
structure aS (o:Oper) (d:Nat) (op:Op):Prop where
 dst:o.dst=some d
 op:o.op=op
 guard:o.guard=none
theorem ach {key:Nat→Nat} {φ:Ph} {size:Nat} {v:Value} {xs:List MV} (jo:zZ φ w) (eD:0<size) (hx:lm key φ [v] (.list xs)) (hw:tk size xs=true): ∃news,Src (oe key φ) w size v xs news:=by
 generalize hv:[v]=vs at hx
 cases hx with
 |list ad cap _ bc off K0 f g1 g2 g3 g4 g5=>
 simp at hv
 have XQ: ∀i,i<xs.length→(f i).length=size:=by
  intro i hi
  rw [(g5 i hi).width]
  exact AG hw _ (List.getElem_mem hi)
 obtain ⟨cs,h1,h2⟩:=Ez XQ g5
 refine ⟨cs,h1,ad,cap,hv,?_,?_⟩
 ·intro hn
  cases xs with
  |nil=>rfl
  |cons y ys=>have:=g2 (by simp);rw [hn] at this;cases this
 ·intro x hx j u hj
  have GY:j<cs.length:=(List.getElem?_eq_some_iff.1 hj).1
  rw [h1.length] at GY
  have EA:0<xs.length:=by
   cases xs with
   |nil=>simp at GY
   |cons y ys=>simp
  have Lv:=g2 EA
  rw [hx] at Lv
  cases Lv
  have hq:j/size<xs.length:=(Nat.div_lt_iff_lt_mul eD).2 GY
  have hm:=Nat.mod_lt j eD
  have S3:j=j/size *size+j%size:=by rw [Nat.mul_comm];exact (Nat.div_add_mod j size).symm
  have e1:=h2 (j/size) (j%size) hq hm
  rw [←S3,hj] at e1
  have T8:K0=size:=by rw [←g3 0 EA,XQ 0 EA]
  have e2:=g4 (j/size) (j%size) hq (by rw [T8];exact hm)
  rw [←e1,T8,Nat.add_assoc,←S3] at e2
  have:=jo _ _ _ e2
  rw [Addr.add_mid];exact this
theorem RR {t t':TypeId} {el:TypeId} {x:Operand} {ad:Option Addr} {n cap:Nat} (hu:P.underlying t=some (.slice el)) (ho:o.op= .binOp .eql t x (.const (.slice none 0 0)) t') (hx:a.eval x= .slice ad n cap):
 (execOp a.eval o).run P w= .ok (.value (.bool ad.isNone)) w:=by
 have he:a.eval (.const (.slice none 0 0))= .slice none 0 0:=rfl
 have iV: ∀d:Nat,(Op.equalIn (d+1) t (.slice ad n cap) (.slice none 0 0)).run P w= .ok ad.isNone w:=by
  intro d
  cases ad<;>simp [Op.equalIn,run_underlying hu]
 have hb:Go.binOp .eql t (.slice ad n cap) (.slice none 0 0)=(do pure (.bool (←Op.equal t (.slice ad n cap) (.slice none 0 0)))):=rfl
 have hg: ∀(x y:Operand),(eqGuard .eql t x y (.slice ad n cap) (.slice none 0 0)).run P w= .ok () w:=fun _ _=>rfl
 have h2:(Op.equal t (.slice ad n cap) (.slice none 0 0)).run P w= .ok ad.isNone w:=iV 9999
 unfold execOp
 simp only [ho]
 rw [hx,he]
 simp [hg,hb,h2]
theorem AX {f:FuncId} {fn:Func} {t:TypeId} {I E:TI} {i0 i1 i2 i3:Nat} {oA oB oC oD oE oF oG oH:Oper} {xs:List MV} (hT:kK P c.ti) (hI:c.tv t=some I) (hL:I.zp=true) (hE:c.tv I.elem=some E) (vf:1≤E.bytes)
 (Cd:c.r7 (c.key f)=I.elem) (hg:c.eB (c.key f)=false)
 (hf:P.funcs[f]? =some fn) (AQ:(fn.name== "runtime.NumGoroutine")=false) (hn:fn.ntmps=8) (hr:fn.results= #[.tmp 2])
 (pi:fn.body=some (.seq (.region i0 #[oA] false) (.seq (.seq (.region i1 #[oB,oC] false) (.cond (.tmp 4) (.seq (.region i2 #[oD] false) .ret) .skip)) (.seq (.region i3 #[oE,oF,oG,oH] false) .ret))))
 (hA:aS oA 2 (.assign (.const (.slice none 0 0)))) (hB:aS oB 3 (.move (.tmp 0))) (hC:aS oC 4 (.binOp .eql t (.tmp 3) (.const (.slice none 0 0)) t)) (hD:aS oD 2 (.assign (.const (.slice none 0 0))))
 (hEo:aS oE 5 (.buildSlice t 0 #[])) (hF:aS oF 6 (.move (.tmp 0))) (hG:aS oG 7 (.call {callee:= .builtin .append,args:= #[.tmp 5,.tmp 6],argTypes:= #[t,t]})) (hH:aS oH 2 (.assign (.tmp 7)))
 (hw:tk E.size xs=true) (nl:xs.length *E.bytes≤2^46):kM P c f [.list xs] (.fresh xs):=by
 obtain ⟨hIt,TT⟩:=bO hI
 obtain ⟨nk,n9⟩:=bO hE
 obtain ⟨hu,E2,wY,_,eD⟩:=TI.mK (hT t I hIt) hL
 rw [nk] at wY
 cases wY
 intro φ W Z vs hz fq jo
 simp only [eX,hg,Bool.false_eq_true,if_false] at fq
 obtain ⟨v,u,rfl,⟨_,hx⟩,hu0⟩:=fq
 have hu0:u=[]:=hu0
 subst hu0
 obtain ⟨ad,cap,hv,B1,hnn⟩: ∃ad cap,v= .slice ad xs.length cap∧xs.length≤cap∧(0<xs.length→ad≠none):=by
  have S6:=hx
  generalize yZ:[v]=vs at S6
  cases S6 with
  |list ad cap _ bc off K0 f g1 g2 g3 g4 g5=>exact ⟨ad,cap,by simpa using yZ,g1,fun h0 hn=>by rw [g2 h0] at hn;cases hn⟩
 have bS:(callFunc f [v].toArray).run P W= .ok (.enter f #[v]) W:=by
  have Et: ¬fn.name= "runtime.NumGoroutine" :=by simpa using AQ
  simp [callFunc,hf,Et,pi]
 unfold fP
 rw [bS]
 refine calls_of_wp hf pi ?_
 rw [hn]
 have ha0:({tmps:= #[v]++Array.replicate (8-(#[v]:Array Value).size) undef,defers:=[]}:Act)={tmps:= #[v,undef,undef,undef,undef,undef,undef,undef],defers:=[]}:=rfl
 rw [ha0]
 have ajj:List.range (#[oA]:Array Oper).size=[0]:=rfl
 have ajk:List.range (#[oB,oC]:Array Oper).size=[0,1]:=rfl
 have ajl:List.range (#[oE,oF,oG,oH]:Array Oper).size=[0,1,2,3]:=rfl
 have ajm:List.range (#[oD]:Array Oper).size=[0]:=rfl
 have fin: ∀(a:Act) (W':World) (v':Value) (cells:List Value),a.defers=[]→a.tmps.getD 2 undef=v'→(∃φ',Trans Z φ W φ' W'∧zZ φ' W'∧mM c Z φ' W' (c.key f) v' (.fresh xs))→
  bodyPost P fn (fun x yg=> ∃v,x= .returned v∧ ∃φ',Trans Z φ W φ' yg∧zZ φ' yg∧mM c Z φ' yg (c.key f) v (.fresh xs)) .ret a W':=by
  intro a W' v' cells hd h2 h3
  refine ⟨hd,v',?_,v',rfl,h3⟩
  have Lo:a.tmps[2]?.getD undef=v':=by simpa using h2
  simp [results,hr,Lo]
 refine wp_seq (wp_region ?_)
 rw [ajj]
 refine tx (o:=oA) rfl hA.guard (v:= .slice none 0 0) (w':=W) (by simp [execOp,hA.op];rfl) ?_
 rw [hA.dst]
 refine wp_seq (wp_seq (wp_region ?_))
 rw [ajk]
 refine tx (o:=oB) rfl hB.guard (v:=v) (w':=W) (by simp [execOp,hB.op];rfl) ?_
 rw [hB.dst]
 refine tx (o:=oC) rfl hC.guard (v:= .bool ad.isNone) (w':=W) (RR hu hC.op (by rw [←hv];rfl)) ?_
 rw [hC.dst]
 refine wp_cond (t:=ad.isNone) rfl ?_
 cases Lv:ad.isNone with
 |true=>
  have Lv:ad=none:=by simpa using Lv
  have hxs:xs=[]:=by
   cases xs with
   |nil=>rfl
   |cons y ys=>exact absurd Lv (hnn (by simp))
  simp only [if_true]
  refine wp_seq (wp_region ?_)
  rw [ajm]
  refine tx (o:=oD) rfl hD.guard (v:= .slice none 0 0) (w':=W) (by simp [execOp,hD.op];rfl) ?_
  rw [hD.dst]
  refine wp_ret ?_
  refine fin _ W (.slice none 0 0) [] rfl rfl ⟨φ,.refl _ _ _,jo,?_⟩
  show dg c (bL.plain Z) (oe c.key φ) W _ ⟨c.r7 (c.key f),false,xs⟩
  rw [Cd,hxs]
  exact ⟨E,[],nk,n9,⟨by simp,.inl ⟨rfl,rfl⟩⟩,rfl,fun bc hb=>by simp [Value.ownBlock] at hb⟩
 |false=>
  simp only [Bool.false_eq_true,if_false]
  refine wp_skip ?_
  refine wp_seq (wp_region ?_)
  rw [ajl]
  have afh:=PR (P:=P) (c:=c) (w:=W) (t:=t) (I:=I) (vs:=[]) (parts:= #[]) hu nk n9 eD hT (by simp) (by simp) rfl
  simp only [List.length_nil,List.flatMap_nil] at afh
  refine tx (o:=oE) rfl hEo.guard (v:= .slice (some ⟨W.heap.size,0,none⟩) 0 0) (w':=W.alloc (.cells #[] I.elem)) (by simp [execOp,hEo.op,afh]) ?_
  rw [hEo.dst]
  refine tx (o:=oF) rfl hF.guard (v:=v) (w':=W.alloc (.cells #[] I.elem)) (by simp [execOp,hF.op];rfl) ?_
  rw [hF.dst]
  obtain ⟨news,tX⟩:=ach jo eD hx hw
  have Ik:dz W (W.alloc (.cells #[] I.elem)):= .alloc W _ _
  have afi:Src (oe c.key φ) (W.alloc (.cells #[] I.elem)) E.size v xs news:=by
   obtain ⟨ad',abu,q1,q2,q3⟩:=tX.val
   exact ⟨tX.els,ad',abu,q1,q2,fun x hx j u hj=>Ik.cell (q3 x hx j u hj)⟩
  have dQ:(W.alloc (.cells #[] I.elem)).ownsRow 0 I.elem E.size (.slice (some ⟨W.heap.size,0,none⟩) 0 0) 0 []:=
   ⟨by simp,.inr ⟨W.heap.size,0, #[],rfl,Nat.zero_le _,km W _,Nat.le_refl _,Nat.zero_le _,by simp,by simp⟩⟩
  obtain ⟨v',W',Iy,tY⟩:=zY (P:=P) (c:=c) (ty:=oG.type) (e:=oe c.key φ) hu nk n9 eD hT vf dQ afi (by simpa using nl)
  refine tx (o:=oG) rfl hG.guard (v:=v') (w':=W') (by
   have e1: ∀(a:Act),a.eval (.tmp 5)= .slice (some ⟨W.heap.size,0,none⟩) 0 0→a.eval (.tmp 6)=v→(execOp a.eval oG).run P (W.alloc (.cells #[] I.elem))= .ok (.value v') W':=by
    intro a h5 h6
    simp [execOp,hG.op,resolve,invoke,builtin,h5,h6,Iy]
   exact e1 _ rfl rfl) ?_
  rw [hG.dst]
  refine tx (o:=oH) rfl hH.guard (v:=v') (w':=W') (by simp [execOp,hH.op];rfl) ?_
  rw [hH.dst]
  refine wp_ret ?_
  refine fin _ W' v' [] rfl rfl ?_
  have q9:W.heap.size≤W'.heap.size:=Nat.le_trans Ik.size tY.size
  have hold: ∀b,b<W.heap.size→W'.heap[b]? =W.heap[b]? :=by
   intro b hb
   rw [tY.BK b (Nat.lt_of_lt_of_le hb Ik.size) (by simp [Value.ownBlock];omega)]
   exact Ik.BK b hb
  refine ⟨φ,⟨.refl _,fun b _ hb=>hold b hb,fun _ _ _=>rfl,q9,Ik.rest.trans tY.rest⟩,?_,?_⟩
  ·intro b o u hbo
   have h1:=jo b o u hbo
   rw [World.cell?_of_block (hold b (World.block_lt_of_cell? W _ h1))];exact h1
  ·show dg c (bL.plain Z) (oe c.key φ) W' v' ⟨c.r7 (c.key f),false,xs⟩
   rw [Cd]
   refine ⟨E,news,nk,n9,by simpa using tY.own,tX.els,fun bc hb=> ?_⟩
   have jB:W.heap.size≤bc:=by
    rcases tY.place with h1|h1
    ·rw [h1] at hb;simp [Value.ownBlock] at hb;omega
    ·rw [h1] at hb
     cases hb
     exact Ik.size
   refine ⟨hz bc jB,fun off u hu=> ?_,fun hc=>hc.elim⟩
   have:=World.block_lt_of_cell? W _ (jo _ _ _ hu)
   have:bc<W.heap.size:=this
   omega
end
end Dn
/-
  Tables of functions. Conditions: none.
-/
namespace Dn
open Go
structure ap (P:Program) (c:Ctx) (g:Nat→List MV→Option MV):Prop where
 all: ∀f ms r,g (c.key f) ms=some r→kM P c f ms r
abbrev bl (n:Nat) (F:List MV→Option MV) (g:Nat→List MV→Option MV):Nat→List MV→Option MV:=fun k ms=>match Nat.beq k n with|true=>F ms|false=>g k ms
theorem ap.add {P:Program} {c:Ctx} {g:Nat→List MV→Option MV} {n:Nat} {F:List MV→Option MV} (h:ap P c g) (hF: ∀f ms r,c.key f=n→F ms=some r→kM P c f ms r):ap P c (bl n F g):=by
 refine ⟨fun f ms r hr=> ?_⟩
 unfold bl at hr
 cases hk:Nat.beq (c.key f) n with
 |true=>simp only [hk] at hr;exact hF f ms r (Nat.eq_of_beq_eq_true hk) hr
 |false=>simp only [hk] at hr;exact h.all f ms r hr
structure AY (c c':Ctx):Prop where
 ti:c'.ti=c.ti
 key:c'.key=c.key
 eB:c'.eB=c.eB
 fresh:c'.fresh=c.fresh
 r7:c'.r7=c.r7
 fk:c'.fk=c.fk
 mt:c'.mt=c.mt
 sig:c'.sig=c.sig
 Jx:c'.Jx=c.Jx
theorem dg.om {c c':Ctx} (h:c'.ti=c.ti) {Z:bL} {e:Env} {w:World} {v:Value} {o:nm} (hs:dg c Z e w v o):dg c' Z e w v o:=by
 obtain ⟨I,cells,h1,h2⟩:=hs.row
 exact ⟨I,cells,by rw [h];exact h1,h2⟩
theorem mM.om {c c':Ctx} (h:AY c c') {Z:Nat→Prop} {φ:Ph} {w:World} {k:Nat} {v:Value} {r:MV} (hs:mM c Z φ w k v r):mM c' Z φ w k v r:=by
 cases r<;>simp only [mM,h.key,h.r7] at hs⊢ <;>first|exact hs|exact hs.om h.ti
theorem nt.om {c c':Ctx} (h:AY c c') {Z:Nat→Prop} {φ:Ph} {w:World} {bc:Nat} {ks:List LK} {ls:List MV} (hs:nt c Z φ w bc ks ls):nt c' Z φ w bc ks ls:=by
 obtain ⟨cs,m,E,arr,T,h1,h2,h3,h4,h5,h6,h7⟩:=hs
 refine ⟨cs,m,E,arr,T,h1,h2,h3,h4,by rw [h.key];exact h5,fun f o ho=>⟨?_,(h6 f o ho).2⟩,h7⟩
 rw [h.key]
 exact (h6 f o ho).1.om h.ti
theorem zx.om {c c':Ctx} (h:AY c c') {Z:Nat→Prop} {φ:Ph} {w:World} {k:Nat} {vs:List Value} {v:Value} {r:MV} (hs:zx c Z φ w k vs v r):zx c' Z φ w k vs v r:=by
 cases r<;>simp only [zx] at hs⊢ <;>first|exact hs.om h|skip
 obtain ⟨h1,pos,ks,bc,off,h2,h3,h4⟩:=hs
 exact ⟨h1.om h,pos,ks,bc,off,by rw [h.sig];exact h2,h3,h4.om h⟩
theorem eX.om {c c':Ctx} (h:AY c c') {Z:Nat→Prop} {φ:Ph} {w:World} {k:Nat} {vs:List Value} {ms:List MV} (hs:eX c' Z φ w k vs ms):eX c Z φ w k vs ms:=by
 unfold eX at hs⊢
 rw [h.eB] at hs
 split
 ·rename_i hg
  rw [if_pos hg] at hs
  rcases hs with ⟨v0,v1,v2,xs,m1,ys,h1,h2,h3,h4,h5,h6⟩|⟨v0,v1,v2,xs,m1,m2,h1,h2,h3,h4,h5,h6⟩|⟨pos,ks,off,ls,bc,h1,h2,h3,h4,h5⟩
  ·rw [h.key,h.r7] at h3 h5
   rw [h.key] at h4
   exact .inl ⟨v0,v1,v2,xs,m1,ys,h1,h2,h3.om h.ti.symm,h4,h5.om h.ti.symm,h6⟩
  ·rw [h.key,h.r7] at h4
   rw [h.key] at h5 h6
   exact .inr (.inl ⟨v0,v1,v2,xs,m1,m2,h1,h2,h3,h4.om h.ti.symm,h5,h6⟩)
  ·refine .inr (.inr ⟨pos,ks,off,ls,bc,by rw [←h.sig];exact h1,h2,h3,by rw [←h.key];exact h4,?_⟩)
   obtain ⟨cs,m,E,arr,T,k1,k2,k3,k4,k5,k6,k7⟩:=h5
   refine ⟨cs,m,E,arr,T,k1,k2,k3,k4,by rw [←h.key];exact k5,fun f o ho=>⟨?_,(k6 f o ho).2⟩,k7⟩
   rw [←h.key]
   exact (k6 f o ho).1.om h.ti.symm
 ·rename_i hg
  rw [if_neg hg,h.key] at hs
  exact hs
theorem fP.mono {P:Program} {f:FuncId} {args:Array Value} {w:World} {R R':Value→World→Prop} (hc:fP P f args w R) (h: ∀v w',R v w'→R' v w'):fP P f args w R':=by
 unfold fP at hc⊢
 split
 ·rename_i iV
  rw [iV] at hc
  exact Calls.mono hc (fun x yg ⟨v,e,hr⟩=>⟨v,e,h v yg hr⟩)
 ·rename_i iV
  rw [iV] at hc
  exact h _ _ hc
 ·rename_i h1 h2
  split at hc
  ·rename_i iV;exact absurd iV (h1 _ _ _)
  ·rename_i iV;exact absurd iV (h2 _ _)
  ·exact hc
theorem kM.om {P:Program} {c c':Ctx} {f:Nat} {ms:List MV} {r:MV} (h:AY c c') (hs:kM P c f ms r):kM P c' f ms r:=by
 intro φ w Z vs hz ha hi
 rw [h.key] at ha
 refine (hs φ w Z vs hz (ha.om h) hi).mono ?_
 rintro v w' ⟨φ',h1,h2,h3⟩
 rw [h.key]
 exact ⟨φ',h1,h2,h3.om h⟩
theorem AY.symm {c c':Ctx} (h:AY c c'):AY c' c:=⟨h.ti.symm,h.key.symm,h.eB.symm,h.fresh.symm,h.r7.symm,h.fk.symm,h.mt.symm,h.sig.symm,h.Jx.symm⟩
theorem vp.om {P:Program} {c c':Ctx} (h:AY c c') {g:Nat} {lb:Array Value} {S:Type} {Inv:S→(Nat→Prop)→Ph→World→Prop} {step:S→MV→Option (Bool×S)} (hp:vp P c' g lb Inv step):vp P c g lb Inv step:=
 ⟨fun h1 h2 h3 h4 h5=>hp.call h1 h2 h3 (by rw [h.key];exact h4) h5,hp.frame,hp.mono⟩
theorem vq.om {P:Program} {c c':Ctx} (h:AY c c') (hd:vq P c):vq P c':=by
 intro f hf
 rw [h.Jx] at hf
 have hx:=hd f hf
 refine ⟨?_⟩
 intro S Inv step g lb hp v0 xs ys w Z0 φ0 s0 s' h1 h2 h3 h4 h5 h6 h7
 rw [h.key,h.r7] at h2
 refine (hx.run (hp.om h) h1 (h2.om h.ti.symm) h3 h4 h5 h6 h7).mono ?_
 rintro v W ⟨Z,φ,hW,hF,hb⟩
 refine ⟨Z,φ,⟨hW.inv,hW.new,hW.sub,hW.nT,hW.tr,hW.free⟩,?_,hb⟩
 rw [h.key,h.r7]
 exact hF.om h.ti
def L8 (c:Ctx) (n:Nat) (fn:Func) (b8:List (List Kd)):Bool:=
 !(fn.name== "runtime.NumGoroutine")&&Nat.beq c.n fn.ntmps&&Nat.ble (fn.params.size+b8.length) fn.ntmps&&!c.eB n
theorem ap.body {P:Program} {c c':Ctx} {g:Nat→List MV→Option MV} {n:Nat} {fn:Func} {b8:List (List Kd)} (h:ap P c g) (hl:AY c c') (hgg:c'.g=g) (r8:kK P c.ti) (iV:NR P c.ti) (JL: ∀t k,c.fk t=some k→P.underlying t=some (.float k)) (P6:B4 P c) (L7:P.follows .mixedOrders=true) (Ke:vq P c)
 (hf:P.funcs[n]? =some fn) (hh:L8 c' n fn b8=true) (AJ: ∀f,c.key f=f):ap P c (bl n (HX c' b8 none fn) g):=by
 have hG:Good P c':=by
  refine ⟨by rw [hl.ti];exact r8,by rw [hl.ti];exact iV,fun f ms r hr=> ?_,by rw [hl.fk];exact JL,fun t s hs=>P6 t s ?_⟩
  ·rw [hgg,hl.key] at hr
   exact (h.all f ms r hr).om hl
  ·rw [←hs];unfold uV Ctx.tv;rw [hl.mt,hl.ti]
 refine h.add (fun f ms r hk hr=> ?_)
 rw [AJ] at hk
 subst hk
 simp only [L8,Bool.and_eq_true,Bool.not_eq_true'] at hh
 obtain ⟨⟨⟨h1,h2⟩,h3⟩,h4⟩:=hh
 exact (Yc hG (L6 hG L7 (Ke.om hl)) hf h1 (Nat.eq_of_beq_eq_true h2) (Nat.le_of_ble_eq_true h3) (by rw [hl.key,AJ];exact h4) hr).om hl.symm
def Qi (c:Ctx) (n:Nat) (fn:Func) (b8:List (List Kd)):Bool:=
 !(fn.name== "runtime.NumGoroutine")&&Nat.beq c.n fn.ntmps&&Nat.ble fn.ntmps 1000000&&Nat.ble (fn.params.size+b8.length) fn.ntmps&&c.eB n
theorem ap.Ns {P:Program} {c:Ctx} {g:Nat→List MV→Option MV} {n pos:Nat} {ks:List LK} {fn:Func} {b8:List (List Kd)} {F:List MV→Option MV} (h:ap P c g) (r8:kK P c.ti) (iV:NR P c.ti) (JL: ∀t k,c.fk t=some k→P.underlying t=some (.float k)) (P6:B4 P c) (L7:P.follows .mixedOrders=true) (Ke:vq P c)
 (hf:P.funcs[n]? =some fn) (y8:c.sig n=some (pos,ks)) (AJ: ∀f,c.key f=f) (hF: ∀{ms r},F ms=some r→ ∃c':Ctx,AY c c'∧c'.g=g∧Qi c' n fn b8=true∧HW c' b8 pos ks fn ms=some r):ap P c (bl n F g):=by
 refine h.add (fun f ms r hk hr=> ?_)
 rw [AJ] at hk
 subst hk
 obtain ⟨c',hl,hgg,hh,hr⟩:=hF hr
 have hG:Good P c':=by
  refine ⟨by rw [hl.ti];exact r8,by rw [hl.ti];exact iV,fun f ms r hr=> ?_,by rw [hl.fk];exact JL,fun t s hs=>P6 t s ?_⟩
  ·rw [hgg,hl.key] at hr
   exact (h.all f ms r hr).om hl
  ·rw [←hs];unfold uV Ctx.tv;rw [hl.mt,hl.ti]
 simp only [Qi,Bool.and_eq_true,Bool.not_eq_true'] at hh
 obtain ⟨⟨⟨⟨h1,h2⟩,Lo⟩,h3⟩,h4⟩:=hh
 exact (U1 hG (L6 hG L7 (Ke.om hl)) hf h1 (Nat.eq_of_beq_eq_true h2) (Nat.le_of_ble_eq_true Lo) (Nat.le_of_ble_eq_true h3) (by rw [hl.key,AJ];exact h4) (by rw [hl.sig,hl.key,AJ];exact y8) hr).om hl.symm
end Dn
/-
  Steps through a function of the library by hand. Conditions: none.
-/
set_option linter.unusedSimpArgs false
set_option linter.unusedVariables false
namespace Dn
open Go
def xr (σ:Nat→Value) (d:Nat) (v:Value):Nat→Value:=fun t=>bif Nat.beq t d then v else σ t
def ev (σ:Nat→Value):Operand→Value
 | .tmp t=>σ t
 | .const v=>v
 | .global g=> .pointer (some ⟨g,0,none⟩)
 | .func f=> .func (.func f) #[] #[]
structure Tm (a:Act) (n:Nat) (σ:Nat→Value):Prop where
 defers:a.defers=[]
 size:a.tmps.size=n
 get: ∀t,a.tmps.getD t undef=σ t
theorem Tm.eval {a:Act} {n:Nat} {σ:Nat→Value} (h:Tm a n σ):a.eval=ev σ:=by
 funext x
 cases x with
 |tmp t=>exact h.get t
 |_=>rfl
theorem Tm.put {a:Act} {n:Nat} {σ:Nat→Value} (h:Tm a n σ) {d:Nat} (hd:d<n) (v:Value):Tm (a.put (some d) v) n (xr σ d v):=by
 refine ⟨h.defers,by simp [Act.put,h.size],fun t=> ?_⟩
 show (a.tmps.setIfInBounds d v).getD t undef=bif Nat.beq t d then v else σ t
 by_cases ht:t=d
 ·subst ht
  have:t<a.tmps.size:=by rw [h.size];exact hd
  simp [this]
 ·have hb:Nat.beq t d=false:=by
   cases hq:Nat.beq t d with
   |false=>rfl
   |true=>exact absurd (Nat.eq_of_beq_eq_true hq) ht
  rw [hb]
  have:=h.get t
  simp only [Array.getD_eq_getD_getElem?,Array.getElem?_setIfInBounds_ne (Ne.symm ht),cond_false] at this⊢
  exact this
theorem tm3 (v0 v1 v2:Value) (k:Nat):Tm {tmps:= #[v0,v1,v2]++Array.replicate k undef,defers:=[]} (k+3) (xr (xr (xr (fun _=>undef) 0 v0) 1 v1) 2 v2):=by
 refine ⟨rfl,by simp [Nat.add_comm],fun q=> ?_⟩
 by_cases h0:q=0
 ·subst h0;show (#[v0,v1,v2]++Array.replicate k undef).getD 0 undef=v0;simp [Array.getElem?_append]
 by_cases h1:q=1
 ·subst h1;show (#[v0,v1,v2]++Array.replicate k undef).getD 1 undef=v1;simp [Array.getElem?_append]
 by_cases h2:q=2
 ·subst h2;show (#[v0,v1,v2]++Array.replicate k undef).getD 2 undef=v2;simp [Array.getElem?_append]
 have e: ∀{x y:Nat},x≠y→Nat.beq x y=false:=fun {x y} h=>by
  cases hq:Nat.beq x y with
  |false=>rfl
  |true=>exact absurd (Nat.eq_of_beq_eq_true hq) h
 simp only [xr,e h0,e h1,e h2,cond_false]
 have h3:3≤q:=by omega
 simp [Array.getElem?_append,Array.getElem?_replicate,show¬q<3 by omega]
 by_cases hk:q-3<k<;>simp [hk]
section
variable {P:Program} {Q:Exit→Act→World→Prop} {ops:Array Oper} {o:Oper} {a:Act} {w w':World} {n:Nat} {σ:Nat→Value}
theorem Tm.step {i d:Nat} {op:Op} {rest:List Nat} {v:Value} (aD:Tm a n σ) (hi:ops[i]? =some o) (ho:aS o d op) (hd:d<n) (bS:(execOp (ev σ) o).run P w= .ok (.value v) w')
 (h: ∀a',Tm a' n (xr σ d v)→wpOps P ops Q rest a' w'):wpOps P ops Q (i::rest) a w:=by
 refine tx hi ho.guard (v:=v) (w':=w') (by rw [aD.eval];exact bS) ?_
 rw [ho.dst]
 exact h _ (aD.put hd v)
theorem aQ {d:Nat} {x:Operand} {e:Operand→Value} (ho:aS o d (.move x)) (w:World):(execOp e o).run P w= .ok (.value (e x)) w:=by simp [execOp,ho.op]
theorem cS {d:Nat} {x:Operand} {e:Operand→Value} (ho:aS o d (.assign x)) (w:World):(execOp e o).run P w= .ok (.value (e x)) w:=by simp [execOp,ho.op]
theorem mB {d:Nat} {t el:TypeId} {x:Operand} {e:Operand→Value} {ad:Option Addr} {m c:Nat} (ho:aS o d (.call {callee:= .builtin .len,args:= #[x],argTypes:= #[t]})) (hu:P.underlying t=some (.slice el)) (hx:e x= .slice ad m c) (w:World):
 (execOp e o).run P w= .ok (.value (.int .i64 m)) w:=by simp [execOp,ho.op,resolve,invoke,builtin,hx,Builtin.len_,goInt,run_underlying hu]
theorem Qj {d:Nat} {t el:TypeId} {x:Operand} {e:Operand→Value} {ad:Option Addr} {m c:Nat} (ho:aS o d (.call {callee:= .builtin .cap,args:= #[x],argTypes:= #[t]})) (hu:P.underlying t=some (.slice el)) (hx:e x= .slice ad m c) (w:World):
 (execOp e o).run P w= .ok (.value (.int .i64 c)) w:=by simp [execOp,ho.op,resolve,invoke,builtin,hx,Builtin.cap_,goInt,run_underlying hu]
theorem xt {d:Nat} {op:BinOp} {t t':TypeId} {x y:Operand} {e:Operand→Value} {k:IntKind} {p q:Int} {v:Value} (ho:aS o d (.binOp op t x y t')) (hx:e x= .int k p) (hy:e y= .int k q)
 (hv: ∀w:World,(Go.binOp op t (.int k p) (.int k q)).run P w= .ok v w) (w:World):(execOp e o).run P w= .ok (.value v) w:=by
 have hg:(eqGuard op t x y (.int k p) (.int k q)).run P w= .ok () w:=by cases op<;>rfl
 simp [execOp,ho.op,hx,hy,hg,hv]
theorem oR {d:Nat} {t t':TypeId} {x y:Operand} {e:Operand→Value} {p q:Int} (ho:aS o d (.binOp .eql t x y t')) (hx:e x= .int .i64 p) (hy:e y= .int .i64 q) (w:World):
 (execOp e o).run P w= .ok (.value (.bool (decide (p=q)))) w:=xt ho hx hy (fun w=>by simp [Go.binOp,Op.intCmp];rfl) w
theorem L9 {d:Nat} {t t':TypeId} {x y:Operand} {e:Operand→Value} {p q:Int} (ho:aS o d (.binOp .gtr t x y t')) (hx:e x= .int .i64 p) (hy:e y= .int .i64 q) (w:World):
 (execOp e o).run P w= .ok (.value (.bool (decide (q<p)))) w:=xt ho hx hy (fun w=>by simp [Go.binOp,Op.intCmp]) w
theorem jT {d:Nat} {t t':TypeId} {x y:Operand} {e:Operand→Value} {p q:Nat} (ho:aS o d (.binOp .add t x y t')) (hx:e x= .int .i64 p) (hy:e y= .int .i64 q) (hl:p+q<2^63) (w:World):
 (execOp e o).run P w= .ok (.value (.int .i64 ((p+q:Nat):Int))) w:=xt ho hx hy (fun w=>by
  have:IntKind.i64.wrap ((p:Int)+(q:Int))=((p+q:Nat):Int):=by rw [IntKind.wrap_i64];omega
  simp [Go.binOp,Op.intArith,this]) w
theorem Vc {d:Nat} {t t':TypeId} {x y:Operand} {e:Operand→Value} {p q:Nat} (ho:aS o d (.binOp .sub t x y t')) (hx:e x= .int .i64 p) (hy:e y= .int .i64 q) (hl:p<2^63) (hq:q≤p) (w:World):
 (execOp e o).run P w= .ok (.value (.int .i64 ((p-q:Nat):Int))) w:=xt ho hx hy (fun w=>by
  have:IntKind.i64.wrap ((p:Int)-(q:Int))=((p-q:Nat):Int):=by rw [IntKind.wrap_i64];omega
  simp [Go.binOp,Op.intArith,this]) w
theorem Qk {d:Nat} {t:TypeId} {x:Operand} {e:Operand→Value} {b:Bool} (ho:aS o d (.unOp .not t x)) (hx:e x= .bool b) (w:World):
 (execOp e o).run P w= .ok (.value (.bool (!b))) w:=by simp [execOp,ho.op,hx,Op.unary]
theorem xu {d:Nat} {t el:TypeId} {x y:Operand} {e:Operand→Value} {ad:Option Addr} {m c l size:Nat} {i:TypeInfo} (ho:aS o d (.slice t x (some y) none none)) (hu:P.underlying t=some (.slice el)) (hi:P.info? el=some i) (hs:i.size=size)
 (hx:e x= .slice ad m c) (hy:e y= .int .i64 l) (hl:l≤m) (w:World):(execOp e o).run P w= .ok (.value (.slice (if c=l then ad else ad.map (·.add (l *size))) (m-l) (c-l))) w:=by
 simp [execOp,ho.op,Instr.sliceAt,Instr.slice,run_underlying hu,hx,hy,Go.sizeOf,typeInfo,hi,hs,Instr.sliceBounds,Instr.sliceBound,asIntOf,hl]
theorem AZ {d:Nat} {t el:TypeId} {x y:Operand} {e:Operand→Value} {ad:Option Addr} {m c l size:Nat} {i:TypeInfo} (ho:aS o d (.slice t x none (some y) none)) (hu:P.underlying t=some (.slice el)) (hi:P.info? el=some i) (hs:i.size=size)
 (hx:e x= .slice ad m c) (hy:e y= .int .i64 l) (hl:l≤c) (w:World):(execOp e o).run P w= .ok (.value (.slice ad l c)) w:=by
 have h0: ∀q:Addr,q.add 0=q:=fun q=>by obtain ⟨b,o,s⟩:=q;cases s<;>simp [Addr.add]
 have:(if c=0 then ad else ad.map (·.add (0 *size)))=ad:=by
  cases ad<;>simp [h0]
 simp [execOp,ho.op,Instr.sliceAt,Instr.slice,run_underlying hu,hx,hy,Go.sizeOf,typeInfo,hi,hs,Instr.sliceBounds,Instr.sliceBound,asIntOf,hl]
 cases ad<;>simp [h0]
theorem nd {d:Nat} {t el:TypeId} {x y:Operand} {e:Operand→Value} {g m c l size:Nat} {i:TypeInfo} (ho:aS o d (.slice t x (some y) none none)) (hu:P.underlying t=some (.slice el)) (hi:P.info? el=some i) (hs:i.size=size)
 (hx:e x= .slice (some ⟨g,0,none⟩) m c) (hy:e y= .int .i64 l) (hl:l≤m) (hc:l<c) (w:World):(execOp e o).run P w= .ok (.value (.slice (some ⟨g,l *size,none⟩) (m-l) (c-l))) w:=by
 rw [xu ho hu hi hs hx hy hl w]
 have: ¬c=l:=by omega
 have h0:(⟨g,0,none⟩:Addr).add (l *size)=⟨g,l *size,none⟩:=by
  have:=Addr.add_mid g 0 (l *size)
  rwa [Nat.zero_add] at this
 simp [this,h0]
theorem Yw {d:Nat} {x y:Operand} {t1 t2:TypeId} {f:FuncId} {e:Operand→Value} {v1 v2 v:Value} (ho:aS o d (.call {callee:= .value (.func f),args:= #[x,y],argTypes:= #[t1,t2]})) (he:e (.func f)= .func (.func f) #[] #[]) (hx:e x=v1) (hy:e y=v2)
 (h:(callFunc f #[v1,v2]).run P w= .ok (.value v) w'):(execOp e o).run P w= .ok (.value v) w':=by
 simp [execOp,ho.op,resolve,invoke,builtin,he,hx,hy,Deferred.ofValue,h]
theorem Fg {d:Nat} {x y:Operand} {t1 t2:TypeId} {e:Operand→Value} {v1 v2 v:Value} (ho:aS o d (.call {callee:= .builtin .append,args:= #[x,y],argTypes:= #[t1,t2]})) (hx:e x=v1) (hy:e y=v2)
 (h:(Builtin.append_ #[t1,t2] o.type #[v1,v2]).run P w= .ok v w'):(execOp e o).run P w= .ok (.value v) w':=by
 simp [execOp,ho.op,resolve,invoke,builtin,hx,hy,h]
theorem A0 {d:Nat} {x y:Operand} {t1 t2:TypeId} {e:Operand→Value} {v1 v2 v:Value} (ho:aS o d (.call {callee:= .builtin .copy,args:= #[x,y],argTypes:= #[t1,t2]})) (hx:e x=v1) (hy:e y=v2)
 (h:(Builtin.copy_ #[t1,t2] o.type #[v1,v2]).run P w= .ok v w'):(execOp e o).run P w= .ok (.value v) w':=by
 simp [execOp,ho.op,resolve,invoke,builtin,hx,hy,h]
theorem oS {dT sT ty elem t:TypeId} {g o Yx aci Yy acj size k:Nat} {a:Addr} {dm:Array Value} {cs:List Value} {i:TypeInfo} (hu:P.underlying dT=some (.slice elem)) (hi:P.info? elem=some i) (hs:i.size=size)
 (hg:w.heap[g]? =some (.cells dm t (0,0))) (hk:Nat.min Yy Yx=k) (hn:cs.length=k *size)
 (tX: ∀(j:Nat) v,cs[j]? =some v→w.cell? (a.add j)=some v) (xh:o+cs.length≤dm.size) (h1: ∀v∈cs,v.oneCell'=true):
 (Builtin.copy_ #[dT,sT] ty #[.slice (some ⟨g,o,none⟩) Yx aci,.slice (some a) Yy acj]).run P w=
  .ok (goInt k) (w.setRow g (dm.toList.take o++cs++dm.toList.drop (o+cs.length)).toArray):=by
 have hl:=run_loadCells_list (P:=P) w a cs tX
 have ez:=run_storeCells_at P g o t cs 0 dm w hg (by simpa using xh) h1
 simp only [Nat.add_zero] at ez
 simp [Builtin.copy_,run_underlying hu,Builtin.lenOf,Builtin.firstCells,Go.sizeOf,typeInfo,hi,hs,hk,←hn,hl,ez]
def Ma (ops:Array Oper):Nat→Nat→Array Bool→Bool
 |0,i,listed=>(Region.ready .any ops (listed.setIfInBounds i true)).isEmpty&&(Region.ready .any ops listed==[i])
 |k+1,i,listed=>Region.free .any ops listed i&&(Region.ready .any ops listed).contains i&&Ma ops k (i+1) (listed.setIfInBounds i true)
def Ql (ops:Array Oper):Bool:=Region.noSelect ops&&Nat.blt 0 ops.size&&Ma ops (ops.size-1) 0 (Array.replicate ops.size false)
structure Qm (ops:Array Oper) (k i:Nat) (listed:Array Bool):Prop where
 sel:Region.noSelect ops=true
 ord:Ma ops k i listed=true
theorem Tm.draw {N:Act→World→Prop} {i d:Nat} {op:Op} {k:Nat} {listed:Array Bool} {v:Value} (aD:Tm a n σ) (hi:ops[i]? =some o) (ho:aS o d op) (hd:d<n) (hb:Qm ops (k+1) i listed) (bS: ∀w,(execOp (ev σ) o).run P w= .ok (.value v) w)
 (h: ∀a',Tm a' n (xr σ d v)→Qm ops k (i+1) (listed.setIfInBounds i true)→wpAny P .any ops (qv N) (k+1) (listed.setIfInBounds i true) a' w):wpAny P .any ops (qv N) (k+2) listed a w:=by
 obtain ⟨hs,hb⟩:=hb
 simp only [Ma,Bool.and_eq_true] at hb
 obtain ⟨⟨h1,h2⟩,h3⟩:=hb
 refine wpAny_take hi hs h1 h2 (fun c a w hq=>hq.elim) (v:=v) (.inl ⟨by simp [Region.wanted,ho.guard],fun w=>by rw [aD.eval];exact bS w⟩) ?_
 rw [ho.dst]
 exact h _ (aD.put hd v) ⟨hs,h3⟩
theorem Tm.last {N:Act→World→Prop} {i d:Nat} {op:Op} {listed:Array Bool} {v:Value} (aD:Tm a n σ) (hi:ops[i]? =some o) (ho:aS o d op) (hd:d<n) (hb:Qm ops 0 i listed) (bS:(execOp (ev σ) o).run P w= .ok (.value v) w')
 (h: ∀a',Tm a' n (xr σ d v)→N a' w'):wpAny P .any ops (qv N) 1 listed a w:=by
 obtain ⟨hs,hb⟩:=hb
 simp only [Ma,Bool.and_eq_true,List.isEmpty_iff,beq_iff_eq] at hb
 obtain ⟨h1,h2⟩:=hb
 refine wpAny_all h2 (by simp) ?_
 intro j hj
 simp only [List.mem_singleton] at hj
 subst hj
 unfold wpOp
 simp only [hi,Region.wanted,ho.guard,if_true]
 left
 unfold Oper.wp
 rw [aD.eval,bS,Oper.upon_value,ho.dst]
 exact wpAny_done h1 (h _ (aD.put hd v)) 0
theorem Qn {id k:Nat} (hm:P.follows .mixedOrders=true) (hb:Ql ops=true) (hk:ops.size=k+1) (h:Qm ops k 0 (Array.replicate (k+1) false)→wpAny P .any ops (qv fun a w=>Q .normal a w) (k+1) (Array.replicate (k+1) false) a {w with drawn:=w.drawn+1}):
 (Code.region id ops true).wp P Q a w:=by
 simp only [Ql,Bool.and_eq_true] at hb
 rw [hk] at hb
 refine Code.wp_mono ?_ (wp_region_any (Q:=qv fun a w=>Q .normal a w) hm (by rw [hk];exact h ⟨hb.1.1,hb.2⟩))
 intro x a' w' hx
 cases x<;>first|exact hx|exact hx.elim
theorem Tm.cond {x:Operand} {b:Bool} {A B:Code} (aD:Tm a n σ) (hx:ev σ x= .bool b) (h:(if b then A else B).wp P Q a w):(Code.cond x A B).wp P Q a w:=by
 refine wp_cond (t:=b) (by rw [aD.eval];exact hx) h
end
end Dn
/-
  slices.Insert of the library, walked. Printed by a program. Conditions: none.
-/
set_option linter.unusedSimpArgs false
set_option linter.unusedVariables false
namespace Dn
open Go
def vr (r:Nat→Nat) (o:Nat→Oper) (tail:Code):Code:=
 .seq (.region (r 0) #[o 0] false) (.seq (.region (r 1) #[o 1,o 2,o 3] false) (.seq (.region (r 2) #[o 4,o 5,o 6] false) (.seq (.seq (.region (r 3) #[o 7,o 8] false) (.cond (.tmp 16) (.seq (.region (r 4) #[o 9,o 10] false) .ret) .skip)) (.seq (.region (r 5) #[o 11,o 12,o 13] false) (.seq (.seq (.region (r 6) #[o 14,o 15,o 16] false) (.cond (.tmp 22) (.seq (.region (r 7) #[o 17,o 18,o 19,o 20] false) .ret) .skip)) (.seq (.seq (.region (r 8) #[o 21,o 22,o 23,o 24,o 25,o 26] false) (.cond (.tmp 31) (.seq (.region (r 9) #[o 27,o 28,o 29,o 30,o 31,o 32,o 33,o 34,o 35,o 36] false) (.seq (.region (r 10) #[o 37,o 38,o 39,o 40,o 41] false) (.seq (.region (r 11) #[o 42,o 43,o 44,o 45,o 46,o 47,o 48,o 49,o 50] true) (.seq (.region (r 12) #[o 51,o 52] false) .ret)))) .skip)) (.seq (.region (r 13) #[o 53,o 54,o 55,o 56,o 57,o 58] false) (.seq (.seq (.region (r 14) #[o 59,o 60,o 61,o 62,o 63,o 64,o 65,o 66] false) (.cond (.tmp 68) (.seq (.region (r 15) #[o 67,o 68,o 69,o 70,o 71,o 72,o 73,o 74,o 75] true) (.seq (.region (r 16) #[o 76,o 77,o 78,o 79,o 80] false) (.seq (.region (r 17) #[o 81,o 82] false) .ret))) .skip)) tail))))))))
structure ack (t ti tb fo:Nat) (o:Nat→Oper):Prop where
 h0:aS (o 0) 6 (.assign (.const (.slice none 0 0)))
 h1:aS (o 1) 10 (.move (.tmp 0))
 h2:aS (o 2) 11 (.move (.tmp 1))
 h3:aS (o 3) 12 (.slice t (.tmp 10) (some (.tmp 11)) none none)
 h4:aS (o 4) 13 (.move (.tmp 2))
 h5:aS (o 5) 14 (.call {callee:= .builtin .len,args:= #[.tmp 13],argTypes:= #[t]})
 h6:aS (o 6) 7 (.assign (.tmp 14))
 h7:aS (o 7) 15 (.move (.tmp 7))
 h8:aS (o 8) 16 (.binOp .eql ti (.tmp 15) (.const (.int .i64 0)) ti)
 h9:aS (o 9) 17 (.move (.tmp 0))
 P9:aS (o 10) 6 (.assign (.tmp 17))
 Ot:aS (o 11) 18 (.move (.tmp 0))
 Ou:aS (o 12) 19 (.call {callee:= .builtin .len,args:= #[.tmp 18],argTypes:= #[t]})
 Ov:aS (o 13) 8 (.assign (.tmp 19))
 Ow:aS (o 14) 20 (.move (.tmp 1))
 Ox:aS (o 15) 21 (.move (.tmp 8))
 Oy:aS (o 16) 22 (.binOp .eql ti (.tmp 20) (.tmp 21) ti)
 Vd:aS (o 17) 23 (.move (.tmp 0))
 h18:aS (o 18) 24 (.move (.tmp 2))
 h19:aS (o 19) 25 (.call {callee:= .builtin .append,args:= #[.tmp 23,.tmp 24],argTypes:= #[t,t]})
 h20:aS (o 20) 6 (.assign (.tmp 25))
 Xo:aS (o 21) 26 (.move (.tmp 8))
 Xp:aS (o 22) 27 (.move (.tmp 7))
 Xq:aS (o 23) 28 (.binOp .add ti (.tmp 26) (.tmp 27) ti)
 Xr:aS (o 24) 29 (.move (.tmp 0))
 Xs:aS (o 25) 30 (.call {callee:= .builtin .cap,args:= #[.tmp 29],argTypes:= #[t]})
 Xt:aS (o 26) 31 (.binOp .gtr ti (.tmp 28) (.tmp 30) ti)
 h27:aS (o 27) 32 (.move (.tmp 0))
 h28:aS (o 28) 33 (.move (.tmp 1))
 h29:aS (o 29) 34 (.slice t (.tmp 32) none (some (.tmp 33)) none)
 Ve:aS (o 30) 35 (.move (.tmp 8))
 h31:aS (o 31) 36 (.move (.tmp 7))
 h32:aS (o 32) 37 (.binOp .add ti (.tmp 35) (.tmp 36) ti)
 h33:aS (o 33) 38 (.move (.tmp 1))
 h34:aS (o 34) 39 (.binOp .sub ti (.tmp 37) (.tmp 38) ti)
 h35:aS (o 35) 40 (.call {callee:= .builtin .append,args:= #[.tmp 34,.tmp 39],argTypes:= #[t,ti]})
 h36:aS (o 36) 9 (.assign (.tmp 40))
 h37:aS (o 37) 41 (.move (.tmp 9))
 h38:aS (o 38) 42 (.move (.tmp 1))
 h39:aS (o 39) 43 (.slice t (.tmp 41) (some (.tmp 42)) none none)
 h40:aS (o 40) 44 (.move (.tmp 2))
 h41:aS (o 41) 45 (.call {callee:= .builtin .copy,args:= #[.tmp 43,.tmp 44],argTypes:= #[t,t]})
 h42:aS (o 42) 46 (.move (.tmp 9))
 h43:aS (o 43) 47 (.move (.tmp 1))
 h44:aS (o 44) 48 (.move (.tmp 7))
 h45:aS (o 45) 49 (.binOp .add ti (.tmp 47) (.tmp 48) ti)
 h46:aS (o 46) 50 (.slice t (.tmp 46) (some (.tmp 49)) none none)
 h47:aS (o 47) 51 (.move (.tmp 0))
 h48:aS (o 48) 52 (.move (.tmp 1))
 h49:aS (o 49) 53 (.slice t (.tmp 51) (some (.tmp 52)) none none)
 h50:aS (o 50) 54 (.call {callee:= .builtin .copy,args:= #[.tmp 50,.tmp 53],argTypes:= #[t,t]})
 h51:aS (o 51) 55 (.move (.tmp 9))
 h52:aS (o 52) 6 (.assign (.tmp 55))
 h53:aS (o 53) 56 (.move (.tmp 0))
 h54:aS (o 54) 57 (.move (.tmp 8))
 h55:aS (o 55) 58 (.move (.tmp 7))
 h56:aS (o 56) 59 (.binOp .add ti (.tmp 57) (.tmp 58) ti)
 h57:aS (o 57) 60 (.slice t (.tmp 56) none (some (.tmp 59)) none)
 h58:aS (o 58) 0 (.assign (.tmp 60))
 h59:aS (o 59) 61 (.move (.tmp 2))
 h60:aS (o 60) 62 (.move (.tmp 0))
 h61:aS (o 61) 63 (.move (.tmp 1))
 h62:aS (o 62) 64 (.move (.tmp 7))
 h63:aS (o 63) 65 (.binOp .add ti (.tmp 63) (.tmp 64) ti)
 h64:aS (o 64) 66 (.slice t (.tmp 62) (some (.tmp 65)) none none)
 h65:aS (o 65) 67 (.call {callee:= .value (.func fo),args:= #[.tmp 61,.tmp 66],argTypes:= #[t,t]})
 h66:aS (o 66) 68 (.unOp .not tb (.tmp 67))
 h67:aS (o 67) 69 (.move (.tmp 0))
 h68:aS (o 68) 70 (.move (.tmp 1))
 h69:aS (o 69) 71 (.move (.tmp 7))
 h70:aS (o 70) 72 (.binOp .add ti (.tmp 70) (.tmp 71) ti)
 h71:aS (o 71) 73 (.slice t (.tmp 69) (some (.tmp 72)) none none)
 h72:aS (o 72) 74 (.move (.tmp 0))
 h73:aS (o 73) 75 (.move (.tmp 1))
 h74:aS (o 74) 76 (.slice t (.tmp 74) (some (.tmp 75)) none none)
 h75:aS (o 75) 77 (.call {callee:= .builtin .copy,args:= #[.tmp 73,.tmp 76],argTypes:= #[t,t]})
 h76:aS (o 76) 78 (.move (.tmp 0))
 h77:aS (o 77) 79 (.move (.tmp 1))
 h78:aS (o 78) 80 (.slice t (.tmp 78) (some (.tmp 79)) none none)
 h79:aS (o 79) 81 (.move (.tmp 2))
 h80:aS (o 80) 82 (.call {callee:= .builtin .copy,args:= #[.tmp 80,.tmp 81],argTypes:= #[t,t]})
 h81:aS (o 81) 83 (.move (.tmp 0))
 h82:aS (o 82) 6 (.assign (.tmp 83))
 d11:Ql #[o 42,o 43,o 44,o 45,o 46,o 47,o 48,o 49,o 50]=true
 d15:Ql #[o 67,o 68,o 69,o 70,o 71,o 72,o 73,o 74,o 75]=true
structure Fh (P:Program) (f t ti tb el fo:Nat) (fn:Func) (r:Nat→Nat) (o:Nat→Oper) (tail:Code):Prop where
 pos:P.funcs[f]? =some fn
 name:(fn.name== "runtime.NumGoroutine")=false
 tmps:fn.ntmps=95
 res:fn.results= #[.tmp 6]
 body:fn.body=some (vr r o tail)
 ops:ack t ti tb fo o
 mix:P.follows .mixedOrders=true
 uS:P.underlying t=some (.slice el)
section
variable {P:Program} {f t ti tb el fo:Nat} {fn:Func} {r:Nat→Nat} {o:Nat→Oper} {tail:Code} {ie:TypeInfo} {size n m c c2 i g g2:Nat} {ad:Option Addr} {w:World}
theorem Kg {a:Act} {w:World} {σ:Nat→Value} {R:Ending→World→Prop} {v:Value} (hr:fn.results= #[.tmp 6]) (aD:Tm a 95 σ) (h6:σ 6=v) (h:R (.returned v) w):bodyPost P fn R .ret a w:=by
 refine ⟨aD.defers,v,?_,h⟩
 have h2:a.tmps[6]?.getD undef=v:=by have:=aD.get 6;rw [h6] at this;simpa using this
 simp [results,hr,h2]
theorem Yz (hf:Fh P f t ti tb el fo fn r o tail) (nU:P.info? el=some ie) (tz:ie.size=size) (hm:0<m) (hn:n≤c) (hc:c<2^63) (hnm:n+m<2^63) (hi:i=n) {v:Value} {w1:World} (bS: ∀ty,(Builtin.append_ #[t,t] ty #[.slice ad n c,.slice (some ⟨g2,0,none⟩) m c2]).run P w= .ok v w1)
 :Calls P f #[.slice ad n c,.int .i64 ((i:Nat):Int),.slice (some ⟨g2,0,none⟩) m c2] w fun x w'=>x= .returned v∧w'=w1:=by
 refine calls_of_wp hf.pos hf.body ?_
 rw [hf.tmps]
 have key: ∀a:Act,Tm a 95 (xr (xr (xr (fun _=>undef) 0 (.slice ad n c)) 1 (.int .i64 ((i:Nat):Int))) 2 (.slice (some ⟨g2,0,none⟩) m c2))→(vr r o tail).wp P (bodyPost P fn fun x w'=>x= .returned v∧w'=w1) a w:=by
  intro a aD
  unfold vr
  refine wp_seq (wp_region ?_)
  rw [show List.range (#[o 0]:Array Oper).size=[0] from rfl]
  refine aD.step (v:= .slice none 0 0) rfl hf.ops.h0 (by decide) (cS hf.ops.h0 _) (fun a aD=> ?_)
  refine wp_seq (wp_region ?_)
  rw [show List.range (#[o 1,o 2,o 3]:Array Oper).size=[0,1,2] from rfl]
  refine aD.step (v:= .slice ad n c) rfl hf.ops.h1 (by decide) (aQ hf.ops.h1 _) (fun a aD=> ?_)
  refine aD.step (v:= .int .i64 ((i:Nat):Int)) rfl hf.ops.h2 (by decide) (aQ hf.ops.h2 _) (fun a aD=> ?_)
  refine aD.step (v:= .slice (if c=i then ad else (ad:Option Addr).map (·.add (i *size))) (n-i) (c-i)) rfl hf.ops.h3 (by decide) (xu hf.ops.h3 hf.uS nU tz rfl rfl (by omega) _) (fun a aD=> ?_)
  refine wp_seq (wp_region ?_)
  rw [show List.range (#[o 4,o 5,o 6]:Array Oper).size=[0,1,2] from rfl]
  refine aD.step (v:= .slice (some ⟨g2,0,none⟩) m c2) rfl hf.ops.h4 (by decide) (aQ hf.ops.h4 _) (fun a aD=> ?_)
  refine aD.step (v:= .int .i64 ((m:Nat):Int)) rfl hf.ops.h5 (by decide) (mB hf.ops.h5 hf.uS rfl _) (fun a aD=> ?_)
  refine aD.step (v:= .int .i64 ((m:Nat):Int)) rfl hf.ops.h6 (by decide) (cS hf.ops.h6 _) (fun a aD=> ?_)
  refine wp_seq ?_
  refine wp_seq (wp_region ?_)
  rw [show List.range (#[o 7,o 8]:Array Oper).size=[0,1] from rfl]
  refine aD.step (v:= .int .i64 ((m:Nat):Int)) rfl hf.ops.h7 (by decide) (aQ hf.ops.h7 _) (fun a aD=> ?_)
  refine aD.step (v:= .bool (decide (((m:Nat):Int)=((0:Nat):Int)))) rfl hf.ops.h8 (by decide) (oR hf.ops.h8 rfl rfl _) (fun a aD=> ?_)
  refine aD.cond (b:=false) (by show Value.bool (decide (((m:Nat):Int)=((0:Nat):Int)))=_;rw [decide_eq_false (by omega)]) ?_
  simp only [Bool.false_eq_true,if_false]
  refine wp_skip ?_
  refine wp_seq (wp_region ?_)
  rw [show List.range (#[o 11,o 12,o 13]:Array Oper).size=[0,1,2] from rfl]
  refine aD.step (v:= .slice ad n c) rfl hf.ops.Ot (by decide) (aQ hf.ops.Ot _) (fun a aD=> ?_)
  refine aD.step (v:= .int .i64 ((n:Nat):Int)) rfl hf.ops.Ou (by decide) (mB hf.ops.Ou hf.uS rfl _) (fun a aD=> ?_)
  refine aD.step (v:= .int .i64 ((n:Nat):Int)) rfl hf.ops.Ov (by decide) (cS hf.ops.Ov _) (fun a aD=> ?_)
  refine wp_seq ?_
  refine wp_seq (wp_region ?_)
  rw [show List.range (#[o 14,o 15,o 16]:Array Oper).size=[0,1,2] from rfl]
  refine aD.step (v:= .int .i64 ((i:Nat):Int)) rfl hf.ops.Ow (by decide) (aQ hf.ops.Ow _) (fun a aD=> ?_)
  refine aD.step (v:= .int .i64 ((n:Nat):Int)) rfl hf.ops.Ox (by decide) (aQ hf.ops.Ox _) (fun a aD=> ?_)
  refine aD.step (v:= .bool (decide (((i:Nat):Int)=((n:Nat):Int)))) rfl hf.ops.Oy (by decide) (oR hf.ops.Oy rfl rfl _) (fun a aD=> ?_)
  refine aD.cond (b:=true) (by show Value.bool (decide (((i:Nat):Int)=((n:Nat):Int)))=_;rw [decide_eq_true (by omega)]) ?_
  simp only [if_true]
  refine wp_seq (wp_region ?_)
  rw [show List.range (#[o 17,o 18,o 19,o 20]:Array Oper).size=[0,1,2,3] from rfl]
  refine aD.step (v:= .slice ad n c) rfl hf.ops.Vd (by decide) (aQ hf.ops.Vd _) (fun a aD=> ?_)
  refine aD.step (v:= .slice (some ⟨g2,0,none⟩) m c2) rfl hf.ops.h18 (by decide) (aQ hf.ops.h18 _) (fun a aD=> ?_)
  refine aD.step (v:=v) rfl hf.ops.h19 (by decide) (Fg hf.ops.h19 rfl rfl (bS _)) (fun a aD=> ?_)
  refine aD.step (v:=v) rfl hf.ops.h20 (by decide) (cS hf.ops.h20 _) (fun a aD=> ?_)
  refine wp_ret ?_
  show bodyPost P fn (fun x wq=>x= .returned (v)∧wq=w1) .ret a w1
  refine Kg hf.res aD (v:=v) rfl ?_
  exact ⟨rfl,rfl⟩
 exact key _ (tm3 _ _ _ 92)
theorem Vf (hf:Fh P f t ti tb el fo fn r o tail) (nU:P.info? el=some ie) (tz:ie.size=size) (hm:0<m) (hn:n≤c) (hc:c<2^63) (hnm:n+m<2^63) (hi:i<n) (sG:c<n+m) {g9 G:Nat} {v1 v2:Value} {w1 w2 w3:World} (hG:n+m≤G) (hA: ∀ty,(Builtin.append_ #[t,ti] ty #[.slice (some ⟨g,0,none⟩) i c,.int .i64 ((n+m-i:Nat):Int)]).run P w= .ok (.slice (some ⟨g9,0,none⟩) (n+m) G) w1)
 (hB: ∀ty,(Builtin.copy_ #[t,t] ty #[.slice (some ⟨g9,i *size,none⟩) (n+m-i) (G-i),.slice (some ⟨g2,0,none⟩) m c2]).run P w1= .ok v1 w2)
 (hC: ∀ty,(Builtin.copy_ #[t,t] ty #[.slice (some ⟨g9,(i+m) *size,none⟩) (n+m-(i+m)) (G-(i+m)),.slice (some ⟨g,i *size,none⟩) (n-i) (c-i)]).run P {w2 with drawn:=w2.drawn+1}= .ok v2 w3)
 :Calls P f #[.slice (some ⟨g,0,none⟩) n c,.int .i64 ((i:Nat):Int),.slice (some ⟨g2,0,none⟩) m c2] w fun x w'=>x= .returned (.slice (some ⟨g9,0,none⟩) (n+m) G)∧w'=w3:=by
 refine calls_of_wp hf.pos hf.body ?_
 rw [hf.tmps]
 have key: ∀a:Act,Tm a 95 (xr (xr (xr (fun _=>undef) 0 (.slice (some ⟨g,0,none⟩) n c)) 1 (.int .i64 ((i:Nat):Int))) 2 (.slice (some ⟨g2,0,none⟩) m c2))→(vr r o tail).wp P (bodyPost P fn fun x w'=>x= .returned (.slice (some ⟨g9,0,none⟩) (n+m) G)∧w'=w3) a w:=by
  intro a aD
  unfold vr
  refine wp_seq (wp_region ?_)
  rw [show List.range (#[o 0]:Array Oper).size=[0] from rfl]
  refine aD.step (v:= .slice none 0 0) rfl hf.ops.h0 (by decide) (cS hf.ops.h0 _) (fun a aD=> ?_)
  refine wp_seq (wp_region ?_)
  rw [show List.range (#[o 1,o 2,o 3]:Array Oper).size=[0,1,2] from rfl]
  refine aD.step (v:= .slice (some ⟨g,0,none⟩) n c) rfl hf.ops.h1 (by decide) (aQ hf.ops.h1 _) (fun a aD=> ?_)
  refine aD.step (v:= .int .i64 ((i:Nat):Int)) rfl hf.ops.h2 (by decide) (aQ hf.ops.h2 _) (fun a aD=> ?_)
  refine aD.step (v:= .slice (if c=i then (some ⟨g,0,none⟩) else ((some ⟨g,0,none⟩):Option Addr).map (·.add (i *size))) (n-i) (c-i)) rfl hf.ops.h3 (by decide) (xu hf.ops.h3 hf.uS nU tz rfl rfl (by omega) _) (fun a aD=> ?_)
  refine wp_seq (wp_region ?_)
  rw [show List.range (#[o 4,o 5,o 6]:Array Oper).size=[0,1,2] from rfl]
  refine aD.step (v:= .slice (some ⟨g2,0,none⟩) m c2) rfl hf.ops.h4 (by decide) (aQ hf.ops.h4 _) (fun a aD=> ?_)
  refine aD.step (v:= .int .i64 ((m:Nat):Int)) rfl hf.ops.h5 (by decide) (mB hf.ops.h5 hf.uS rfl _) (fun a aD=> ?_)
  refine aD.step (v:= .int .i64 ((m:Nat):Int)) rfl hf.ops.h6 (by decide) (cS hf.ops.h6 _) (fun a aD=> ?_)
  refine wp_seq ?_
  refine wp_seq (wp_region ?_)
  rw [show List.range (#[o 7,o 8]:Array Oper).size=[0,1] from rfl]
  refine aD.step (v:= .int .i64 ((m:Nat):Int)) rfl hf.ops.h7 (by decide) (aQ hf.ops.h7 _) (fun a aD=> ?_)
  refine aD.step (v:= .bool (decide (((m:Nat):Int)=((0:Nat):Int)))) rfl hf.ops.h8 (by decide) (oR hf.ops.h8 rfl rfl _) (fun a aD=> ?_)
  refine aD.cond (b:=false) (by show Value.bool (decide (((m:Nat):Int)=((0:Nat):Int)))=_;rw [decide_eq_false (by omega)]) ?_
  simp only [Bool.false_eq_true,if_false]
  refine wp_skip ?_
  refine wp_seq (wp_region ?_)
  rw [show List.range (#[o 11,o 12,o 13]:Array Oper).size=[0,1,2] from rfl]
  refine aD.step (v:= .slice (some ⟨g,0,none⟩) n c) rfl hf.ops.Ot (by decide) (aQ hf.ops.Ot _) (fun a aD=> ?_)
  refine aD.step (v:= .int .i64 ((n:Nat):Int)) rfl hf.ops.Ou (by decide) (mB hf.ops.Ou hf.uS rfl _) (fun a aD=> ?_)
  refine aD.step (v:= .int .i64 ((n:Nat):Int)) rfl hf.ops.Ov (by decide) (cS hf.ops.Ov _) (fun a aD=> ?_)
  refine wp_seq ?_
  refine wp_seq (wp_region ?_)
  rw [show List.range (#[o 14,o 15,o 16]:Array Oper).size=[0,1,2] from rfl]
  refine aD.step (v:= .int .i64 ((i:Nat):Int)) rfl hf.ops.Ow (by decide) (aQ hf.ops.Ow _) (fun a aD=> ?_)
  refine aD.step (v:= .int .i64 ((n:Nat):Int)) rfl hf.ops.Ox (by decide) (aQ hf.ops.Ox _) (fun a aD=> ?_)
  refine aD.step (v:= .bool (decide (((i:Nat):Int)=((n:Nat):Int)))) rfl hf.ops.Oy (by decide) (oR hf.ops.Oy rfl rfl _) (fun a aD=> ?_)
  refine aD.cond (b:=false) (by show Value.bool (decide (((i:Nat):Int)=((n:Nat):Int)))=_;rw [decide_eq_false (by omega)]) ?_
  simp only [Bool.false_eq_true,if_false]
  refine wp_skip ?_
  refine wp_seq ?_
  refine wp_seq (wp_region ?_)
  rw [show List.range (#[o 21,o 22,o 23,o 24,o 25,o 26]:Array Oper).size=[0,1,2,3,4,5] from rfl]
  refine aD.step (v:= .int .i64 ((n:Nat):Int)) rfl hf.ops.Xo (by decide) (aQ hf.ops.Xo _) (fun a aD=> ?_)
  refine aD.step (v:= .int .i64 ((m:Nat):Int)) rfl hf.ops.Xp (by decide) (aQ hf.ops.Xp _) (fun a aD=> ?_)
  refine aD.step (v:= .int .i64 ((n+m:Nat):Int)) rfl hf.ops.Xq (by decide) (jT hf.ops.Xq rfl rfl (by omega) _) (fun a aD=> ?_)
  refine aD.step (v:= .slice (some ⟨g,0,none⟩) n c) rfl hf.ops.Xr (by decide) (aQ hf.ops.Xr _) (fun a aD=> ?_)
  refine aD.step (v:= .int .i64 ((c:Nat):Int)) rfl hf.ops.Xs (by decide) (Qj hf.ops.Xs hf.uS rfl _) (fun a aD=> ?_)
  refine aD.step (v:= .bool (decide (((c:Nat):Int)<(((n+m):Nat):Int)))) rfl hf.ops.Xt (by decide) (L9 hf.ops.Xt rfl rfl _) (fun a aD=> ?_)
  refine aD.cond (b:=true) (by show Value.bool (decide (((c:Nat):Int)<((n+m:Nat):Int)))=_;rw [decide_eq_true (by omega)]) ?_
  simp only [if_true]
  refine wp_seq (wp_region ?_)
  rw [show List.range (#[o 27,o 28,o 29,o 30,o 31,o 32,o 33,o 34,o 35,o 36]:Array Oper).size=[0,1,2,3,4,5,6,7,8,9] from rfl]
  refine aD.step (v:= .slice (some ⟨g,0,none⟩) n c) rfl hf.ops.h27 (by decide) (aQ hf.ops.h27 _) (fun a aD=> ?_)
  refine aD.step (v:= .int .i64 ((i:Nat):Int)) rfl hf.ops.h28 (by decide) (aQ hf.ops.h28 _) (fun a aD=> ?_)
  refine aD.step (v:= .slice (some ⟨g,0,none⟩) i c) rfl hf.ops.h29 (by decide) (AZ hf.ops.h29 hf.uS nU tz rfl rfl (by omega) _) (fun a aD=> ?_)
  refine aD.step (v:= .int .i64 ((n:Nat):Int)) rfl hf.ops.Ve (by decide) (aQ hf.ops.Ve _) (fun a aD=> ?_)
  refine aD.step (v:= .int .i64 ((m:Nat):Int)) rfl hf.ops.h31 (by decide) (aQ hf.ops.h31 _) (fun a aD=> ?_)
  refine aD.step (v:= .int .i64 ((n+m:Nat):Int)) rfl hf.ops.h32 (by decide) (jT hf.ops.h32 rfl rfl (by omega) _) (fun a aD=> ?_)
  refine aD.step (v:= .int .i64 ((i:Nat):Int)) rfl hf.ops.h33 (by decide) (aQ hf.ops.h33 _) (fun a aD=> ?_)
  refine aD.step (v:= .int .i64 (((n+m)-i:Nat):Int)) rfl hf.ops.h34 (by decide) (Vc hf.ops.h34 rfl rfl (by omega) (by omega) _) (fun a aD=> ?_)
  refine aD.step (v:= .slice (some ⟨g9,0,none⟩) (n+m) G) rfl hf.ops.h35 (by decide) (Fg hf.ops.h35 rfl rfl (hA _)) (fun a aD=> ?_)
  refine aD.step (v:= .slice (some ⟨g9,0,none⟩) (n+m) G) rfl hf.ops.h36 (by decide) (cS hf.ops.h36 _) (fun a aD=> ?_)
  refine wp_seq (wp_region ?_)
  rw [show List.range (#[o 37,o 38,o 39,o 40,o 41]:Array Oper).size=[0,1,2,3,4] from rfl]
  refine aD.step (v:= .slice (some ⟨g9,0,none⟩) (n+m) G) rfl hf.ops.h37 (by decide) (aQ hf.ops.h37 _) (fun a aD=> ?_)
  refine aD.step (v:= .int .i64 ((i:Nat):Int)) rfl hf.ops.h38 (by decide) (aQ hf.ops.h38 _) (fun a aD=> ?_)
  refine aD.step (v:= .slice (some ⟨g9,i *size,none⟩) (n+m-i) (G-i)) rfl hf.ops.h39 (by decide) (nd hf.ops.h39 hf.uS nU tz rfl rfl (by omega) (by omega) _) (fun a aD=> ?_)
  refine aD.step (v:= .slice (some ⟨g2,0,none⟩) m c2) rfl hf.ops.h40 (by decide) (aQ hf.ops.h40 _) (fun a aD=> ?_)
  refine aD.step (v:=v1) rfl hf.ops.h41 (by decide) (A0 hf.ops.h41 rfl rfl (hB _)) (fun a aD=> ?_)
  refine wp_seq (Qn hf.mix hf.ops.d11 (k:=8) rfl fun fY=> ?_)
  refine aD.draw (v:= .slice (some ⟨g9,0,none⟩) (n+m) G) rfl hf.ops.h42 (by decide) fY (fun w=>aQ hf.ops.h42 _) (fun a aD fY=> ?_)
  refine aD.draw (v:= .int .i64 ((i:Nat):Int)) rfl hf.ops.h43 (by decide) fY (fun w=>aQ hf.ops.h43 _) (fun a aD fY=> ?_)
  refine aD.draw (v:= .int .i64 ((m:Nat):Int)) rfl hf.ops.h44 (by decide) fY (fun w=>aQ hf.ops.h44 _) (fun a aD fY=> ?_)
  refine aD.draw (v:= .int .i64 ((i+m:Nat):Int)) rfl hf.ops.h45 (by decide) fY (fun w=>jT hf.ops.h45 rfl rfl (by omega) _) (fun a aD fY=> ?_)
  refine aD.draw (v:= .slice (some ⟨g9,(i+m) *size,none⟩) (n+m-(i+m)) (G-(i+m))) rfl hf.ops.h46 (by decide) fY (fun w=>nd hf.ops.h46 hf.uS nU tz rfl rfl (by omega) (by omega) _) (fun a aD fY=> ?_)
  refine aD.draw (v:= .slice (some ⟨g,0,none⟩) n c) rfl hf.ops.h47 (by decide) fY (fun w=>aQ hf.ops.h47 _) (fun a aD fY=> ?_)
  refine aD.draw (v:= .int .i64 ((i:Nat):Int)) rfl hf.ops.h48 (by decide) fY (fun w=>aQ hf.ops.h48 _) (fun a aD fY=> ?_)
  refine aD.draw (v:= .slice (some ⟨g,i *size,none⟩) (n-i) (c-i)) rfl hf.ops.h49 (by decide) fY (fun w=>nd hf.ops.h49 hf.uS nU tz rfl rfl (by omega) (by omega) _) (fun a aD fY=> ?_)
  refine aD.last (v:=v2) rfl hf.ops.h50 (by decide) fY (A0 hf.ops.h50 rfl rfl (hC _)) (fun a aD=> ?_)
  refine wp_seq (wp_region ?_)
  rw [show List.range (#[o 51,o 52]:Array Oper).size=[0,1] from rfl]
  refine aD.step (v:= .slice (some ⟨g9,0,none⟩) (n+m) G) rfl hf.ops.h51 (by decide) (aQ hf.ops.h51 _) (fun a aD=> ?_)
  refine aD.step (v:= .slice (some ⟨g9,0,none⟩) (n+m) G) rfl hf.ops.h52 (by decide) (cS hf.ops.h52 _) (fun a aD=> ?_)
  refine wp_ret ?_
  show bodyPost P fn (fun x wq=>x= .returned (.slice (some ⟨g9,0,none⟩) (n+m) G)∧wq=w3) .ret a w3
  refine Kg hf.res aD (v:= .slice (some ⟨g9,0,none⟩) (n+m) G) rfl ?_
  exact ⟨rfl,rfl⟩
 exact key _ (tm3 _ _ _ 92)
theorem Vg (hf:Fh P f t ti tb el fo fn r o tail) (nU:P.info? el=some ie) (tz:ie.size=size) (hm:0<m) (hn:n≤c) (hc:c<2^63) (hnm:n+m<2^63) (hi:i<n) (sG:n+m≤c) {v1 v2:Value} {w1 w2:World} (hO:(callFunc fo #[.slice (some ⟨g2,0,none⟩) m c2,.slice (some ⟨g,(i+m) *size,none⟩) (n+m-(i+m)) (c-(i+m))]).run P w= .ok (.value (.bool false)) w)
 (hB: ∀ty,(Builtin.copy_ #[t,t] ty #[.slice (some ⟨g,(i+m) *size,none⟩) (n+m-(i+m)) (c-(i+m)),.slice (some ⟨g,i *size,none⟩) (n+m-i) (c-i)]).run P {w with drawn:=w.drawn+1}= .ok v1 w1)
 (hC: ∀ty,(Builtin.copy_ #[t,t] ty #[.slice (some ⟨g,i *size,none⟩) (n+m-i) (c-i),.slice (some ⟨g2,0,none⟩) m c2]).run P w1= .ok v2 w2)
 :Calls P f #[.slice (some ⟨g,0,none⟩) n c,.int .i64 ((i:Nat):Int),.slice (some ⟨g2,0,none⟩) m c2] w fun x w'=>x= .returned (.slice (some ⟨g,0,none⟩) (n+m) c)∧w'=w2:=by
 refine calls_of_wp hf.pos hf.body ?_
 rw [hf.tmps]
 have key: ∀a:Act,Tm a 95 (xr (xr (xr (fun _=>undef) 0 (.slice (some ⟨g,0,none⟩) n c)) 1 (.int .i64 ((i:Nat):Int))) 2 (.slice (some ⟨g2,0,none⟩) m c2))→(vr r o tail).wp P (bodyPost P fn fun x w'=>x= .returned (.slice (some ⟨g,0,none⟩) (n+m) c)∧w'=w2) a w:=by
  intro a aD
  unfold vr
  refine wp_seq (wp_region ?_)
  rw [show List.range (#[o 0]:Array Oper).size=[0] from rfl]
  refine aD.step (v:= .slice none 0 0) rfl hf.ops.h0 (by decide) (cS hf.ops.h0 _) (fun a aD=> ?_)
  refine wp_seq (wp_region ?_)
  rw [show List.range (#[o 1,o 2,o 3]:Array Oper).size=[0,1,2] from rfl]
  refine aD.step (v:= .slice (some ⟨g,0,none⟩) n c) rfl hf.ops.h1 (by decide) (aQ hf.ops.h1 _) (fun a aD=> ?_)
  refine aD.step (v:= .int .i64 ((i:Nat):Int)) rfl hf.ops.h2 (by decide) (aQ hf.ops.h2 _) (fun a aD=> ?_)
  refine aD.step (v:= .slice (if c=i then (some ⟨g,0,none⟩) else ((some ⟨g,0,none⟩):Option Addr).map (·.add (i *size))) (n-i) (c-i)) rfl hf.ops.h3 (by decide) (xu hf.ops.h3 hf.uS nU tz rfl rfl (by omega) _) (fun a aD=> ?_)
  refine wp_seq (wp_region ?_)
  rw [show List.range (#[o 4,o 5,o 6]:Array Oper).size=[0,1,2] from rfl]
  refine aD.step (v:= .slice (some ⟨g2,0,none⟩) m c2) rfl hf.ops.h4 (by decide) (aQ hf.ops.h4 _) (fun a aD=> ?_)
  refine aD.step (v:= .int .i64 ((m:Nat):Int)) rfl hf.ops.h5 (by decide) (mB hf.ops.h5 hf.uS rfl _) (fun a aD=> ?_)
  refine aD.step (v:= .int .i64 ((m:Nat):Int)) rfl hf.ops.h6 (by decide) (cS hf.ops.h6 _) (fun a aD=> ?_)
  refine wp_seq ?_
  refine wp_seq (wp_region ?_)
  rw [show List.range (#[o 7,o 8]:Array Oper).size=[0,1] from rfl]
  refine aD.step (v:= .int .i64 ((m:Nat):Int)) rfl hf.ops.h7 (by decide) (aQ hf.ops.h7 _) (fun a aD=> ?_)
  refine aD.step (v:= .bool (decide (((m:Nat):Int)=((0:Nat):Int)))) rfl hf.ops.h8 (by decide) (oR hf.ops.h8 rfl rfl _) (fun a aD=> ?_)
  refine aD.cond (b:=false) (by show Value.bool (decide (((m:Nat):Int)=((0:Nat):Int)))=_;rw [decide_eq_false (by omega)]) ?_
  simp only [Bool.false_eq_true,if_false]
  refine wp_skip ?_
  refine wp_seq (wp_region ?_)
  rw [show List.range (#[o 11,o 12,o 13]:Array Oper).size=[0,1,2] from rfl]
  refine aD.step (v:= .slice (some ⟨g,0,none⟩) n c) rfl hf.ops.Ot (by decide) (aQ hf.ops.Ot _) (fun a aD=> ?_)
  refine aD.step (v:= .int .i64 ((n:Nat):Int)) rfl hf.ops.Ou (by decide) (mB hf.ops.Ou hf.uS rfl _) (fun a aD=> ?_)
  refine aD.step (v:= .int .i64 ((n:Nat):Int)) rfl hf.ops.Ov (by decide) (cS hf.ops.Ov _) (fun a aD=> ?_)
  refine wp_seq ?_
  refine wp_seq (wp_region ?_)
  rw [show List.range (#[o 14,o 15,o 16]:Array Oper).size=[0,1,2] from rfl]
  refine aD.step (v:= .int .i64 ((i:Nat):Int)) rfl hf.ops.Ow (by decide) (aQ hf.ops.Ow _) (fun a aD=> ?_)
  refine aD.step (v:= .int .i64 ((n:Nat):Int)) rfl hf.ops.Ox (by decide) (aQ hf.ops.Ox _) (fun a aD=> ?_)
  refine aD.step (v:= .bool (decide (((i:Nat):Int)=((n:Nat):Int)))) rfl hf.ops.Oy (by decide) (oR hf.ops.Oy rfl rfl _) (fun a aD=> ?_)
  refine aD.cond (b:=false) (by show Value.bool (decide (((i:Nat):Int)=((n:Nat):Int)))=_;rw [decide_eq_false (by omega)]) ?_
  simp only [Bool.false_eq_true,if_false]
  refine wp_skip ?_
  refine wp_seq ?_
  refine wp_seq (wp_region ?_)
  rw [show List.range (#[o 21,o 22,o 23,o 24,o 25,o 26]:Array Oper).size=[0,1,2,3,4,5] from rfl]
  refine aD.step (v:= .int .i64 ((n:Nat):Int)) rfl hf.ops.Xo (by decide) (aQ hf.ops.Xo _) (fun a aD=> ?_)
  refine aD.step (v:= .int .i64 ((m:Nat):Int)) rfl hf.ops.Xp (by decide) (aQ hf.ops.Xp _) (fun a aD=> ?_)
  refine aD.step (v:= .int .i64 ((n+m:Nat):Int)) rfl hf.ops.Xq (by decide) (jT hf.ops.Xq rfl rfl (by omega) _) (fun a aD=> ?_)
  refine aD.step (v:= .slice (some ⟨g,0,none⟩) n c) rfl hf.ops.Xr (by decide) (aQ hf.ops.Xr _) (fun a aD=> ?_)
  refine aD.step (v:= .int .i64 ((c:Nat):Int)) rfl hf.ops.Xs (by decide) (Qj hf.ops.Xs hf.uS rfl _) (fun a aD=> ?_)
  refine aD.step (v:= .bool (decide (((c:Nat):Int)<(((n+m):Nat):Int)))) rfl hf.ops.Xt (by decide) (L9 hf.ops.Xt rfl rfl _) (fun a aD=> ?_)
  refine aD.cond (b:=false) (by show Value.bool (decide (((c:Nat):Int)<((n+m:Nat):Int)))=_;rw [decide_eq_false (by omega)]) ?_
  simp only [Bool.false_eq_true,if_false]
  refine wp_skip ?_
  refine wp_seq (wp_region ?_)
  rw [show List.range (#[o 53,o 54,o 55,o 56,o 57,o 58]:Array Oper).size=[0,1,2,3,4,5] from rfl]
  refine aD.step (v:= .slice (some ⟨g,0,none⟩) n c) rfl hf.ops.h53 (by decide) (aQ hf.ops.h53 _) (fun a aD=> ?_)
  refine aD.step (v:= .int .i64 ((n:Nat):Int)) rfl hf.ops.h54 (by decide) (aQ hf.ops.h54 _) (fun a aD=> ?_)
  refine aD.step (v:= .int .i64 ((m:Nat):Int)) rfl hf.ops.h55 (by decide) (aQ hf.ops.h55 _) (fun a aD=> ?_)
  refine aD.step (v:= .int .i64 ((n+m:Nat):Int)) rfl hf.ops.h56 (by decide) (jT hf.ops.h56 rfl rfl (by omega) _) (fun a aD=> ?_)
  refine aD.step (v:= .slice (some ⟨g,0,none⟩) (n+m) c) rfl hf.ops.h57 (by decide) (AZ hf.ops.h57 hf.uS nU tz rfl rfl (by omega) _) (fun a aD=> ?_)
  refine aD.step (v:= .slice (some ⟨g,0,none⟩) (n+m) c) rfl hf.ops.h58 (by decide) (cS hf.ops.h58 _) (fun a aD=> ?_)
  refine wp_seq ?_
  refine wp_seq (wp_region ?_)
  rw [show List.range (#[o 59,o 60,o 61,o 62,o 63,o 64,o 65,o 66]:Array Oper).size=[0,1,2,3,4,5,6,7] from rfl]
  refine aD.step (v:= .slice (some ⟨g2,0,none⟩) m c2) rfl hf.ops.h59 (by decide) (aQ hf.ops.h59 _) (fun a aD=> ?_)
  refine aD.step (v:= .slice (some ⟨g,0,none⟩) (n+m) c) rfl hf.ops.h60 (by decide) (aQ hf.ops.h60 _) (fun a aD=> ?_)
  refine aD.step (v:= .int .i64 ((i:Nat):Int)) rfl hf.ops.h61 (by decide) (aQ hf.ops.h61 _) (fun a aD=> ?_)
  refine aD.step (v:= .int .i64 ((m:Nat):Int)) rfl hf.ops.h62 (by decide) (aQ hf.ops.h62 _) (fun a aD=> ?_)
  refine aD.step (v:= .int .i64 ((i+m:Nat):Int)) rfl hf.ops.h63 (by decide) (jT hf.ops.h63 rfl rfl (by omega) _) (fun a aD=> ?_)
  refine aD.step (v:= .slice (some ⟨g,(i+m) *size,none⟩) (n+m-(i+m)) (c-(i+m))) rfl hf.ops.h64 (by decide) (nd hf.ops.h64 hf.uS nU tz rfl rfl (by omega) (by omega) _) (fun a aD=> ?_)
  refine aD.step (v:= .bool false) rfl hf.ops.h65 (by decide) (Yw hf.ops.h65 rfl rfl rfl hO) (fun a aD=> ?_)
  refine aD.step (v:= .bool (!false)) rfl hf.ops.h66 (by decide) (Qk hf.ops.h66 rfl _) (fun a aD=> ?_)
  refine aD.cond (b:=true) rfl ?_
  simp only [if_true]
  refine wp_seq (Qn hf.mix hf.ops.d15 (k:=8) rfl fun fY=> ?_)
  refine aD.draw (v:= .slice (some ⟨g,0,none⟩) (n+m) c) rfl hf.ops.h67 (by decide) fY (fun w=>aQ hf.ops.h67 _) (fun a aD fY=> ?_)
  refine aD.draw (v:= .int .i64 ((i:Nat):Int)) rfl hf.ops.h68 (by decide) fY (fun w=>aQ hf.ops.h68 _) (fun a aD fY=> ?_)
  refine aD.draw (v:= .int .i64 ((m:Nat):Int)) rfl hf.ops.h69 (by decide) fY (fun w=>aQ hf.ops.h69 _) (fun a aD fY=> ?_)
  refine aD.draw (v:= .int .i64 ((i+m:Nat):Int)) rfl hf.ops.h70 (by decide) fY (fun w=>jT hf.ops.h70 rfl rfl (by omega) _) (fun a aD fY=> ?_)
  refine aD.draw (v:= .slice (some ⟨g,(i+m) *size,none⟩) (n+m-(i+m)) (c-(i+m))) rfl hf.ops.h71 (by decide) fY (fun w=>nd hf.ops.h71 hf.uS nU tz rfl rfl (by omega) (by omega) _) (fun a aD fY=> ?_)
  refine aD.draw (v:= .slice (some ⟨g,0,none⟩) (n+m) c) rfl hf.ops.h72 (by decide) fY (fun w=>aQ hf.ops.h72 _) (fun a aD fY=> ?_)
  refine aD.draw (v:= .int .i64 ((i:Nat):Int)) rfl hf.ops.h73 (by decide) fY (fun w=>aQ hf.ops.h73 _) (fun a aD fY=> ?_)
  refine aD.draw (v:= .slice (some ⟨g,i *size,none⟩) (n+m-i) (c-i)) rfl hf.ops.h74 (by decide) fY (fun w=>nd hf.ops.h74 hf.uS nU tz rfl rfl (by omega) (by omega) _) (fun a aD fY=> ?_)
  refine aD.last (v:=v1) rfl hf.ops.h75 (by decide) fY (A0 hf.ops.h75 rfl rfl (hB _)) (fun a aD=> ?_)
  refine wp_seq (wp_region ?_)
  rw [show List.range (#[o 76,o 77,o 78,o 79,o 80]:Array Oper).size=[0,1,2,3,4] from rfl]
  refine aD.step (v:= .slice (some ⟨g,0,none⟩) (n+m) c) rfl hf.ops.h76 (by decide) (aQ hf.ops.h76 _) (fun a aD=> ?_)
  refine aD.step (v:= .int .i64 ((i:Nat):Int)) rfl hf.ops.h77 (by decide) (aQ hf.ops.h77 _) (fun a aD=> ?_)
  refine aD.step (v:= .slice (some ⟨g,i *size,none⟩) (n+m-i) (c-i)) rfl hf.ops.h78 (by decide) (nd hf.ops.h78 hf.uS nU tz rfl rfl (by omega) (by omega) _) (fun a aD=> ?_)
  refine aD.step (v:= .slice (some ⟨g2,0,none⟩) m c2) rfl hf.ops.h79 (by decide) (aQ hf.ops.h79 _) (fun a aD=> ?_)
  refine aD.step (v:=v2) rfl hf.ops.h80 (by decide) (A0 hf.ops.h80 rfl rfl (hC _)) (fun a aD=> ?_)
  refine wp_seq (wp_region ?_)
  rw [show List.range (#[o 81,o 82]:Array Oper).size=[0,1] from rfl]
  refine aD.step (v:= .slice (some ⟨g,0,none⟩) (n+m) c) rfl hf.ops.h81 (by decide) (aQ hf.ops.h81 _) (fun a aD=> ?_)
  refine aD.step (v:= .slice (some ⟨g,0,none⟩) (n+m) c) rfl hf.ops.h82 (by decide) (cS hf.ops.h82 _) (fun a aD=> ?_)
  refine wp_ret ?_
  show bodyPost P fn (fun x wq=>x= .returned (.slice (some ⟨g,0,none⟩) (n+m) c)∧wq=w2) .ret a w2
  refine Kg hf.res aD (v:= .slice (some ⟨g,0,none⟩) (n+m) c) rfl ?_
  exact ⟨rfl,rfl⟩
 exact key _ (tm3 _ _ _ 92)
end
end Dn
/-
  What slices.Insert does to a slice of its own. Conditions: none.
-/
set_option linter.unusedSimpArgs false
set_option linter.unusedVariables false
namespace Dn
open Go
section
variable {key:Nat→Nat} {φ:Ph} {size:Nat}
theorem a8.take {xs:List MV}: ∀{cs:List Value} (i:Nat),a8 key φ size cs xs→a8 key φ size (cs.take (i *size)) (xs.take i):=by
 induction xs with
 |nil=>intro cs i h;cases h;simp [a8]
 |cons x xs ih=>
  intro cs i h
  obtain ⟨v,q,rfl,h1,h2,h3⟩:=h
  cases i with
  |zero=>simp [a8]
  |succ i=>
   refine ⟨v,q.take (i *size),?_,h1,h2,ih i h3⟩
   rw [Nat.add_mul,Nat.one_mul,Nat.add_comm,List.take_append,h1]
   congr 1
   ·exact List.take_of_length_le (by omega)
   ·congr 1;omega
theorem a8.drop {xs:List MV}: ∀{cs:List Value} (i:Nat),a8 key φ size cs xs→a8 key φ size (cs.drop (i *size)) (xs.drop i):=by
 induction xs with
 |nil=>intro cs i h;cases h;simp [a8]
 |cons x xs ih=>
  intro cs i h
  cases i with
  |zero=>simpa using h
  |succ i=>
   obtain ⟨v,q,rfl,h1,h2,h3⟩:=h
   have:=ih i h3
   rw [Nat.add_mul,Nat.one_mul,Nat.add_comm,List.drop_append,h1,List.drop_of_length_le (by omega),List.nil_append,Nat.add_sub_cancel_left]
   simpa using this
end
section
variable {P:Program} {c:Ctx} {f:Nat} {W W':World} {φ:Ph} {Z:Nat→Prop} {v0 v':Value}
theorem D5 {ty:Nat} {E:TI} {n:Nat} {cells:List Value} {rs:List MV} (hz: ∀b,W.heap.size≤b→Z b) (jo:zZ φ W) (hE:c.ti ty=some E) (n9:E.cO=[]) (Cd:c.r7 (c.key f)=ty)
 (hold: ∀b,b<W.heap.size→some b≠v0.ownBlock→W'.heap[b]? =W.heap[b]?) (q9:W.heap.size≤W'.heap.size) (zC:Rest W W')
 (P0: ∀b,v0.ownBlock=some b→Z b∧ ∀off,φ b off=none) (dQ:W'.ownsRow 0 ty E.size v' n cells) (hn:rs.length=n) (iP:a8 c.key φ E.size cells rs)
 (N1: ∀b,v'.ownBlock=some b→v0.ownBlock=some b∨W.heap.size≤b): ∃φ',Trans Z φ W φ' W'∧zZ φ' W'∧mM c Z φ' W' (c.key f) v' (.fresh rs):=by
 refine ⟨φ,⟨.refl _,?_,fun _ _ _=>rfl,q9,zC⟩,?_,?_⟩
 ·intro b hb dn
  exact hold b dn (fun he=>hb (P0 b he.symm).1)
 ·intro b off u hbo
  have h1:=jo b off u hbo
  have dn:=World.block_lt_of_cell? W _ h1
  rw [World.cell?_of_block (hold b dn (fun he=>by rw [(P0 b he.symm).2 off] at hbo;cases hbo))]
  exact h1
 ·show dg c (bL.plain Z) (oe c.key φ) W' v' ⟨c.r7 (c.key f),false,rs⟩
  rw [Cd]
  refine ⟨E,cells,hE,n9,by rw [hn];exact dQ,iP,fun bc hb=> ?_⟩
  rcases N1 bc hb with h|h
  ·exact ⟨(P0 bc h).1,fun off u hu=>(by have hu:φ bc off=some u:=hu;rw [(P0 bc h).2 off] at hu;cases hu),fun hc=>hc.elim⟩
  ·refine ⟨hz bc h,fun off u hu=> ?_,fun hc=>hc.elim⟩
   have:=World.block_lt_of_cell? W _ (jo _ _ _ hu)
   exact absurd this (by show¬bc<W.heap.size;omega)
theorem YA {A dm:List Value} {cells news:List Value} {p q r:Nat} (hA:A.length=dm.length) (hp:p+news.length=q) (hc:cells.length=r) (EB:p≤r) (xh:r+news.length≤dm.length)
 (h1:A.take p=cells.take p) (h2:(A.drop q).take (r-p)=cells.drop p):(A.take p++news++A.drop q).take (r+news.length)=cells.take p++news++cells.drop p:=by
 have hl:(A.take p).length=p:=by rw [List.length_take];omega
 rw [List.take_append,List.length_append,hl,hp,List.take_of_length_le (by rw [List.length_append,hl];omega),h1]
 congr 1
 rw [show r+news.length-q=r-p by omega]
 exact h2
theorem Ce {t ti tb el fo:Nat} {fn:Func} {r:Nat→Nat} {o:Nat→Oper} {tail:Code} {I E:TI} {xs ys:List MV} {i:Nat} (hf:Fh P f t ti tb el fo fn r o tail) (hT:kK P c.ti) (hI:c.tv t=some I) (hL:I.zp=true) (hE:c.tv I.elem=some E) (vf:1≤E.bytes)
 (Xd:el=I.elem) (r8:P.underlying ti=some (.int .i64)) (Cd:c.r7 (c.key f)=I.elem) (hg:c.eB (c.key f)=true)
 (hov: ∀args w,(callFunc fo args).run P w=((Extern.SlicesOverlaps.overlaps #[t,t] #[tb] args).run P w).andThen fun v w'=> .ok (.value v) w')
 (hi:i≤xs.length) (hys:ys≠[]) (nl:(xs.length+ys.length) *E.bytes≤2^46):kM P c f [.fresh xs,.i .i64 i,.fresh ys] (.fresh (xs.take i++ys++xs.drop i)):=by
 subst Xd
 obtain ⟨hIt,TT⟩:=bO hI
 obtain ⟨nk,n9⟩:=bO hE
 obtain ⟨hu,E2,wY,_,eD⟩:=TI.mK (hT t I hIt) hL
 rw [nk] at wY
 cases wY
 obtain ⟨ie,z,nU,tz,Rc,YB,K4⟩:=od (hT _ E nk) n9
 intro φ W Z vs hz fq jo
 simp only [eX,hg,if_true] at fq
 obtain ⟨v0,v1,v2,xs',m1,ys',rfl,LD,F0,A1,F2,db⟩:=fq.resolve_right (by
  rintro (⟨_,_,_,_,_,m2,_,h1,h2,_⟩|⟨pos,_,_,_,_,_,_,h1,_⟩)
  ·simp only [List.cons.injEq,and_true] at h1
   rw [←h1.2.2] at h2;simp [MV.one] at h2
  ·rcases pos with _|_|_|pos<;>simp at h1)
 simp only [List.cons.injEq,MV.fresh.injEq,and_true] at LD
 obtain ⟨rfl,rfl,rfl⟩:=LD
 have Q3:v1= .int .i64 (i:Int):=by
  obtain ⟨_,h⟩:=A1
  generalize yZ:[v1]=l at h
  cases h;simpa using yZ
 subst Q3
 rw [Cd] at F0 F2
 obtain ⟨I0,cells,YC,_,ug,sO,IB⟩:=F0
 have YC:c.ti I.elem=some I0:=YC
 rw [nk] at YC
 cases YC
 obtain ⟨I2,news,PL,_,H6,AE,alA⟩:=F2
 have PL:c.ti I.elem=some I2:=PL
 rw [nk] at PL
 cases PL
 have ug:W.ownsRow 0 I.elem E.size v0 xs.length cells:=ug
 have H6:W.ownsRow 0 I.elem E.size v2 ys.length news:=H6
 have sO:a8 c.key φ E.size cells xs:=sO
 have AE:a8 c.key φ E.size news ys:=AE
 have P0: ∀b,v0.ownBlock=some b→Z b∧ ∀off,φ b off=none:=by
  intro b hb
  refine ⟨(IB b hb).1,fun off=> ?_⟩
  cases h:φ b off with
  |none=>rfl
  |some u=>have:=((IB b hb).2.1 off u h).1;cases this
 have hm:0<ys.length:=List.length_pos_iff.2 hys
 have DY:news.length=ys.length *E.size:=AE.length
 have oc:cells.length=xs.length *E.size:=sO.length
 have hlen:xs.length+ys.length≤2^46:=Nat.le_trans (Nat.le_mul_of_pos_right _ vf) nl
 obtain ⟨g2,c2,tV,rfl,RJ,ank,hc2,Lp,afw⟩: ∃g2 c2 tV,v2= .slice (some ⟨g2,0,none⟩) ys.length c2∧W.heap[g2]? =some (.cells tV I.elem (0,0))∧ys.length≤c2∧c2≤maxLen∧tV.size=c2 *E.size∧tV.toList.take (ys.length *E.size)=news:=by
  rcases H6.2 with ⟨_,h0⟩|⟨g2,c2,tV,h1,_,h3,h4,h5,h6,h7⟩
  ·omega
  ·exact ⟨g2,c2,tV,h1,h3,h4,h5,h6,h7⟩
 have ajn:=bB RJ
 have Vh: ∀{w:World},(w.heap[g2]? =W.heap[g2]?)→ ∀(j:Nat) (u:Value),news[j]? =some u→w.cell? ((⟨g2,0,none⟩:Addr).add j)=some u:=by
  intro w hw j u hj
  have:=H6.cells (g:=g2) rfl j u hj
  rw [Addr.add_mid] at this⊢
  rw [World.cell?_of_block hw];exact this
 have bq: ∀g,v0.ownBlock=some g→ ∀{w:World},(w.heap[g]? =W.heap[g]?)→ ∀(j:Nat) (u:Value),cells[j]? =some u→w.cell? ((⟨g,0,none⟩:Addr).add j)=some u:=by
  intro g hg w hw j u hj
  have:=ug.cells (g:=g) hg j u hj
  rw [Addr.add_mid] at this⊢
  rw [World.cell?_of_block hw];exact this
 have bS:(callFunc f [v0,.int .i64 (i:Int),.slice (some ⟨g2,0,none⟩) ys.length c2].toArray).run P W= .ok (.enter f #[v0,.int .i64 (i:Int),.slice (some ⟨g2,0,none⟩) ys.length c2]) W:=by
  have Et: ¬fn.name= "runtime.NumGoroutine" :=by simpa using hf.name
  simp [callFunc,hf.pos,Et,hf.body]
 unfold fP
 rw [bS]
 have hrl:(xs.take i++ys++xs.drop i).length=xs.length+ys.length:=by simp;omega
 have Fi:a8 c.key φ E.size (cells.take (i *E.size)++news++cells.drop (i *E.size)) (xs.take i++ys++xs.drop i):=((sO.take i).append AE).append (sO.drop i)
 by_cases sa:i=xs.length
 ·
  have tX:Src (oe c.key φ) W E.size (.slice (some ⟨g2,0,none⟩) ys.length c2) ys news:=⟨AE,_,_,rfl,by simp,fun x hx j u hj=>by cases hx;exact Vh rfl j u hj⟩
  have xm:cells.take (i *E.size)++news++cells.drop (i *E.size)=cells++news:=by
   rw [sa,←oc,List.take_length,List.drop_length,List.append_nil]
  rw [xm] at Fi
  have fin: ∀v' W',aee W W' I.elem E.size v0 v' xs.length ys.length cells news→ ∃φ',Trans Z φ W φ' W'∧zZ φ' W'∧mM c Z φ' W' (c.key f) v' (.fresh (xs.take i++ys++xs.drop i)):=by
   intro v' W' tY
   refine D5 (v0:=v0) hz jo nk n9 Cd tY.BK tY.size tY.rest P0 tY.own hrl Fi ?_
   intro b hb
   rcases tY.place with h|h
   ·left;rw [←h];exact hb
   ·right;rw [h] at hb;cases hb;exact Nat.le_refl _
  obtain ⟨v',W',hr,tY⟩:=zY (P:=P) (c:=c) (ty:=0) (e:=oe c.key φ) hu nk n9 eD hT vf ug tX nl
  have XI: ∀ty,(Builtin.append_ #[t,t] ty #[v0,.slice (some ⟨g2,0,none⟩) ys.length c2]).run P W= .ok v' W':=fun ty=>hr
  have ajo: ∃ad c0,v0= .slice ad xs.length c0∧xs.length≤c0∧c0≤maxLen:=by
   rcases ug.2 with ⟨h1,h0⟩|⟨g,c0,dm,h1,_,h3,h4,h5,_⟩
   ·exact ⟨none,0,by rw [h1,h0],by omega,by omega⟩
   ·exact ⟨_,c0,h1,h4,h5⟩
  obtain ⟨ad,c0,rfl,Ia,DW⟩:=ajo
  refine (Yz hf nU tz hm Ia (by unfold maxLen at DW;omega) (by omega) sa XI).mono ?_
  rintro x yg ⟨rfl,rfl⟩
  exact ⟨_,rfl,fin _ _ tY⟩
 ·have sa:i<xs.length:=by omega
  obtain ⟨g,c0,dm,rfl,hgc,Ia,DW,r9,NX⟩: ∃g c0 dm,v0= .slice (some ⟨g,0,none⟩) xs.length c0∧W.heap[g]? =some (.cells dm I.elem (0,0))∧xs.length≤c0∧c0≤maxLen∧dm.size=c0 *E.size∧dm.toList.take (xs.length *E.size)=cells:=by
   rcases ug.2 with ⟨_,h0⟩|⟨g,c0,dm,h1,_,h3,h4,h5,h6,h7⟩
   ·omega
   ·exact ⟨g,c0,dm,h1,h3,h4,h5,h6,h7⟩
  have Xh:=bB hgc
  have hgg:g≠g2:=fun h=>db g rfl (by rw [h];rfl)
  have tP:i *E.size≤xs.length *E.size:=Nat.mul_le_mul_right _ hi
  have him:(i+ys.length) *E.size=i *E.size+news.length:=by rw [Nat.add_mul,DY]
  have hnm:(xs.length+ys.length) *E.size=xs.length *E.size+news.length:=by rw [Nat.add_mul,DY]
  have J7:(cells.drop (i *E.size)).length=(xs.length-i) *E.size:=by rw [List.length_drop,oc,Nat.sub_mul]
  have anl:(xs.length-i) *E.size=xs.length *E.size-i *E.size:=Nat.sub_mul _ _ _
  have aaT: ∀{w:World},(w.heap[g]? =W.heap[g]?)→ ∀(j:Nat) (u:Value),(cells.drop (i *E.size))[j]? =some u→w.cell? ((⟨g,i *E.size,none⟩:Addr).add j)=some u:=by
   intro w hw j u hj
   rw [List.getElem?_drop] at hj
   have:=bq g rfl hw _ u hj
   rw [Addr.add_mid] at this⊢
   rwa [Nat.zero_add] at this
  have ho1: ∀u∈cells.drop (i *E.size),u.oneCell'=true:=fun u hu=>sO.xj u (List.mem_of_mem_drop hu)
  have afy:Rest W {W with drawn:=W.drawn+1}:=⟨rfl,rfl,rfl,fun _=>rfl⟩
  by_cases sG:c0<xs.length+ys.length
  ·have hk:i+(xs.length+ys.length-i)=xs.length+ys.length:=by omega
   obtain ⟨G,hG⟩: ∃G,G=grownCap W (xs.length+ys.length) c0 I.elem:=⟨_,rfl⟩
   have hGn:xs.length+ys.length≤G:=by rw [hG];exact grownCap_ge W _ _ _
   have hGm:G≤maxLen:=by rw [hG];exact grownCap_le_maxLen W _ _ _ (by unfold maxLen;omega)
   obtain ⟨Kh,acq⟩: ∃Kh:Array Value,Kh=(cells.take (i *E.size)).toArray++Builtin.zeroCells z.cells (xs.length+ys.length-i)++Builtin.zeroCells z.cells (G-(xs.length+ys.length)):=⟨_,rfl⟩
   have hRl:Kh.size=G *E.size:=by
    rw [acq]
    simp only [Array.size_append,List.size_toArray,List.length_take,Builtin.zeroCells,Array.size_map,Array.size_range,K4]
    rw [Nat.min_eq_left (by rw [oc];exact tP),←Nat.add_mul,←Nat.add_mul]
    congr 1;omega
   have hRt:Kh.toList.take (i *E.size)=cells.take (i *E.size):=by
    rw [acq]
    simp only [Array.toList_append,List.append_assoc]
    have hl:(cells.take (i *E.size)).length=i *E.size:=by rw [List.length_take,oc];exact Nat.min_eq_left tP
    rw [List.take_append_of_le_length (by omega),List.take_of_length_le (by omega)]
   have hA: ∀ty,(Builtin.append_ #[t,ti] ty #[.slice (some ⟨g,0,none⟩) i c0,.int .i64 ((xs.length+ys.length-i:Nat):Int)]).run P W= .ok (.slice (some ⟨W.heap.size,0,none⟩) (xs.length+ys.length) G) (W.drew.alloc (.cells Kh I.elem)):=fun ty=>by
    have hold:(Builtin.firstCells ie.size i (.slice (some ⟨g,0,none⟩) i c0)).run P W.drew= .ok (cells.take (i *E.size)).toArray W.drew:=by
     refine run_firstCells_some W.drew ie.size i ⟨g,0,none⟩ i c0 _ (by rw [tz,List.length_take,oc];exact Nat.min_eq_left tP) (fun j v hj=> ?_)
     rw [List.getElem?_take] at hj
     split at hj
     ·exact bq g rfl rfl j v hj
     ·cases hj
    have h:=Lib.run_append_grow_zeros W t ti ty I.elem ie z .i64 .i64 hu r8 nU YB (some ⟨g,0,none⟩) i c0 (cells.take (i *E.size)) hold (xs.length+ys.length-i) (by omega) (by rw [tz];exact eD) (by omega) (by omega)
     (by rw [Rc];exact Nat.le_trans (Nat.mul_le_mul_right _ (by omega:xs.length+ys.length-i≤xs.length+ys.length)) (Nat.le_trans nl (by omega))) (by rw [Rc,hk];exact growslice_fits sG (Nat.le_trans nl (by omega)))
    rw [hk,←hG,←acq] at h
    exact h
   have hg9:(W.drew.alloc (.cells Kh I.elem)).heap[W.heap.size]? =some (.cells Kh I.elem (0,0)):=km W.drew _
   have DA: ∀b,b<W.heap.size→(W.drew.alloc (.cells Kh I.elem)).heap[b]? =W.heap[b]? :=fun b hb=>Az W.drew _ b hb
   have hnG:(xs.length+ys.length) *E.size≤Kh.size:=by rw [hRl];exact Nat.mul_le_mul_right _ hGn
   obtain ⟨RA,hRA⟩: ∃RA:List Value,RA=Kh.toList.take (i *E.size)++news++Kh.toList.drop (i *E.size+news.length):=⟨_,rfl⟩
   have afz:RA.length=Kh.size:=by
    rw [hRA]
    simp only [List.length_append,List.length_take,List.length_drop,Array.length_toList]
    omega
   have hB: ∀ty,(Builtin.copy_ #[t,t] ty #[.slice (some ⟨W.heap.size,i *E.size,none⟩) (xs.length+ys.length-i) (G-i),.slice (some ⟨g2,0,none⟩) ys.length c2]).run P (W.drew.alloc (.cells Kh I.elem))=
    .ok (goInt ((ys.length:Nat):Int)) (World.setRow (W.drew.alloc (.cells Kh I.elem)) W.heap.size RA.toArray):=fun ty=>by
    rw [hRA]
    exact oS (size:=E.size) hu nU tz hg9 (by simp only [Nat.min_def];split<;>omega) DY (Vh (DA g2 ajn)) (by omega) AE.xj
   have acr:=setRow_heap (W.drew.alloc (.cells Kh I.elem)) W.heap.size Kh RA.toArray I.elem (0,0) hg9
   obtain ⟨W2,RS⟩: ∃W2,W2=World.setRow (W.drew.alloc (.cells Kh I.elem)) W.heap.size RA.toArray:=⟨_,rfl⟩
   have YD: ∀b,b<W.heap.size→W2.heap[b]? =W.heap[b]? :=fun b hb=>by rw [RS,setRow_other _ _ _ _ (by omega)];exact DA b hb
   have Oz:Rest W W2:=by
    rw [RS]
    exact (show Rest W W.drew from ⟨rfl,rfl,rfl,fun _=>rfl⟩).trans ((Rest.alloc W.drew Kh I.elem).trans (Rest.setRow _ _ _))
   have ano:W2.heap.size=W.heap.size+1:=by rw [RS,setRow_size];exact Array.size_push _
   rw [←RS] at hB acr
   have hC:=fun ty=>oS (P:=P) (dT:=t) (sT:=t) (ty:=ty) (size:=E.size) (Yx:=xs.length+ys.length-(i+ys.length)) (aci:=G-(i+ys.length)) (Yy:=xs.length-i) (acj:=c0-i) (k:=xs.length-i) (o:=(i+ys.length) *E.size) (a:=⟨g,i *E.size,none⟩) (w:={W2 with drawn:=W2.drawn+1}) hu nU tz acr (by simp only [Nat.min_def];split<;>omega) J7
    (aaT (YD g Xh)) (by simp only [List.size_toArray];rw [afz,him,J7];omega) ho1
   refine (Vf hf nU tz hm Ia (by unfold maxLen at DW;omega) (by omega) sa sG hGn hA hB hC).mono ?_
   rintro x yg ⟨rfl,rfl⟩
   refine ⟨_,rfl,?_⟩
   refine D5 (v0:= .slice (some ⟨g,0,none⟩) xs.length c0) (n:=xs.length+ys.length) (cells:=cells.take (i *E.size)++news++cells.drop (i *E.size)) hz jo nk n9 Cd ?_ ?_ ?_ P0 ?_ hrl Fi (fun b hb=> .inr (by cases hb;exact Nat.le_refl _))
   ·intro b hb db
    rw [setRow_other _ _ _ _ (by omega)]
    exact YD b hb
   ·rw [setRow_size];show W.heap.size≤W2.heap.size;omega
   ·exact Oz.trans ((show Rest W2 {W2 with drawn:=W2.drawn+1} from ⟨rfl,rfl,rfl,fun _=>rfl⟩).trans (Rest.setRow _ _ _))
   ·refine ⟨by rw [Fi.length,hrl],.inr ⟨W.heap.size,G,_,rfl,Nat.zero_le _,setRow_heap {W2 with drawn:=W2.drawn+1} W.heap.size RA.toArray _ I.elem (0,0) acr,hGn,hGm,?_,?_⟩⟩
    ·simp only [List.size_toArray,List.length_append,List.length_take,List.length_drop]
     rw [afz,←hRl]
     omega
    ·have ajs:RA.take ((i+ys.length) *E.size)=cells.take (i *E.size)++news:=by
      have hl:(Kh.toList.take (i *E.size)++news).length=(i+ys.length) *E.size:=by rw [List.length_append,List.length_take,Array.length_toList,him];omega
      rw [hRA,List.take_append_of_le_length (by omega),List.take_of_length_le (by omega),hRt]
     rw [ajs]
     have uR:(cells.take (i *E.size)++news++cells.drop (i *E.size)).length=(xs.length+ys.length) *E.size:=by rw [Fi.length,hrl]
     rw [←uR]
     exact List.take_left
  ·have sG:xs.length+ys.length≤c0:=by omega
   have hcz:dm.toList.length=dm.size:=Array.length_toList
   have xh:(xs.length+ys.length) *E.size≤dm.size:=by rw [r9];exact Nat.mul_le_mul_right _ sG
   have hO:(callFunc fo #[.slice (some ⟨g2,0,none⟩) ys.length c2,.slice (some ⟨g,(i+ys.length) *E.size,none⟩) (xs.length+ys.length-(i+ys.length)) (c0-(i+ys.length))]).run P W= .ok (.value (.bool false)) W:=by
    rw [hov,Lib.run_overlaps_apart W t tb I.elem hu E.size (fun w=>by simp [Go.sizeOf,typeInfo,nU,tz]) ⟨g2,0,none⟩ ⟨g,(i+ys.length) *E.size,none⟩ _ _ _ _ (Ne.symm hgg) I.elem I.elem tV.size dm.size (by simp [World.shape?,RJ]) (by simp [World.shape?,hgc])
     (by rw [r9];exact Nat.ne_of_gt (Nat.mul_pos (by omega) eD)) (by simp [World.frozen?,RJ]) (by simp [World.frozen?,RJ])]
    rfl
   let R1:List Value:=dm.toList.take ((i+ys.length) *E.size)++cells.drop (i *E.size)++dm.toList.drop ((i+ys.length) *E.size+(cells.drop (i *E.size)).length)
   have hR1:R1.length=dm.size:=by
    simp only [R1,List.length_append,List.length_take,List.length_drop,Array.length_toList]
    rw [J7] at *
    omega
   have hB: ∀ty,(Builtin.copy_ #[t,t] ty #[.slice (some ⟨g,(i+ys.length) *E.size,none⟩) (xs.length+ys.length-(i+ys.length)) (c0-(i+ys.length)),.slice (some ⟨g,i *E.size,none⟩) (xs.length+ys.length-i) (c0-i)]).run P {W with drawn:=W.drawn+1}=
    .ok (goInt ((xs.length-i:Nat):Int)) (World.setRow {W with drawn:=W.drawn+1} g R1.toArray):=fun ty=>
    oS (size:=E.size) hu nU tz (w:={W with drawn:=W.drawn+1}) hgc (by simp only [Nat.min_def];split<;>omega) J7 (aaT rfl) (by rw [him,J7];omega) ho1
   have aju:(World.setRow {W with drawn:=W.drawn+1} g R1.toArray).heap[g]? =some (.cells R1.toArray I.elem (0,0)):=setRow_heap {W with drawn:=W.drawn+1} g dm R1.toArray I.elem (0,0) hgc
   have YD: ∀b,b≠g→(World.setRow {W with drawn:=W.drawn+1} g R1.toArray).heap[b]? =W.heap[b]? :=fun b hb=>setRow_other {W with drawn:=W.drawn+1} g b R1.toArray hb
   have hC:=fun ty=>oS (P:=P) (dT:=t) (sT:=t) (ty:=ty) (size:=E.size) (Yx:=xs.length+ys.length-i) (aci:=c0-i) (Yy:=ys.length) (acj:=c2) (k:=ys.length) (o:=i *E.size) (a:=⟨g2,0,none⟩) hu nU tz aju (by simp only [Nat.min_def];split<;>omega) DY
    (Vh (YD g2 (Ne.symm hgg))) (by simp only [List.size_toArray];rw [hR1];omega) AE.xj
   refine (Vg hf nU tz hm Ia (by unfold maxLen at DW;omega) (by omega) sa sG hO hB hC).mono ?_
   rintro x yg ⟨rfl,rfl⟩
   refine ⟨_,rfl,?_⟩
   rw [setRow_setRow]
   have zC:Rest W (World.setRow {W with drawn:=W.drawn+1} g (R1.toArray.toList.take (i *E.size)++news++R1.toArray.toList.drop (i *E.size+news.length)).toArray):=afy.trans (Rest.setRow _ _ _)
   refine D5 (v0:= .slice (some ⟨g,0,none⟩) xs.length c0) (n:=xs.length+ys.length) (cells:=cells.take (i *E.size)++news++cells.drop (i *E.size)) hz jo nk n9 Cd ?_ (by simp) zC P0 ?_ hrl Fi (fun b hb=> .inl hb)
   ·intro b hb db
    refine setRow_other {W with drawn:=W.drawn+1} g b _ (fun h=>db ?_)
    rw [h];rfl
   ·refine ⟨by rw [Fi.length,hrl],.inr ⟨g,c0,_,rfl,Nat.zero_le _,setRow_heap {W with drawn:=W.drawn+1} g dm _ I.elem (0,0) hgc,sG,DW,?_,?_⟩⟩
    ·simp only [List.size_toArray,List.length_append,List.length_take,List.length_drop]
     rw [hR1,←r9]
     omega
    ·rw [hnm]
     refine YA (dm:=dm.toList) (r:=xs.length *E.size) (by simpa using hR1) rfl oc tP (by simp only [Array.length_toList];omega) ?_ ?_
     ·show R1.take (i *E.size)=_
      rw [←NX,List.take_take,Nat.min_eq_left tP]
      simp only [R1]
      rw [List.append_assoc,List.take_append_of_le_length (by rw [List.length_take,hcz];omega),List.take_take,Nat.min_eq_left (by omega)]
     ·show (R1.drop (i *E.size+news.length)).take _=_
      simp only [R1]
      have hl:(dm.toList.take ((i+ys.length) *E.size)).length=i *E.size+news.length:=by rw [List.length_take,hcz];omega
      rw [List.append_assoc,←hl,List.drop_left,List.take_append_of_le_length (by omega),List.take_of_length_le (by omega)]
end
end Dn
/-
  slices.Delete of the library, walked. Conditions: none.
-/
set_option linter.unusedSimpArgs false
set_option linter.unusedVariables false
namespace Dn
open Go
structure C3 (o:Oper) (op:Op):Prop where
 dst:o.dst=none
 op:o.op=op
 guard:o.guard=none
section
variable {P:Program} {Q:Exit→Act→World→Prop} {ops:Array Oper} {o:Oper} {a:Act} {w w':World} {n:Nat} {σ:Nat→Value}
theorem Tm.aaU {i:Nat} {op:Op} {rest:List Nat} {v:Value} (aD:Tm a n σ) (hi:ops[i]? =some o) (ho:C3 o op) (bS:(execOp (ev σ) o).run P w= .ok (.value v) w')
 (h:wpOps P ops Q rest a w'):wpOps P ops Q (i::rest) a w:=by
 refine tx hi ho.guard (v:=v) (w':=w') (by rw [aD.eval];exact bS) ?_
 rw [ho.dst];exact h
def Fj (ops:Array Oper):Nat→Nat→Array Bool→Bool
 |0,i,listed=>(Region.ready .any ops listed==[i])&&(Region.ready .any ops (listed.setIfInBounds i true)==[i+1])&&(Region.ready .any ops ((listed.setIfInBounds i true).setIfInBounds (i+1) true)).isEmpty
 |k+1,i,listed=>Region.free .any ops listed i&&(Region.ready .any ops listed).contains i&&Fj ops k (i+1) (listed.setIfInBounds i true)
def OA (ops:Array Oper):Bool:=Region.noSelect ops&&Nat.blt 1 ops.size&&Fj ops (ops.size-2) 0 (Array.replicate ops.size false)
structure Ki (ops:Array Oper) (k i:Nat) (listed:Array Bool):Prop where
 sel:Region.noSelect ops=true
 ord:Fj ops k i listed=true
theorem Tm.IC {N:Act→World→Prop} {i d:Nat} {op:Op} {k:Nat} {listed:Array Bool} {v:Value} (aD:Tm a n σ) (hi:ops[i]? =some o) (ho:aS o d op) (hd:d<n) (hb:Ki ops (k+1) i listed) (bS: ∀w,(execOp (ev σ) o).run P w= .ok (.value v) w)
 (h: ∀a',Tm a' n (xr σ d v)→Ki ops k (i+1) (listed.setIfInBounds i true)→wpAny P .any ops (qv N) (k+2) (listed.setIfInBounds i true) a' w):wpAny P .any ops (qv N) (k+3) listed a w:=by
 obtain ⟨hs,hb⟩:=hb
 simp only [Fj,Bool.and_eq_true] at hb
 obtain ⟨⟨h1,h2⟩,h3⟩:=hb
 refine wpAny_take hi hs h1 h2 (fun c a w hq=>hq.elim) (v:=v) (.inl ⟨by simp [Region.wanted,ho.guard],fun w=>by rw [aD.eval];exact bS w⟩) ?_
 rw [ho.dst]
 exact h _ (aD.put hd v) ⟨hs,h3⟩
theorem Tm.afA {N:Act→World→Prop} {i d d2:Nat} {op op2:Op} {o2:Oper} {listed:Array Bool} {v v2:Value} (aD:Tm a n σ) (hi:ops[i]? =some o) (ho:aS o d op) (hd:d<n) (S9:ops[i+1]? =some o2) (cE:aS o2 d2 op2) (Xn:d2<n) (hb:Ki ops 0 i listed)
 (bS:(execOp (ev σ) o).run P w= .ok (.value v) w') (Iy:(execOp (ev (xr σ d v)) o2).run P w'= .ok (.value v2) w')
 (h: ∀a',Tm a' n (xr (xr σ d v) d2 v2)→N a' w'):wpAny P .any ops (qv N) 2 listed a w:=by
 obtain ⟨hs,hb⟩:=hb
 simp only [Fj,Bool.and_eq_true,List.isEmpty_iff,beq_iff_eq] at hb
 obtain ⟨⟨h1,h2⟩,h3⟩:=hb
 refine wpAny_all h1 (by simp) ?_
 intro j hj
 simp only [List.mem_singleton] at hj
 subst hj
 unfold wpOp
 simp only [hi,Region.wanted,ho.guard,if_true]
 left
 unfold Oper.wp
 rw [aD.eval,bS,Oper.upon_value,ho.dst]
 have Vi:=aD.put hd v
 refine wpAny_all h2 (by simp) ?_
 intro q hq
 simp only [List.mem_singleton] at hq
 subst hq
 unfold wpOp
 simp only [S9,Region.wanted,cE.guard,if_true]
 left
 unfold Oper.wp
 rw [Vi.eval,Iy,Oper.upon_value,cE.dst]
 exact wpAny_done h3 (h _ (Vi.put Xn v2)) 0
theorem Vj {id k:Nat} (hm:P.follows .mixedOrders=true) (hb:OA ops=true) (hk:ops.size=k+2) (h:Ki ops k 0 (Array.replicate (k+2) false)→wpAny P .any ops (qv fun a w=>Q .normal a w) (k+2) (Array.replicate (k+2) false) a {w with drawn:=w.drawn+1}):
 (Code.region id ops true).wp P Q a w:=by
 simp only [OA,Bool.and_eq_true] at hb
 rw [hk] at hb
 refine Code.wp_mono ?_ (wp_region_any (Q:=qv fun a w=>Q .normal a w) hm (by rw [hk];exact h ⟨hb.1.1,hb.2⟩))
 intro x a' w' hx
 cases x<;>first|exact hx|exact hx.elim
theorem ID {d:Nat} {t el:TypeId} {x y z m3:Operand} {e:Operand→Value} {ad:Option Addr} {m c l h k:Nat} {i:TypeInfo} (ho:aS o d (.slice t x (some y) (some z) (some m3))) (hu:P.underlying t=some (.slice el)) (hi:P.info? el=some i)
 (hx:e x= .slice ad m c) (hy:e y= .int .i64 l) (hz:e z= .int .i64 h) (hm:e m3= .int .i64 k) (h1:l≤h) (h2:h≤k) (h3:k≤c) (w:World):(execOp e o).run P w= .ok (.value (.slice (if k=l then ad else ad.map (·.add (l *i.size))) (h-l) (k-l))) w:=by
 simp [execOp,ho.op,Instr.sliceAt,Instr.slice,run_underlying hu,hx,hy,hz,hm,Go.sizeOf,typeInfo,hi,Instr.sliceBounds,Instr.sliceBound,asIntOf,h1,h2,h3]
theorem Mb {d:Nat} {t el:TypeId} {x y z:Operand} {e:Operand→Value} {ad:Option Addr} {m c l h size:Nat} {i:TypeInfo} (ho:aS o d (.slice t x (some y) (some z) none)) (hu:P.underlying t=some (.slice el)) (hi:P.info? el=some i) (hs:i.size=size)
 (hx:e x= .slice ad m c) (hy:e y= .int .i64 l) (hz:e z= .int .i64 h) (h1:l≤h) (h2:h≤c) (w:World):(execOp e o).run P w= .ok (.value (.slice (if c=l then ad else ad.map (·.add (l *size))) (h-l) (c-l))) w:=by
 simp [execOp,ho.op,Instr.sliceAt,Instr.slice,run_underlying hu,hx,hy,hz,Go.sizeOf,typeInfo,hi,hs,Instr.sliceBounds,Instr.sliceBound,asIntOf,h1,h2]
theorem Qo {x:Operand} {t1:TypeId} {e:Operand→Value} {v1 v:Value} (ho:C3 o (.call {callee:= .builtin .clear,args:= #[x],argTypes:= #[t1]})) (hx:e x=v1)
 (h:(Builtin.clear_ #[t1] o.type #[v1]).run P w= .ok v w'):(execOp e o).run P w= .ok (.value v) w':=by
 simp [execOp,ho.op,resolve,invoke,builtin,hx,h]
theorem xv {t ty elem t2:TypeId} {g off n c size:Nat} {z:Value} {dm:Array Value} {i:TypeInfo} (hu:P.underlying t=some (.slice elem)) (hi:P.info? elem=some i) (hz:i.zero=some z) (K4:z.cells.size=size) (h1: ∀v∈z.cells.toList,v.oneCell'=true)
 (hg:w.heap[g]? =some (.cells dm t2 (0,0))) (hn:0<n) (xh:off+n *size≤dm.size):
 ∃zs:List Value,zs.length=n *size∧(Builtin.clear_ #[t] ty #[.slice (some ⟨g,off,none⟩) n c]).run P w= .ok (.tuple #[]) (w.setRow g (dm.toList.take off++zs++dm.toList.drop (off+zs.length)).toArray):=by
 refine ⟨(Builtin.zeroCells z.cells n).toList,?_,?_⟩
 ·simp [Builtin.zeroCells,K4]
 ·have hl:(Builtin.zeroCells z.cells n).toList.length=n *size:=by simp [Builtin.zeroCells,K4]
  have ez:=run_storeCells_at P g off t2 (Builtin.zeroCells z.cells n).toList 0 dm w hg (by rw [hl];simpa using xh) (by
   intro v hv
   simp only [Builtin.zeroCells,Array.toList_map,List.mem_map,Array.mem_toList_iff,Array.mem_range] at hv
   obtain ⟨j,hj,rfl⟩:=hv
   have eD:0<z.cells.size:=by
    rcases Nat.eq_zero_or_pos z.cells.size with h0|h0
    ·rw [h0] at hj;omega
    ·exact h0
   have dn:j%z.cells.size<z.cells.size:=Nat.mod_lt _ eD
   rw [getElem!_pos z.cells _ dn]
   exact h1 _ (by simp))
  simp only [Nat.add_zero] at ez
  obtain ⟨m,rfl⟩: ∃m,n=m+1:=⟨n-1,by omega⟩
  simp [Builtin.clear_,run_underlying hu,zeroValue,typeInfo,hi,hz,ez]
end
theorem uh {w:World} {g:Nat} {dm:Array Value} {t:TypeId} {fr:Nat×Nat} (cs:Array Value) (hg:w.heap[g]? =some (.cells dm t fr)):(w.setRow g cs).heap[g]? =some (.cells cs t fr):=by
 simp [World.setRow,Array.getElem?_modify,hg]
def A3 (r:Nat→Nat) (o:Nat→Oper):Code:=
 .seq (.region (r 0) #[o 0] false) (.seq (.region (r 1) #[o 1,o 2,o 3,o 4,o 5,o 6] false) (.seq (.seq (.region (r 2) #[o 7,o 8,o 9] false) (.cond (.tmp 16) (.seq (.region (r 3) #[o 10,o 11] false) .ret) .skip)) (.seq (.region (r 4) #[o 12,o 13,o 14] false) (.seq (.region (r 5) #[o 15,o 16,o 17,o 18,o 19,o 20,o 21,o 22] true) (.seq (.region (r 6) #[o 23,o 24,o 25,o 26,o 27,o 28] false) (.seq (.region (r 7) #[o 29,o 30] false) .ret))))))
structure acs (t ti:Nat) (o:Nat→Oper):Prop where
 h0:aS (o 0) 6 (.assign (.const (.slice none 0 0)))
 h1:aS (o 1) 8 (.move (.tmp 0))
 h2:aS (o 2) 9 (.move (.tmp 1))
 h3:aS (o 3) 10 (.move (.tmp 2))
 h4:aS (o 4) 11 (.move (.tmp 0))
 h5:aS (o 5) 12 (.call {callee:= .builtin .len,args:= #[.tmp 11],argTypes:= #[t]})
 h6:aS (o 6) 13 (.slice t (.tmp 8) (some (.tmp 9)) (some (.tmp 10)) (some (.tmp 12)))
 h7:aS (o 7) 14 (.move (.tmp 1))
 h8:aS (o 8) 15 (.move (.tmp 2))
 h9:aS (o 9) 16 (.binOp .eql ti (.tmp 14) (.tmp 15) ti)
 P9:aS (o 10) 17 (.move (.tmp 0))
 Ot:aS (o 11) 6 (.assign (.tmp 17))
 Ou:aS (o 12) 18 (.move (.tmp 0))
 Ov:aS (o 13) 19 (.call {callee:= .builtin .len,args:= #[.tmp 18],argTypes:= #[t]})
 Ow:aS (o 14) 7 (.assign (.tmp 19))
 Ox:aS (o 15) 20 (.move (.tmp 0))
 Oy:aS (o 16) 21 (.move (.tmp 1))
 Vd:aS (o 17) 22 (.slice t (.tmp 20) none (some (.tmp 21)) none)
 h18:aS (o 18) 23 (.move (.tmp 0))
 h19:aS (o 19) 24 (.move (.tmp 2))
 h20:aS (o 20) 25 (.slice t (.tmp 23) (some (.tmp 24)) none none)
 Xo:aS (o 21) 26 (.call {callee:= .builtin .append,args:= #[.tmp 22,.tmp 25],argTypes:= #[t,t]})
 Xp:aS (o 22) 0 (.assign (.tmp 26))
 Xq:aS (o 23) 27 (.move (.tmp 0))
 Xr:aS (o 24) 28 (.move (.tmp 0))
 Xs:aS (o 25) 29 (.call {callee:= .builtin .len,args:= #[.tmp 28],argTypes:= #[t]})
 Xt:aS (o 26) 30 (.move (.tmp 7))
 h27:aS (o 27) 31 (.slice t (.tmp 27) (some (.tmp 29)) (some (.tmp 30)) none)
 h28:C3 (o 28) (.call {callee:= .builtin .clear,args:= #[.tmp 31],argTypes:= #[t]})
 h29:aS (o 29) 32 (.move (.tmp 0))
 Ve:aS (o 30) 6 (.assign (.tmp 32))
 d5:OA #[o 15,o 16,o 17,o 18,o 19,o 20,o 21,o 22]=true
structure Mc (P:Program) (f t ti el:Nat) (fn:Func) (r:Nat→Nat) (o:Nat→Oper):Prop where
 pos:P.funcs[f]? =some fn
 name:(fn.name== "runtime.NumGoroutine")=false
 tmps:fn.ntmps=33
 res:fn.results= #[.tmp 6]
 body:fn.body=some (A3 r o)
 ops:acs t ti o
 mix:P.follows .mixedOrders=true
 uS:P.underlying t=some (.slice el)
section
variable {P:Program} {f t ti el:Nat} {fn:Func} {r:Nat→Nat} {o:Nat→Oper} {ie:TypeInfo} {size n c i j g:Nat} {ad:Option Addr} {w:World}
theorem Qp {a:Act} {w:World} {σ:Nat→Value} {R:Ending→World→Prop} {v:Value} (hr:fn.results= #[.tmp 6]) (aD:Tm a 33 σ) (h6:σ 6=v) (h:R (.returned v) w):bodyPost P fn R .ret a w:=by
 refine ⟨aD.defers,v,?_,h⟩
 have h2:a.tmps[6]?.getD undef=v:=by have:=aD.get 6;rw [h6] at this;simpa using this
 simp [results,hr,h2]
theorem Vk (hf:Mc P f t ti el fn r o) (nU:P.info? el=some ie) (hn:n≤c) (hi:i≤n):
 Calls P f #[.slice ad n c,.int .i64 ((i:Nat):Int),.int .i64 ((i:Nat):Int)] w fun x w'=>x= .returned (.slice ad n c)∧w'=w:=by
 refine calls_of_wp hf.pos hf.body ?_
 rw [hf.tmps]
 have key: ∀a:Act,Tm a 33 (xr (xr (xr (fun _=>undef) 0 (.slice ad n c)) 1 (.int .i64 ((i:Nat):Int))) 2 (.int .i64 ((i:Nat):Int)))→(A3 r o).wp P (bodyPost P fn fun x w'=>x= .returned (.slice ad n c)∧w'=w) a w:=by
  intro a aD
  unfold A3
  refine wp_seq (wp_region ?_)
  rw [show List.range (#[o 0]:Array Oper).size=[0] from rfl]
  refine aD.step (v:= .slice none 0 0) rfl hf.ops.h0 (by decide) (cS hf.ops.h0 _) (fun a aD=> ?_)
  refine wp_seq (wp_region ?_)
  rw [show List.range (#[o 1,o 2,o 3,o 4,o 5,o 6]:Array Oper).size=[0,1,2,3,4,5] from rfl]
  refine aD.step (v:= .slice ad n c) rfl hf.ops.h1 (by decide) (aQ hf.ops.h1 _) (fun a aD=> ?_)
  refine aD.step (v:= .int .i64 ((i:Nat):Int)) rfl hf.ops.h2 (by decide) (aQ hf.ops.h2 _) (fun a aD=> ?_)
  refine aD.step (v:= .int .i64 ((i:Nat):Int)) rfl hf.ops.h3 (by decide) (aQ hf.ops.h3 _) (fun a aD=> ?_)
  refine aD.step (v:= .slice ad n c) rfl hf.ops.h4 (by decide) (aQ hf.ops.h4 _) (fun a aD=> ?_)
  refine aD.step (v:= .int .i64 ((n:Nat):Int)) rfl hf.ops.h5 (by decide) (mB hf.ops.h5 hf.uS rfl _) (fun a aD=> ?_)
  refine aD.step rfl hf.ops.h6 (by decide) (ID hf.ops.h6 hf.uS nU rfl rfl rfl rfl (Nat.le_refl _) hi hn _) (fun a aD=> ?_)
  refine wp_seq ?_
  refine wp_seq (wp_region ?_)
  rw [show List.range (#[o 7,o 8,o 9]:Array Oper).size=[0,1,2] from rfl]
  refine aD.step (v:= .int .i64 ((i:Nat):Int)) rfl hf.ops.h7 (by decide) (aQ hf.ops.h7 _) (fun a aD=> ?_)
  refine aD.step (v:= .int .i64 ((i:Nat):Int)) rfl hf.ops.h8 (by decide) (aQ hf.ops.h8 _) (fun a aD=> ?_)
  refine aD.step (v:= .bool (decide (((i:Nat):Int)=((i:Nat):Int)))) rfl hf.ops.h9 (by decide) (oR hf.ops.h9 rfl rfl _) (fun a aD=> ?_)
  refine aD.cond (b:=true) (by show Value.bool (decide (((i:Nat):Int)=((i:Nat):Int)))=_;rw [decide_eq_true rfl]) ?_
  simp only [if_true]
  refine wp_seq (wp_region ?_)
  rw [show List.range (#[o 10,o 11]:Array Oper).size=[0,1] from rfl]
  refine aD.step (v:= .slice ad n c) rfl hf.ops.P9 (by decide) (aQ hf.ops.P9 _) (fun a aD=> ?_)
  refine aD.step (v:= .slice ad n c) rfl hf.ops.Ot (by decide) (cS hf.ops.Ot _) (fun a aD=> ?_)
  refine wp_ret ?_
  show bodyPost P fn (fun x wq=>x= .returned (.slice ad n c)∧wq=w) .ret a w
  refine Qp hf.res aD (v:= .slice ad n c) rfl ?_
  exact ⟨rfl,rfl⟩
 exact key _ (tm3 _ _ _ 30)
theorem Vl (hf:Mc P f t ti el fn r o) (nU:P.info? el=some ie) (tz:ie.size=size) (hn:n≤c) (NT:i<j) (hj:j≤n) {w1 w2:World}
 (hA: ∀ty,(Builtin.append_ #[t,t] ty #[.slice (some ⟨g,0,none⟩) i c,.slice (if c=j then (some ⟨g,0,none⟩:Option Addr) else some ⟨g,j *size,none⟩) (n-j) (c-j)]).run P {w with drawn:=w.drawn+1}= .ok (.slice (some ⟨g,0,none⟩) (i+(n-j)) c) w1)
 (hC: ∀ty,(Builtin.clear_ #[t] ty #[.slice (some ⟨g,(i+(n-j)) *size,none⟩) (n-(i+(n-j))) (c-(i+(n-j)))]).run P w1= .ok (.tuple #[]) w2):
 Calls P f #[.slice (some ⟨g,0,none⟩) n c,.int .i64 ((i:Nat):Int),.int .i64 ((j:Nat):Int)] w fun x w'=>x= .returned (.slice (some ⟨g,0,none⟩) (i+(n-j)) c)∧w'=w2:=by
 refine calls_of_wp hf.pos hf.body ?_
 rw [hf.tmps]
 have h0: ∀l:Nat,(⟨g,0,none⟩:Addr).add l=⟨g,l,none⟩:=fun l=>by
  have:=Addr.add_mid g 0 l
  rwa [Nat.zero_add] at this
 have key: ∀a:Act,Tm a 33 (xr (xr (xr (fun _=>undef) 0 (.slice (some ⟨g,0,none⟩) n c)) 1 (.int .i64 ((i:Nat):Int))) 2 (.int .i64 ((j:Nat):Int)))→(A3 r o).wp P (bodyPost P fn fun x w'=>x= .returned (.slice (some ⟨g,0,none⟩) (i+(n-j)) c)∧w'=w2) a w:=by
  intro a aD
  unfold A3
  refine wp_seq (wp_region ?_)
  rw [show List.range (#[o 0]:Array Oper).size=[0] from rfl]
  refine aD.step (v:= .slice none 0 0) rfl hf.ops.h0 (by decide) (cS hf.ops.h0 _) (fun a aD=> ?_)
  refine wp_seq (wp_region ?_)
  rw [show List.range (#[o 1,o 2,o 3,o 4,o 5,o 6]:Array Oper).size=[0,1,2,3,4,5] from rfl]
  refine aD.step (v:= .slice (some ⟨g,0,none⟩) n c) rfl hf.ops.h1 (by decide) (aQ hf.ops.h1 _) (fun a aD=> ?_)
  refine aD.step (v:= .int .i64 ((i:Nat):Int)) rfl hf.ops.h2 (by decide) (aQ hf.ops.h2 _) (fun a aD=> ?_)
  refine aD.step (v:= .int .i64 ((j:Nat):Int)) rfl hf.ops.h3 (by decide) (aQ hf.ops.h3 _) (fun a aD=> ?_)
  refine aD.step (v:= .slice (some ⟨g,0,none⟩) n c) rfl hf.ops.h4 (by decide) (aQ hf.ops.h4 _) (fun a aD=> ?_)
  refine aD.step (v:= .int .i64 ((n:Nat):Int)) rfl hf.ops.h5 (by decide) (mB hf.ops.h5 hf.uS rfl _) (fun a aD=> ?_)
  refine aD.step rfl hf.ops.h6 (by decide) (ID hf.ops.h6 hf.uS nU rfl rfl rfl rfl (Nat.le_of_lt NT) hj hn _) (fun a aD=> ?_)
  refine wp_seq ?_
  refine wp_seq (wp_region ?_)
  rw [show List.range (#[o 7,o 8,o 9]:Array Oper).size=[0,1,2] from rfl]
  refine aD.step (v:= .int .i64 ((i:Nat):Int)) rfl hf.ops.h7 (by decide) (aQ hf.ops.h7 _) (fun a aD=> ?_)
  refine aD.step (v:= .int .i64 ((j:Nat):Int)) rfl hf.ops.h8 (by decide) (aQ hf.ops.h8 _) (fun a aD=> ?_)
  refine aD.step (v:= .bool (decide (((i:Nat):Int)=((j:Nat):Int)))) rfl hf.ops.h9 (by decide) (oR hf.ops.h9 rfl rfl _) (fun a aD=> ?_)
  refine aD.cond (b:=false) (by show Value.bool (decide (((i:Nat):Int)=((j:Nat):Int)))=_;rw [decide_eq_false (by omega)]) ?_
  simp only [Bool.false_eq_true,if_false]
  refine wp_skip ?_
  refine wp_seq (wp_region ?_)
  rw [show List.range (#[o 12,o 13,o 14]:Array Oper).size=[0,1,2] from rfl]
  refine aD.step (v:= .slice (some ⟨g,0,none⟩) n c) rfl hf.ops.Ou (by decide) (aQ hf.ops.Ou _) (fun a aD=> ?_)
  refine aD.step (v:= .int .i64 ((n:Nat):Int)) rfl hf.ops.Ov (by decide) (mB hf.ops.Ov hf.uS rfl _) (fun a aD=> ?_)
  refine aD.step (v:= .int .i64 ((n:Nat):Int)) rfl hf.ops.Ow (by decide) (cS hf.ops.Ow _) (fun a aD=> ?_)
  refine wp_seq (Vj hf.mix hf.ops.d5 (k:=6) rfl fun fY=> ?_)
  refine aD.IC (v:= .slice (some ⟨g,0,none⟩) n c) rfl hf.ops.Ox (by decide) fY (fun w=>aQ hf.ops.Ox _) (fun a aD fY=> ?_)
  refine aD.IC (v:= .int .i64 ((i:Nat):Int)) rfl hf.ops.Oy (by decide) fY (fun w=>aQ hf.ops.Oy _) (fun a aD fY=> ?_)
  refine aD.IC (v:= .slice (some ⟨g,0,none⟩) i c) rfl hf.ops.Vd (by decide) fY (fun w=>AZ hf.ops.Vd hf.uS nU tz rfl rfl (by omega) _) (fun a aD fY=> ?_)
  refine aD.IC (v:= .slice (some ⟨g,0,none⟩) n c) rfl hf.ops.h18 (by decide) fY (fun w=>aQ hf.ops.h18 _) (fun a aD fY=> ?_)
  refine aD.IC (v:= .int .i64 ((j:Nat):Int)) rfl hf.ops.h19 (by decide) fY (fun w=>aQ hf.ops.h19 _) (fun a aD fY=> ?_)
  refine aD.IC (v:= .slice (if c=j then (some ⟨g,0,none⟩:Option Addr) else some ⟨g,j *size,none⟩) (n-j) (c-j)) rfl hf.ops.h20 (by decide) fY (fun w=>by
   refine (xu (P:=P) hf.ops.h20 hf.uS nU tz (ad:=some ⟨g,0,none⟩) (m:=n) (c:=c) (l:=j) rfl rfl hj w).trans ?_
   rw [show (some (⟨g,0,none⟩:Addr)).map (·.add (j *size))=some ⟨g,j *size,none⟩ from congrArg some (h0 _)]) (fun a aD fY=> ?_)
  refine aD.afA (v:= .slice (some ⟨g,0,none⟩) (i+(n-j)) c) (v2:= .slice (some ⟨g,0,none⟩) (i+(n-j)) c) rfl hf.ops.Xo (by decide) rfl hf.ops.Xp (by decide) fY (Fg hf.ops.Xo rfl rfl (hA _)) (cS hf.ops.Xp _) (fun a aD=> ?_)
  refine wp_seq (wp_region ?_)
  rw [show List.range (#[o 23,o 24,o 25,o 26,o 27,o 28]:Array Oper).size=[0,1,2,3,4,5] from rfl]
  refine aD.step (v:= .slice (some ⟨g,0,none⟩) (i+(n-j)) c) rfl hf.ops.Xq (by decide) (aQ hf.ops.Xq _) (fun a aD=> ?_)
  refine aD.step (v:= .slice (some ⟨g,0,none⟩) (i+(n-j)) c) rfl hf.ops.Xr (by decide) (aQ hf.ops.Xr _) (fun a aD=> ?_)
  refine aD.step (v:= .int .i64 ((i+(n-j):Nat):Int)) rfl hf.ops.Xs (by decide) (mB hf.ops.Xs hf.uS rfl _) (fun a aD=> ?_)
  refine aD.step (v:= .int .i64 ((n:Nat):Int)) rfl hf.ops.Xt (by decide) (aQ hf.ops.Xt _) (fun a aD=> ?_)
  refine aD.step (v:= .slice (some ⟨g,(i+(n-j)) *size,none⟩) (n-(i+(n-j))) (c-(i+(n-j)))) rfl hf.ops.h27 (by decide) (by
   refine (Mb (P:=P) hf.ops.h27 hf.uS nU tz (ad:=some ⟨g,0,none⟩) (m:=i+(n-j)) (c:=c) (l:=i+(n-j)) (h:=n) rfl rfl rfl (by omega) (by omega) w1).trans ?_
   rw [if_neg (show¬c=i+(n-j) by omega)]
   rw [show (some (⟨g,0,none⟩:Addr)).map (·.add ((i+(n-j)) *size))=some ⟨g,(i+(n-j)) *size,none⟩ from congrArg some (h0 _)]) (fun a aD=> ?_)
  refine aD.aaU (v:= .tuple #[]) rfl hf.ops.h28 (Qo hf.ops.h28 rfl (hC _)) ?_
  refine wp_seq (wp_region ?_)
  rw [show List.range (#[o 29,o 30]:Array Oper).size=[0,1] from rfl]
  refine aD.step (v:= .slice (some ⟨g,0,none⟩) (i+(n-j)) c) rfl hf.ops.h29 (by decide) (aQ hf.ops.h29 _) (fun a aD=> ?_)
  refine aD.step (v:= .slice (some ⟨g,0,none⟩) (i+(n-j)) c) rfl hf.ops.Ve (by decide) (cS hf.ops.Ve _) (fun a aD=> ?_)
  refine wp_ret ?_
  show bodyPost P fn (fun x wq=>x= .returned (.slice (some ⟨g,0,none⟩) (i+(n-j)) c)∧wq=w2) .ret a w2
  refine Qp hf.res aD (v:= .slice (some ⟨g,0,none⟩) (i+(n-j)) c) rfl ?_
  exact ⟨rfl,rfl⟩
 exact key _ (tm3 _ _ _ 30)
end
section
variable {P:Program} {c:Ctx} {f:Nat}
theorem IE {t ti el:Nat} {fn:Func} {r:Nat→Nat} {o:Nat→Oper} {I E:TI} {xs:List MV} {i j:Nat} (hf:Mc P f t ti el fn r o) (hT:kK P c.ti) (hI:c.tv t=some I) (hL:I.zp=true) (hE:c.tv I.elem=some E)
 (Xd:el=I.elem) (Cd:c.r7 (c.key f)=I.elem) (hg:c.eB (c.key f)=true) (NT:i≤j) (hj:j≤xs.length):kM P c f [.fresh xs,.i .i64 i,.i .i64 j] (.fresh (xs.take i++xs.drop j)):=by
 subst Xd
 obtain ⟨hIt,TT⟩:=bO hI
 obtain ⟨nk,n9⟩:=bO hE
 obtain ⟨hu,E2,wY,_,eD⟩:=TI.mK (hT t I hIt) hL
 rw [nk] at wY
 cases wY
 obtain ⟨ie,z,nU,tz,Rc,YB,K4⟩:=od (hT _ E nk) n9
 obtain ⟨ie2,z2,Vm,TM,hzr⟩:=z7 hE hT
 rw [nU] at Vm
 cases Vm
 rw [YB] at TM
 cases TM
 have hz1: ∀v∈z.cells.toList,v.oneCell'=true:=(hzr (oe c.key fun _ _=>none)).cells
 intro φ W Z vs hz fq jo
 simp only [eX,hg,if_true] at fq
 obtain ⟨v0,v1,v2,xs',m1,m2,rfl,LD,alD,F0,A1,A2⟩:=(fq.resolve_left (by
  rintro ⟨_,_,_,_,_,ys,_,h1,_⟩
  simp only [List.cons.injEq,and_true] at h1
  exact absurd h1.2.2 (by simp))).resolve_right (by
  rintro ⟨pos,_,_,_,_,_,_,h1,_⟩
  rcases pos with _|_|_|pos<;>simp at h1)
 simp only [List.cons.injEq,MV.fresh.injEq,and_true] at LD
 obtain ⟨rfl,rfl,rfl⟩:=LD
 have num: ∀{v:Value} {n:Nat},fj c.key φ v (.i .i64 (n:Int))→v= .int .i64 (n:Int):=by
  intro v n h
  obtain ⟨_,h⟩:=h
  generalize yZ:[v]=l at h
  cases h;simpa using yZ
 have Q3:=num A1
 have Xe:=num A2
 subst Q3
 subst Xe
 rw [Cd] at F0
 obtain ⟨I0,cells,YC,_,ug,sO,IB⟩:=F0
 have YC:c.ti I.elem=some I0:=YC
 rw [nk] at YC
 cases YC
 have ug:W.ownsRow 0 I.elem E.size v0 xs.length cells:=ug
 have sO:a8 c.key φ E.size cells xs:=sO
 have P0: ∀b,v0.ownBlock=some b→Z b∧ ∀off,φ b off=none:=by
  intro b hb
  refine ⟨(IB b hb).1,fun off=> ?_⟩
  cases h:φ b off with
  |none=>rfl
  |some u=>have:=((IB b hb).2.1 off u h).1;cases this
 have oc:cells.length=xs.length *E.size:=sO.length
 have bS:(callFunc f [v0,.int .i64 (i:Int),.int .i64 (j:Int)].toArray).run P W= .ok (.enter f #[v0,.int .i64 (i:Int),.int .i64 (j:Int)]) W:=by
  have Et: ¬fn.name= "runtime.NumGoroutine" :=by simpa using hf.name
  simp [callFunc,hf.pos,Et,hf.body]
 unfold fP
 rw [bS]
 rcases Nat.lt_or_ge i j with dn|Ta
 ·
  obtain ⟨g,cp,dm,rfl,_,Tb,Ia,DW,r9,NX⟩: ∃g cp dm,v0= .slice (some ⟨g,0,none⟩) xs.length cp∧0≤g∧W.heap[g]? =some (.cells dm I.elem (0,0))∧xs.length≤cp∧cp≤maxLen∧dm.size=cp *E.size∧dm.toList.take (xs.length *E.size)=cells:=by
   rcases ug.2 with ⟨_,h0⟩|h
   ·omega
   ·exact h
  have hl0:cells.length≤dm.size:=by rw [oc,r9];exact Nat.mul_le_mul_right _ Ia
  obtain ⟨news,CN⟩: ∃news,news=cells.drop (j *E.size):=⟨_,rfl⟩
  have DY:news.length=(xs.length-j) *E.size:=by rw [CN,List.length_drop,oc,Nat.sub_mul]
  have JM: ∀u∈news,u.oneCell'=true:=fun u hu=>sO.xj u (by rw [CN] at hu;exact List.mem_of_mem_drop hu)
  have hmul: ∀{a b:Nat},a≤b→a *E.size≤b *E.size:=fun h=>Nat.mul_le_mul_right _ h
  have anr:i *E.size≤j *E.size:=hmul (by omega)
  have hjn:j *E.size≤xs.length *E.size:=hmul hj
  have ans:xs.length *E.size≤cp *E.size:=hmul Ia
  have hlo:(i+(xs.length-j)) *E.size=i *E.size+news.length:=by rw [Nat.add_mul,DY]
  have Dw:news.length+j *E.size=xs.length *E.size:=by rw [DY,Nat.sub_mul];omega
  obtain ⟨xw,Qq⟩: ∃xw:Array Value,xw=(dm.toList.take (i *E.size)++news++dm.toList.drop (i *E.size+news.length)).toArray:=⟨_,rfl⟩
  have afB:dm.toList.length=dm.size:=Array.length_toList
  have aaV:xw.toList.length=xw.size:=Array.length_toList
  have hA: ∀ty,(Builtin.append_ #[t,t] ty #[.slice (some ⟨g,0,none⟩) i cp,.slice (if cp=j then (some ⟨g,0,none⟩:Option Addr) else some ⟨g,j *E.size,none⟩) (xs.length-j) (cp-j)]).run P {W with drawn:=W.drawn+1}= .ok (.slice (some ⟨g,0,none⟩) (i+(xs.length-j)) cp) (({W with drawn:=W.drawn+1}:World).setRow g xw):=by
   intro ty
   have xh:i *ie.size+news.length≤dm.size:=by rw [tz,r9];omega
   by_cases hcj:cp=j
   ·rw [if_pos hcj]
    refine run_append_room (P:=P) (w:={W with drawn:=W.drawn+1}) t ty I.elem ie hu nU g i cp dm Tb ⟨g,0,none⟩ (xs.length-j) (cp-j) news (by rw [tz];exact DY) ?_ JM (by omega) xh|>.trans ?_
    ·intro q u hq
     have:=(List.getElem?_eq_some_iff.1 hq).1
     rw [DY,show xs.length-j=0 by omega] at this
     omega
    ·rw [tz,Qq]
   ·rw [if_neg hcj]
    refine run_append_room (P:=P) (w:={W with drawn:=W.drawn+1}) t ty I.elem ie hu nU g i cp dm Tb ⟨g,j *E.size,none⟩ (xs.length-j) (cp-j) news (by rw [tz];exact DY) ?_ JM (by omega) xh|>.trans ?_
    ·intro q u hq
     have h1:=ug.cells (g:=g) rfl (j *E.size+q) u (by rw [CN,List.getElem?_drop] at hq;exact hq)
     rw [Addr.add_mid] at h1⊢
     rw [Nat.zero_add] at h1
     exact h1
    ·rw [tz,Qq]
  have Nq:xw.size=dm.size:=by
   rw [Qq]
   simp only [List.size_toArray,List.length_append,List.length_take,List.length_drop,afB]
   omega
  have Ik:(({W with drawn:=W.drawn+1}:World).setRow g xw).heap[g]? =some (.cells xw I.elem (0,0)):=uh _ Tb
  obtain ⟨zs,hzl,hC0⟩:=xv (P:=P) (t:=t) (ty:=0) (c:=cp-(i+(xs.length-j))) (w:=({W with drawn:=W.drawn+1}:World).setRow g xw) (off:=(i+(xs.length-j)) *E.size) (n:=xs.length-(i+(xs.length-j))) hu nU YB K4 hz1 Ik (by omega) (by rw [Nq,r9,←Nat.add_mul];exact hmul (by omega))
  obtain ⟨tV,Lt⟩: ∃tV:Array Value,tV=(xw.toList.take ((i+(xs.length-j)) *E.size)++zs++xw.toList.drop ((i+(xs.length-j)) *E.size+zs.length)).toArray:=⟨_,rfl⟩
  rw [←Lt] at hC0
  have hC: ∀ty,(Builtin.clear_ #[t] ty #[.slice (some ⟨g,(i+(xs.length-j)) *E.size,none⟩) (xs.length-(i+(xs.length-j))) (cp-(i+(xs.length-j)))]).run P (({W with drawn:=W.drawn+1}:World).setRow g xw)= .ok (.tuple #[]) ((({W with drawn:=W.drawn+1}:World).setRow g xw).setRow g tV):=fun ty=>hC0
  refine (Vl (w:=W) hf nU tz Ia dn hj hA hC).mono ?_
  rintro x w' ⟨rfl,rfl⟩
  refine ⟨_,rfl,?_⟩
  have ajw:zs.length=(j-i) *E.size:=by rw [hzl];congr 1;omega
  have hc2:tV.size=dm.size:=by
   rw [Lt]
   simp only [List.size_toArray,List.length_append,List.length_take,List.length_drop,aaV,Nq]
   rw [ajw,Nat.sub_mul,hlo]
   omega
  have afw:tV.toList.take ((i+(xs.length-j)) *E.size)=cells.take (i *E.size)++cells.drop (j *E.size):=by
   rw [Lt]
   have l1:(xw.toList.take ((i+(xs.length-j)) *E.size)).length=(i+(xs.length-j)) *E.size:=by
    rw [List.length_take,aaV,Nq,r9,hlo];omega
   rw [show∀l:List Value,l.toArray.toList=l from fun _=>rfl,List.append_assoc,List.take_append_of_le_length (by rw [l1];exact Nat.le_refl _),List.take_of_length_le (by rw [l1];exact Nat.le_refl _),hlo,Qq]
   have l2:(dm.toList.take (i *E.size)).length=i *E.size:=by rw [List.length_take,afB,r9];omega
   rw [show∀l:List Value,l.toArray.toList=l from fun _=>rfl,List.take_append_of_le_length (by rw [List.length_append,l2];exact Nat.le_refl _),List.take_of_length_le (by rw [List.length_append,l2];exact Nat.le_refl _),CN]
   congr 1
   rw [←NX,List.take_take,Nat.min_eq_left (by omega)]
  have e2:(({W with drawn:=W.drawn+1}:World).setRow g xw).setRow g tV=({W with drawn:=W.drawn+1}:World).setRow g tV:=setRow_setRow _ _ _ _
  have RJ:((({W with drawn:=W.drawn+1}:World).setRow g xw).setRow g tV).heap[g]? =some (.cells tV I.elem (0,0)):=uh _ Ik
  have hrl:(xs.take i++xs.drop j).length=i+(xs.length-j):=by rw [List.length_append,List.length_take,List.length_drop];omega
  refine D5 (n:=i+(xs.length-j)) (cells:=cells.take (i *E.size)++cells.drop (j *E.size)) hz jo nk n9 Cd ?_ ?_ ?_ P0 ?_ hrl ((sO.take i).append (sO.drop j)) ?_
  ·intro b _ db
   have hbg:b≠g:=fun e=>db (by rw [e];rfl)
   rw [setRow_other _ _ _ _ hbg,setRow_other _ _ _ _ hbg]
  ·simp [World.setRow]
  ·have r1:Rest W ({W with drawn:=W.drawn+1}:World):=⟨rfl,rfl,rfl,fun _=>rfl⟩
   exact (r1.trans (Rest.setRow _ g xw)).trans (Rest.setRow _ g tV)
  ·refine ⟨?_,.inr ⟨g,cp,tV,rfl,Nat.zero_le _,RJ,by omega,DW,by rw [hc2,r9],afw⟩⟩
   rw [List.length_append,List.length_take,List.length_drop,oc,hlo,DY,Nat.sub_mul];omega
  ·intro b hb;exact .inl hb
 ·
  have Td:j=i:=by omega
  subst Td
  obtain ⟨ad,cp,hv,Ia⟩: ∃ad cp,v0= .slice ad xs.length cp∧xs.length≤cp:=by
   rcases ug.2 with ⟨h1,h2⟩|⟨g,cp,dm,h1,_,_,h4,_⟩
   ·exact ⟨none,0,by rw [h1,h2],by omega⟩
   ·exact ⟨_,cp,h1,h4⟩
  have hvv:=hv
  subst hv
  refine (Vk (w:=W) (ad:=ad) hf nU Ia hj).mono ?_
  rintro x w' ⟨rfl,rfl⟩
  refine ⟨_,rfl,φ,⟨.refl _,fun _ _ _=>rfl,fun _ _ _=>rfl,Nat.le_refl _,.refl _⟩,jo,?_⟩
  show dg c (bL.plain Z) (oe c.key φ) w' _ ⟨c.r7 (c.key f),false,xs.take j++xs.drop j⟩
  rw [Cd,List.take_append_drop]
  exact ⟨E,cells,nk,n9,ug,sO,IB⟩
end
def oT:List MV→Option MV
 |[.fresh xs,.i .i64 i,.i .i64 j]=>bif decide (0≤i)&&(decide (i≤j)&&decide (j≤(xs.length:Int))) then some (.fresh (xs.take i.toNat++xs.drop j.toNat)) else none
 |_=>none
theorem A4 {ms:List MV} {r:MV} (h:oT ms=some r): ∃xs i j,ms=[.fresh xs,.i .i64 ((i:Nat):Int),.i .i64 ((j:Nat):Int)]∧r= .fresh (xs.take i++xs.drop j)∧i≤j∧j≤xs.length:=by
 unfold oT at h
 split at h
 ·rename_i xs i j
  cases hb:decide (0≤i)&&(decide (i≤j)&&decide (j≤(xs.length:Int))) with
  |false=>rw [hb] at h;cases h
  |true=>
   simp only [hb,cond_true,Option.some.injEq] at h
   simp only [Bool.and_eq_true,decide_eq_true_eq] at hb
   obtain ⟨h1,h2,h3⟩:=hb
   refine ⟨xs,i.toNat,j.toNat,?_,h.symm,by omega,by omega⟩
   rw [Int.toNat_of_nonneg h1,Int.toNat_of_nonneg (by omega)]
 ·cases h
end Dn
/-
  Functions of the library as table entries. Conditions: none.
-/
set_option linter.unusedVariables false
namespace Dn
open Go
def fZ (size bytes:Nat):List MV→Option MV
 |[.list xs]=>bif tk size xs&&Nat.ble (xs.length *bytes) (2^46) then some (.fresh xs) else none
 |_=>none
def jD (bytes:Nat):List MV→Option MV
 |[.fresh xs,.i .i64 i,.fresh ys]=>bif decide (0≤i)&&(Nat.ble i.toNat xs.length&&(!ys.isEmpty&&Nat.ble ((xs.length+ys.length) *bytes) (2^46))) then some (.fresh (xs.take i.toNat++ys++xs.drop i.toNat)) else none
 |_=>none
theorem sP {size bytes:Nat} {ms:List MV} {r:MV} (h:fZ size bytes ms=some r): ∃xs,ms=[.list xs]∧r= .fresh xs∧tk size xs=true∧xs.length *bytes≤2^46:=by
 unfold fZ at h
 split at h
 ·rename_i xs
  cases hb:tk size xs&&Nat.ble (xs.length *bytes) (2^46) with
  |false=>simp [hb] at h
  |true=>
   simp only [hb,cond_true,Option.some.injEq] at h
   simp only [Bool.and_eq_true] at hb
   exact ⟨xs,rfl,h.symm,hb.1,Nat.le_of_ble_eq_true hb.2⟩
 ·cases h
theorem vt {bytes:Nat} {ms:List MV} {r:MV} (h:jD bytes ms=some r): ∃xs ys i,ms=[.fresh xs,.i .i64 ((i:Nat):Int),.fresh ys]∧r= .fresh (xs.take i++ys++xs.drop i)∧i≤xs.length∧ys≠[]∧(xs.length+ys.length) *bytes≤2^46:=by
 unfold jD at h
 split at h
 ·rename_i xs i ys
  cases hb:decide (0≤i)&&(Nat.ble i.toNat xs.length&&(!ys.isEmpty&&Nat.ble ((xs.length+ys.length) *bytes) (2^46))) with
  |false=>rw [hb] at h;cases h
  |true=>
   simp only [hb,cond_true,Option.some.injEq] at h
   simp only [Bool.and_eq_true,decide_eq_true_eq,Bool.not_eq_true'] at hb
   obtain ⟨h1,h2,h3,h4⟩:=hb
   refine ⟨xs,ys,i.toNat,?_,h.symm,Nat.le_of_ble_eq_true h2,?_,Nat.le_of_ble_eq_true h4⟩
   ·rw [Int.toNat_of_nonneg h1]
   ·intro hy;subst hy;simp at h3
 ·cases h
theorem ap.none (P:Program) (c:Ctx):ap P c (fun _ _=>Option.none):=⟨fun f ms r h=>by cases h⟩
theorem ap.DC {P:Program} {c:Ctx} {g:Nat→List MV→Option MV} {n:Nat} {F:List MV→Option MV} (h:ap P c g) (AJ: ∀f,c.key f=f) (hF: ∀ms r,F ms=some r→kM P c n ms r):ap P c (bl n F g):=
 h.add (fun f ms r hk hr=>by
  rw [AJ] at hk
  rw [hk]
  exact hF ms r hr)
def vu:Code→List Oper
 | .region _ ops _=>ops.toList
 | .seq x y=>vu x++vu y
 | .cond _ x y=>vu x++vu y
 | .block _ x=>vu x
 | .loop x=>vu x
 |_=>[]
def iR (fn:Func) (d:Oper) (k:Nat):Oper:=match fn.body with|some c=>(vu c).getD k d|none=>d
def Kj (o:Nat→Oper):Code:= .seq (.region 18 #[o 83,o 84,o 85,o 86,o 87] false) (.seq (.region 19 #[o 88,o 89,o 90,o 91,o 92] false) (.seq (.region 20 #[o 93,o 94] false) .ret))
def iS:Oper:={dst:=none,op:= .move (.tmp 0),type:=0,pos:= "",after:= #[],guard:=none}
end Dn
/-
  Reasoning about functions on values. Conditions: none.
-/
set_option linter.unusedVariables false
namespace Dn
open Go
section
variable {R:Type}
@[simp] theorem ant (k : IntKind) (x : Int) (K : Int → Option R) : gI k (.i k x) K = K x := by simp [gI]
@[simp] theorem aA {α : Type} (a : α) (K : α → Option R) : bd (some a) K = K a := (rfl)
@[simp] theorem alG (a b : Nat) : Nat.beq a b = decide (a = b) := fm a b
@[simp] theorem afC (K : Option R) : cU true K = K := (rfl)
@[simp] theorem afD (x y : Option R) : a7 true x y = x := (rfl)
@[simp] theorem adF (x y : Option R) : a7 false x y = y := (rfl)
end
theorem YE {x:Int} (h1: -9223372036854775808≤x) (h2:x≤9223372036854775807):IntKind.wrap .i64 x=x:=by rw [IntKind.wrap_i64];omega
theorem Vn {i j:Nat} (h:i+j<2^62):IntKind.wrap .i64 (Int.fdiv (IntKind.wrap .u64 (IntKind.wrap .i64 ((i:Int)+(j:Int)))) (2^min (Int.toNat 1) (IntKind.bits .u64)))=(((i+j)/2:Nat):Int):=by
 have h1:IntKind.wrap .i64 ((i:Int)+(j:Int))=((i+j:Nat):Int):=by rw [IntKind.wrap_i64];omega
 have h2:IntKind.wrap .u64 ((i+j:Nat):Int)=((i+j:Nat):Int):=by
  have:IntKind.wrap .u64 ((i+j:Nat):Int)=((i+j:Nat):Int)%18446744073709551616:=by simp [IntKind.wrap,IntKind.signed,IntKind.bits]
  rw [this];omega
 have h3:(2:Int)^min (Int.toNat 1) (IntKind.bits .u64)=2:=by decide
 rw [h1,h2,h3,Int.fdiv_eq_ediv_of_nonneg _ (by omega)]
 rw [IntKind.wrap_i64];omega
section
variable {σ R:Type} {body:σ→Option (Sum σ R)}
theorem IF {n:Nat} {s:σ} {r:R} (h:iter body n s=some r): ∀{m:Nat},n≤m→iter body m s=some r:=by
 induction n generalizing s with
 |zero=>cases h
 |succ n ih=>
  intro m hm
  obtain ⟨m,rfl⟩: ∃k,m=k+1:=⟨m-1,by omega⟩
  simp only [iter] at h⊢
  cases hb:body s with
  |none=>rw [hb] at h;cases h
  |some x=>
   rw [hb] at h
   cases x with
   |inl s'=>exact ih h (by omega)
   |inr r'=>exact h
theorem qw {n:Nat} {s:σ} {r:R} (h:iter body n s=some r):Loop body s=some r:=by
 have he: ∃r n,iter body n s=some r:=⟨r,n,h⟩
 unfold Loop
 rw [dif_pos he]
 obtain ⟨m,hm⟩:=Classical.choose_spec he
 have h1:=IF h (Nat.le_max_left n m)
 have h2:=IF hm (Nat.le_max_right n m)
 rw [h1] at h2
 exact h2.symm
theorem Vo (I:σ→Prop) (μ:σ→Nat) (Q:R→Prop) (h: ∀s,I s→(∃s',body s=some (.inl s')∧I s'∧μ s'<μ s)∨(∃r,body s=some (.inr r)∧Q r)) {s:σ} (hs:I s): ∃r,Loop body s=some r∧Q r:=by
 have key: ∀k s,I s→μ s<k→ ∃r,iter body k s=some r∧Q r:=by
  intro k
  induction k with
  |zero=>intro s _ h;omega
  |succ k ih=>
   intro s hs hk
   rcases h s hs with ⟨s',e,hi,hm⟩|⟨r,e,hq⟩
   ·obtain ⟨r,e2,hq⟩:=ih s' hi (by omega)
    exact ⟨r,by simp only [iter,e];exact e2,hq⟩
   ·exact ⟨r,by simp only [iter,e],hq⟩
 obtain ⟨r,e,hq⟩:=key (μ s+1) s hs (by omega)
 exact ⟨r,qw e,hq⟩
theorem Vp (S:Nat→σ) (N:Nat) (Q:R→Prop) (P:Nat→Prop) (h0:P 0) (h: ∀k,k<N→P k→(body (S k)=some (.inl (S (k+1)))∧P (k+1))∨(∃r,body (S k)=some (.inr r)∧Q r)) (he:P N→ ∃r,body (S N)=some (.inr r)∧Q r): ∃r,Loop body (S 0)=some r∧Q r:=by
 have key: ∀d k,k+d=N→P k→ ∃r,iter body (d+1) (S k)=some r∧Q r:=by
  intro d
  induction d with
  |zero=>
   intro k hk hp
   have:k=N:=by omega
   subst this
   obtain ⟨r,e,hq⟩:=he hp
   exact ⟨r,by simp only [iter,e],hq⟩
  |succ d ih=>
   intro k hk hp
   rcases h k (by omega) hp with ⟨e,JO⟩|⟨r,e,hq⟩
   ·obtain ⟨r,e2,hq⟩:=ih (k+1) (by omega) JO
    exact ⟨r,by rw [iter,e];exact e2,hq⟩
   ·exact ⟨r,by rw [iter,e],hq⟩
 obtain ⟨r,e,hq⟩:=key N 0 (by omega) h0
 exact ⟨r,qw e,hq⟩
end
end Dn
/-
  From functions on plain values to functions on typed values. Conditions: none.
-/
set_option linter.unusedVariables false
namespace Dn
open Go
def bG {R:Type} (l:List MV) (K:Nat→Option R):Option R:=K l.length
def ix {α R:Type} (l:List α) (i:Int) (K:α→Option R):Option R:=
 match (if 0≤i then l[i.toNat]? else none) with|some x=>K x|none=>none
def jE {α:Type} (bytes:Nat) (l:List α):Option (List α):=if l.length *bytes≤2^46 then some l else none
def yw {α:Type} (xs:List α) (i j:Int):Option (List α):=if 0≤i∧i≤j∧j≤(xs.length:Int) then some (xs.take i.toNat++xs.drop j.toNat) else none
def qx {α:Type} (bytes:Nat) (xs:List α) (i:Int) (ys:List α):Option (List α):=
 if 0≤i∧i.toNat≤xs.length∧ys≠[]∧(xs.length+ys.length) *bytes≤2^46 then some (xs.take i.toNat++ys++xs.drop i.toNat) else none
@[reducible] def Md {α : Type} (f : α → MV) (l : List α) : MV := .list (l.map f)
@[reducible] def RT {α : Type} (f : α → MV) (l : List α) : MV := .fresh (l.map f)
def Sm {A B:Type} (g:B→A) (x:Option A) (y:Option B):Prop:=x=y.map g
section
variable {A B A' B' α:Type} {g:B→A} {T:Option B}
theorem Sm.at {x x':Option A} (e:x=x') (h:Sm g x' T):Sm g x T:=e▸h
theorem aM {l:List MV} {K:List MV→Option A} (h:Sm g (K l) T):Sm g (gA (.agg l) K) T:=h
theorem aR {x:Bool} {K:Bool→Option A} (h:Sm g (K x) T):Sm g (gB (.b x) K) T:=h
theorem bn {x:List UInt8} {K:List UInt8→Option A} (h:Sm g (K x) T):Sm g (gS (.s x) K) T:=h
theorem aZ {x:List MV} {K:List MV→Option A} (h:Sm g (K x) T):Sm g (gL (.list x) K) T:=h
theorem IG {x:MV} {outs:List MV} {K:MV→List MV→Option A} (h:Sm g (K x outs) T):Sm g (gW (.ey x outs) K) T:=h
theorem cy {x:List MV} {K:List MV→Option A} (h:Sm g (K x) T):Sm g (gT (.cN x) K) T:=h
theorem rf {x:List MV} {K:List MV→Option A} (h:Sm g (K x) T):Sm g (gF (.fresh x) K) T:=h
theorem IH {x:List MV} {K:List MV→Option A} (h:Sm g (K x) T):Sm g (gP (.rp x) K) T:=h
theorem tA {f:Nat} {x:List MV} {K:Nat→List MV→Option A} (h:Sm g (K f x) T):Sm g (Ny (.func f x) K) T:=h
theorem tB {f:Nat} {x:List MV} {K:MV→Option A} (h:Sm g (K (.func f x)) T):Sm g (gR (.func f x) K) T:=h
theorem aI {k:IntKind} {n:Int} {K:Int→Option A} (h:Sm g (K n) T):Sm g (gI k (.i k n) K) T:=by simpa using h
theorem ah {m:MV} {r:List MV} {K:MV→List MV→Option A} (h:Sm g (K m r) T):Sm g (gC (m::r) K) T:=h
theorem aq {K:Option A} (h:Sm g K T):Sm g (gN [] K) T:=h
theorem aj {x:Option A'} {y:Option B'} {f:B'→A'} {K:A'→Option A} {K':B'→Option B} (h:Sm f x y) (hk: ∀b,Sm g (K (f b)) (K' b)):Sm g (bd x K) (bd y K'):=by
 unfold Sm at h;subst h
 cases y with
 |none=>rfl
 |some b=>exact hk b
theorem aB {p:Prop} [Decidable p] {X Y:Option A} {X' Y':Option B} (h1:Sm g X X') (h2:Sm g Y Y'):Sm g (a7 (decide p) X Y) (if p then X' else Y'):=by
 by_cases h:p<;>simpa [h] using (by assumption)
theorem aF {c:Bool} {X Y:Option A} {X' Y':Option B} (h1:Sm g X X') (h2:Sm g Y Y'):Sm g (a7 c X Y) (if c then X' else Y'):=by
 cases c<;>simpa using (by assumption)
theorem cI {p:Prop} [Decidable p] {X:Option A} {X':Option B} (h1:Sm g X X'):Sm g (cU (decide p) X) (if p then X' else none):=by
 by_cases h:p
 ·simpa [h] using h1
 ·simp [h,cU,Sm]
theorem bP {c:Bool} {X:Option A} (hc:c=true) (h:Sm g X T):Sm g (cU c X) T:=by subst hc;exact h
theorem eE {c:Bool} {X Y:Option A} (hc:c=true) (h:Sm g X T):Sm g (a7 c X Y) T:=by subst hc;exact h
theorem eF {c:Bool} {X Y:Option A} (hc:c=false) (h:Sm g Y T):Sm g (a7 c X Y) T:=by subst hc;exact h
theorem aH {l:List MV} {n:Nat} {K:Nat→Option A} (e:l.length=n) (h:Sm g (K n) T):Sm g (bG l K) T:=by subst e;exact h
theorem bj {l:List MV} {M:List α} {f:α→MV} {i:Int} {K:MV→Option A} {K':α→Option B} (e:l=M.map f) (h: ∀y,Sm g (K (f y)) (K' y)):Sm g (idx l i K) (ix M i K'):=by
 subst e
 unfold idx aa9 ix
 by_cases hi:0≤i
 ·simp only [hi,if_true,List.getElem?_map]
  cases M[i.toNat]? with
  |none=>rfl
  |some y=>exact h y
 ·simp only [hi,if_false];rfl
theorem D6 {X:Option A} {T:Option B} (h:Sm g X T):Sm g (both X X) T:=by
 have e:both X X=X:=by unfold both;rw [if_pos rfl]
 rw [e];exact h
def OB {R:Type} (l:List Int) (K:List UInt8→Option R):Option R:=if l.all isByte then K (l.map fun n=>UInt8.ofNat n.toNat) else none
theorem Vq {R:Type} {M:List Int}: ∀{K:List UInt8→Option R},JC (M.map (MV.i .u8)) K=OB M K:=by
 induction M with
 |nil=>intro K;rfl
 |cons n M ih=>
  intro K
  simp only [List.map_cons,JC,byK,gI,decide_true,cond_true,ih]
  cases h:isByte n<;>simp [cU,OB,h]
theorem acv {l:List MV} {M:List Int} {K:List UInt8→Option A} {K':List UInt8→Option B} (e:l=M.map (MV.i .u8)) (h: ∀b,Sm g (K b) (K' b)):Sm g (JC l K) (OB M K'):=by
 subst e
 rw [Vq]
 unfold OB
 split
 ·exact h _
 ·rfl
theorem aa {d:A} {a:B} (e:d=g a):Sm g (some d) (some a):=by subst e;rfl
theorem YF:Sm g none none:=rfl
theorem YG {p k:Nat} {K:Nat→Option A} {X:Option B} (h:k=p→Sm g (K p) X):Sm g (G3 [p] k K) (if k=p then X else none):=by
 by_cases hk:k=p
 ·subst hk
  rw [if_pos rfl]
  unfold G3
  rw [show Nat.beq k k=true from Nat.beq_refl k]
  exact h rfl
 ·rw [if_neg hk]
  unfold G3
  rw [show Nat.beq k p=false from by simpa using hk]
  rfl
theorem oU {p q k:Nat} {r:List Nat} {K:Nat→Option A} {X Y:Option B} (h:k=p→Sm g (K p) X) (h2:Sm g (G3 (q::r) k K) Y):Sm g (G3 (p::q::r) k K) (if k=p then X else Y):=by
 by_cases hk:k=p
 ·subst hk
  rw [if_pos rfl]
  unfold G3
  rw [show Nat.beq k k=true from Nat.beq_refl k]
  exact h rfl
 ·rw [if_neg hk]
  unfold G3
  rw [show Nat.beq k p=false from by simpa using hk]
  exact h2
theorem Kk {n:Nat} {l:List MV} {M:List α} {f:α→MV} (e:l=M.map f) (h: ∀x,(f x).w=n):tk n l=true:=by
 subst e
 unfold tk
 rw [List.all_map,List.all_eq_true]
 intro x _
 simp [h x]
theorem Me {σ σ' ρ ρ':Type} {e:σ'→σ} {f:ρ'→ρ} {K:σ→Option (Sum σ ρ)} {K':σ'→Option (Sum σ' ρ')} (h: ∀s,Sm (Sum.map e f) (K (e s)) (K' s)) (n:Nat) (s:σ'):iter K n (e s)=(iter K' n s).map f:=by
 induction n generalizing s with
 |zero=>rfl
 |succ n ih=>
  have:=h s
  unfold Sm at this
  simp only [iter,this]
  cases K' s with
  |none=>rfl
  |some x=>cases x with
   |inl s'=>exact ih s'
   |inr r=>rfl
theorem II {σ ρ:Type} {K:σ→Option (Sum σ ρ)} {s:σ} (h: ∀n,iter K n s=none):Loop K s=none:=by
 unfold Loop
 rw [dif_neg]
 rintro ⟨r,n,e⟩
 rw [h] at e;cases e
theorem bM {σ σ' ρ ρ':Type} {K:σ→Option (Sum σ ρ)} {K':σ'→Option (Sum σ' ρ')} {d0:σ} {s0:σ'} (e:σ'→σ) (f:ρ'→ρ) (e0:d0=e s0) (h: ∀s,Sm (Sum.map e f) (K (e s)) (K' s)):Sm f (Loop K d0) (Loop K' s0):=by
 subst e0
 unfold Sm
 by_cases hx: ∃r n,iter K' n s0=some r
 ·obtain ⟨r,n,hn⟩:=hx
  rw [qw hn]
  have:iter K n (e s0)=some (f r):=by rw [Me h,hn];rfl
  rw [qw this];rfl
 ·have h1: ∀n,iter K' n s0=none:=fun n=>by
   cases hn:iter K' n s0 with
   |none=>rfl
   |some r=>exact absurd ⟨r,n,hn⟩ hx
  rw [II h1,II fun n=>by rw [Me h,h1];rfl];rfl
theorem qy {size bytes:Nat} {f:α→MV} (hw: ∀x,(f x).w=size) (l:List α):Sm (RT f) (fZ size bytes [.list (l.map f)]) (jE bytes l):=by
 unfold Sm fZ jE
 simp only [Kk (rfl:l.map f=l.map f) hw,Bool.true_and,List.length_map]
 by_cases h:l.length *bytes≤2^46
 ·rw [show Nat.ble (l.length *bytes) (2^46)=true from Nat.ble_eq_true_of_le h,if_pos h];rfl
 ·rw [show Nat.ble (l.length *bytes) (2^46)=false from by rw [Bool.eq_false_iff];intro hb;exact h (Nat.le_of_ble_eq_true hb),if_neg h];rfl
theorem Mf {f:α→MV} (xs:List α) (i j:Int):Sm (RT f) (oT [.fresh (xs.map f),.i .i64 i,.i .i64 j]) (yw xs i j):=by
 unfold Sm oT yw
 simp only [List.length_map]
 by_cases h1:0≤i<;>by_cases h2:i≤j<;>by_cases h3:j≤(xs.length:Int)<;>simp [h1,h2,h3,RT]
theorem Fk {bytes:Nat} {f:α→MV} (xs:List α) (i:Int) (ys:List α):Sm (RT f) (jD bytes [.fresh (xs.map f),.i .i64 i,.fresh (ys.map f)]) (qx bytes xs i ys):=by
 unfold Sm jD qx
 simp only [List.length_map]
 have hb: ∀a b:Nat,Nat.ble a b=decide (a≤b):=fun a b=>by
  by_cases h:a≤b
  ·rw [Nat.ble_eq_true_of_le h,decide_eq_true h]
  ·rw [decide_eq_false h,Bool.eq_false_iff];intro hh;exact h (Nat.le_of_ble_eq_true hh)
 rw [hb,hb]
 have he:(ys.map f).isEmpty=decide (ys=[]):=by cases ys<;>simp
 rw [he]
 by_cases h1:0≤i<;>by_cases h2:i.toNat≤xs.length<;>by_cases h3:ys=[]<;>by_cases h4:(xs.length+ys.length) *bytes≤2^46<;>simp [h1,h2,h3,h4,RT]
end
abbrev OC (f:Option MV):List MV→Option MV|[]=>f|_=>none
abbrev nv (f:MV→Option MV):List MV→Option MV|[a]=>f a|_=>none
abbrev fa (f:MV→MV→Option MV):List MV→Option MV|[a,b]=>f a b|_=>none
abbrev Fl (f:MV→MV→MV→Option MV):List MV→Option MV|[a,b,c]=>f a b c|_=>none
abbrev YH (f:MV→MV→MV→MV→Option MV):List MV→Option MV|[a,b,c,d]=>f a b c d|_=>none
abbrev acw (f:MV→MV→MV→MV→MV→Option MV):List MV→Option MV|[a,b,c,d,e]=>f a b c d e|_=>none
theorem A5 {f:Option MV} {B:List MV→Option MV} (h:B []=f) {ms:List MV} {r:MV} (e:OC f ms=some r):B ms=some r:=by
 unfold OC at e;split at e
 ·rw [h];exact e
 ·cases e
theorem dA {f:MV→Option MV} {B:List MV→Option MV} (h: ∀a,B [a]=f a) {ms:List MV} {r:MV} (e:nv f ms=some r):B ms=some r:=by
 unfold nv at e;split at e
 ·rw [h];exact e
 ·cases e
theorem bA {f:MV→MV→Option MV} {B:List MV→Option MV} (h: ∀a b,B [a,b]=f a b) {ms:List MV} {r:MV} (e:fa f ms=some r):B ms=some r:=by
 unfold fa at e;split at e
 ·rw [h];exact e
 ·cases e
theorem qz {f:MV→MV→MV→Option MV} {B:List MV→Option MV} (h: ∀a b c,B [a,b,c]=f a b c) {ms:List MV} {r:MV} (e:Fl f ms=some r):B ms=some r:=by
 unfold Fl at e;split at e
 ·rw [h];exact e
 ·cases e
theorem Qr {f:MV→MV→MV→MV→Option MV} {B:List MV→Option MV} (h: ∀a b c d,B [a,b,c,d]=f a b c d) {ms:List MV} {r:MV} (e:YH f ms=some r):B ms=some r:=by
 unfold YH at e;split at e
 ·rw [h];exact e
 ·cases e
theorem YI {f:MV→MV→MV→MV→MV→Option MV} {B:List MV→Option MV} (h: ∀a b c d i,B [a,b,c,d,i]=f a b c d i) {ms:List MV} {r:MV} (e:acw f ms=some r):B ms=some r:=by
 unfold acw at e;split at e
 ·rw [h];exact e
 ·cases e
theorem ap.fn {P:Program} {c c':Ctx} {g:Nat→List MV→Option MV} {n:Nat} {fn:Func} {b8:List (List Kd)} {F:List MV→Option MV} (h:ap P c g) (hl:AY c c') (hgg:c'.g=g) (r8:kK P c.ti) (iV:NR P c.ti) (JL: ∀t k,c.fk t=some k→P.underlying t=some (.float k)) (P6:B4 P c) (L7:P.follows .mixedOrders=true) (Ke:vq P c)
 (hf:P.funcs[n]? =some fn) (hh:L8 c' n fn b8=true) (AJ: ∀f,c.key f=f) (hF: ∀{ms r},F ms=some r→HX c' b8 Option.none fn ms=some r):ap P c (bl n F g):=by
 have hb:=ap.body h hl hgg r8 iV JL P6 L7 Ke hf hh AJ
 refine h.add (fun f ms r hk hr=> ?_)
 refine hb.all f ms r ?_
 unfold bl
 rw [hk]
 simp [hF hr]
def A6 {α σ:Type} (p:α→σ→Option (Bool×σ)):σ→List α→Option (List α×σ)
 |s,[]=>some ([],s)
 |s,x::xs=>bd (p x s) fun q=>bd (A6 p q.2 xs) fun r=>some (if q.1 then r.1 else x::r.1,r.2)
theorem Vr {l:List MV} {α:Type} {M:List α} {f:α→MV} (e:l=M.map f) (h: ∀x,NG (f x)=true):l.all NG=true:=by
 subst e
 rw [List.all_map,List.all_eq_true]
 intro x _
 exact h x
theorem Vs {α σ:Type} {f:α→MV} {lv:σ→List MV} {g:Nat→List MV→Option MV} {k:Nat} {b8:List MV} {p:α→σ→Option (Bool×σ)} (h: ∀x s,Sm (fun r=>MV.ey (.b r.1) (lv r.2)) (g k (f x::(b8++[.cell (.func 0 (lv s))]))) (p x s)): ∀(s:σ) (L:List α),Sm (fun r=>(r.1.map f,lv r.2)) (lZ (HV g k b8) (lv s) (L.map f)) (A6 p s L)
 |s,[]=>rfl
 |s,x::xs=>by
  have hx:=h x s
  unfold Sm at hx⊢
  simp only [List.map_cons,lZ,HV,A6,hx]
  cases p x s with
  |none=>rfl
  |some q=>
   have ih:=Vs h q.2 xs
   unfold Sm at ih
   simp only [Option.map_some,ih]
   show _=Option.map _ (bd (A6 p q.2 xs) fun r=>_)
   cases A6 p q.2 xs with
   |none=>rfl
   |some r=>obtain ⟨b,s'⟩:=q;cases b<;>rfl
end Dn
/-
  What functions of package strings yield: plain and typed. Conditions: none.
-/
set_option linter.unusedSimpArgs false
set_option linter.unusedVariables false
namespace Dn
open Go
def bT (c:UInt8):List UInt8→List (List UInt8)
 |[]=>[[]]
 |x::l=>if x=c then []::bT c l else match bT c l with
  |p::r=>(x::p)::r
  |[]=>[[x]]
def Fm:List MV→Option MV
 |[.s a,.s b]=>bif (Nat.ble 1 a.length&&Nat.ble a.length (2^46))&&(Nat.ble 2 b.length&&(Nat.ble b.length 1000&&b.all fun x=>decide (x.toNat<128))) then some (.s (Lib.trimS a b)) else none
 |_=>none
def rh:List MV→Option MV
 |[.s a,.i .i32 r]=>bif decide (0≤r∧r<128) then some (.b (decide (0≤Lib.indexByte a r.toNat.toUInt8))) else none
 |_=>none
def xx:List MV→Option MV
 |[.s a,.s [c]]=>bif Nat.ble a.length 4294967280 then some (.fresh ((bT c a).map MV.s)) else none
 |_=>none
def IJ (a b:List UInt8):Option (List UInt8):=bif (Nat.ble 1 a.length&&Nat.ble a.length (2^46))&&(Nat.ble 2 b.length&&(Nat.ble b.length 1000&&b.all fun x=>decide (x.toNat<128))) then some (Lib.trimS a b) else none
def A7 (a:List UInt8) (r:Int):Option Bool:=bif decide (0≤r∧r<128) then some (decide (0≤Lib.indexByte a r.toNat.toUInt8)) else none
def Kl (a s:List UInt8):Option (List (List UInt8)):=match s with
 |[c]=>bif Nat.ble a.length 4294967280 then some (bT c a) else none
 |_=>none
theorem acx (a b:List UInt8):Sm MV.s (Fm [.s a,.s b]) (IJ a b):=by
 unfold Sm Fm IJ
 dsimp only
 cases (Nat.ble 1 a.length&&Nat.ble a.length (2^46))&&(Nat.ble 2 b.length&&(Nat.ble b.length 1000&&b.all fun x=>decide (x.toNat<128)))<;>rfl
theorem RU (a:List UInt8) (r:Int):Sm MV.b (rh [.s a,.i .i32 r]) (A7 a r):=by
 unfold Sm rh A7
 dsimp only
 cases decide (0≤r∧r<128)<;>rfl
theorem YJ (a s:List UInt8):Sm (RT MV.s) (xx [.s a,.s s]) (Kl a s):=by
 unfold Sm Kl
 split
 ·rename_i c
  unfold xx
  dsimp only
  cases Nat.ble a.length 4294967280<;>rfl
 ·rename_i h
  unfold xx
  split
  ·rename_i h2
   simp only [List.cons.injEq,MV.s.injEq,and_true] at h2
   exact absurd h2.2 (h _)
  ·rfl
end Dn
