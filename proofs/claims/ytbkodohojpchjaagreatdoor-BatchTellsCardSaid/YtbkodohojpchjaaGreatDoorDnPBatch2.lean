import Derived.Test.YtbkodohojpchjaaGreatDoorDnPBatch
/-
  Batches as bytes: both ways. Conditions: none.
-/
set_option linter.unusedVariables false
set_option linter.unusedSimpArgs false
open List renaming replicate→aQ,length_append→sh,append_assoc→AI,nil_append→AT,length_singleton→By,length_replicate→BY
open Option.some renaming injEq→AS,inj→No
open Prod.mk renaming injEq→IN
open Int renaming toNat_natCast→IT
open Go Dn
namespace Dn.S
def ik (o:ab):Prop:=cE o=some true
noncomputable instance (o:ab):Decidable (ik o):=Classical.propDecidable _
theorem ik.short {o:ab}(h:ik o):o.Path.length<=100/\o.Value.length<=1000:=by obtain ⟨b,e,hb⟩:=yu o;rw [h] at e;obtain rfl:=No e;exact hb rfl
theorem M3 (o:ab):cE o=some (decide (ik o)):=by
 obtain ⟨b,e,_⟩:=yu o;rw [e];cases b with
 |true=>rw [decide_eq_true (show ik o from e)]
 |false=>rw [decide_eq_false (λh:ik o=>by rw [ik,e] at h;cases h)]
def Di (l:List ab):List Int:=(l.map jR).flatten
def Hq (l:List ab):List Int:=zW l.length++Di l
theorem FP (l:List ab):ju (Di l):=by
 induction l with
 |nil=>intro x hx;cases hx
 |cons o l ih=>exact (LA o).app ih
theorem Ld {l:List ab}(hN: ∀o∈l,Df o)(hl:l.length<=100): ∀(todo done:List ab) (b:List Int),l=done++todo->b.length<=2^41+1200 *done.length-> Loop (eI l) (b,(done.length:Int))=some (if∀o∈todo,ik o then .inl (b++Di todo) else .inr ([],1)):=by
 intro todo;induction todo with
 |nil=>intro done b e hb;refine cW ?_;unfold eI;simp only;rw [if_neg (by rw [e];simp),if_pos (by simp)];simp [Di]
 |cons o todo ih=>
  intro done b e hb;have hlen:l.length=done.length+todo.length+1:=by rw [e];simp;omega
  have cz:done.length<l.length:=by omega
  have fK:l[done.length]=o:=by simp only [e];simp
  have b9:eI l (b,(done.length:Int))=if ik o then some (.inl (b++jR o,((done++[o]).length:Int))) else some (.inr (.inr ([],1))):=by
   unfold eI;simp only;rw [if_pos (by omega),dQ cz,fK,M3,aL];by_cases hm:ik o
   ·have hs:=hm.short;rw [decide_eq_true hm,if_neg (by simp),if_pos hm,OU (by omega) (hN o (by rw [e];simp)) (by omega) (by omega),aL,wrap64 (by omega) (by omega)];simp
   ·rw [decide_eq_false hm,if_pos (by simp),if_neg hm]
  by_cases hm:ik o
  ·rw [if_pos hm] at b9;refine eQ b9 ?_;have h1:=Dg o;have hs:=hm.short;rw [ih (done++[o]) (b++jR o) (by rw [e];simp) (by rw [sh,sh,By];omega)];have hq:(∀x∈o::todo,ik x)↔ ∀x∈todo,ik x:=by simp [hm]
   by_cases ht: ∀x∈todo,ik x
   ·rw [if_pos ht,if_pos (hq.2 ht),AI];rfl
   ·rw [if_neg ht,if_neg λh=>ht (hq.1 h)]
  ·rw [if_neg hm] at b9;rw [if_neg λh=>hm (h o (by simp))];exact cW b9
theorem FQ {l:List ab}(hN: ∀o∈l,Df o)(hl:l.length<=100):gY l=some (if 10<l.length then ([],5) else if∀o∈l,ik o then (C7 (Hq l),0) else ([],1)):=by
 unfold gY;by_cases rb:10<l.length
 ·rw [if_pos (by omega),if_pos rb]
 rw [if_neg (by omega),if_neg rb];have hw:IntKind.wrap .u64 (l.length:Int)=((l.length:Nat):Int):=by rw [kw];omega
 have hp:=pB l.length;have hk:=jQ l.length;rw [hw,yr (by simp) (by omega),aL,AT];have:=Ld hN hl l [] (zW l.length) (by simp) (by simp;omega);rw [show ((([]:List ab).length:Nat):Int)=0 from rfl] at this;rw [this,aL];by_cases hm: ∀o∈l,ik o
 ·rw [if_pos hm,if_pos hm];simp only;rw [C8 ((xm _).app (FP l))];rfl
 ·rw [if_neg hm,if_neg hm]
noncomputable def jg:Nat->List Int->Option (List ab×List Int)
 |0,b=>some ([],b)
 |n+1,b=>(match cC b with
  |some (o,r)=>if ik o then (match jg n r with
   |some (l,r)=>some (o::l,r)
   |none=>none) else none
  |none=>none)
theorem Dj {b:List Int}(hb:ju b){o:ab}{r:List Int}(h:cC b=some (o,r)):ju r/\r.length<=b.length:=by obtain ⟨e,_,h2,_⟩:=Dh hb h;exact ⟨h2,by rw [e,sh];omega⟩
theorem JJ: ∀{n:Nat} {b:List Int} {l:List ab} {r:List Int},ju b->jg n b=some (l,r)->b=Di l++r/\l.length=n/\ ∀o∈l,Df o/\ik o:=by
 intro n;induction n with
 |zero=>intro b l r hb h;simp only [jg,AS,IN] at h;obtain ⟨rfl,rfl⟩:=h;exact ⟨rfl,rfl,by simp⟩
 |succ n ih=>
  intro b l r hb h;rw [jg] at h;split at h;rotate_left
  ·cases h
  rename_i o r1 h1;obtain ⟨e1,n1,b1,_⟩:=Dh hb h1;split at h;rotate_left
  ·cases h
  rename_i hm;split at h;rotate_left
  ·cases h
  rename_i l2 r2 h2;simp only [AS,IN] at h;obtain ⟨rfl,rfl⟩:=h;obtain ⟨e2,l2,a2⟩:=ih b1 h2;refine ⟨by rw [e1,e2,<-AI];rfl,by rw [List.length_cons,l2],λx hx=> ?_⟩;rcases List.mem_cons.1 hx with rfl|hx
  ·exact ⟨n1,hm⟩
  ·exact a2 x hx
abbrev zO:ab:=⟨0,0,0,[],[],0,0,0⟩
theorem agX {rA:Int×List Int×Int}{n:Nat}(hn:rA.1=(n:Int))(agY:n<=10): ∀(m:Nat) (done:List ab) (r:List Int),ju r->r.length<2^40->done.length+m=n-> Loop (eK rA) (r,done++aQ m zO,(done.length:Int))=some (match jg m r with|some (l,r')=> .inl (r',done++l)|none=> .inr ([],3)):=by
 intro m;induction m with
 |zero=>intro done r hb hl e;refine cW ?_;unfold eK;simp only;rw [if_neg (by rw [BY,hn];omega)];simp [jg]
 |succ m ih=>
  intro done r hb hl e;have IA:done.length<(done++aQ (m+1) zO).length:=by simp
  obtain ⟨x,ex,hx⟩:=Ek hb hl;have b9:eK rA (r,done++aQ (m+1) zO,(done.length:Int))=if x.2.2=0 then some (.inl (x.2.1,(done++[x.1])++aQ m zO,((done++[x.1]).length:Int))) else some (.inr (.inr ([],3))):=by
   unfold eK;simp only;rw [if_pos (by rw [BY,hn];omega),ex,aL,dQ IA];by_cases he:x.2.2=0
   ·rw [if_neg (by simp [he]),if_pos he,wrap64 (by omega) (by omega)];have hs:(done++aQ (m+1) zO).set (Int.toNat (done.length:Int)) x.1=(done++[x.1])++aQ m zO:=by rw [IT,List.set_append_right _ _ (Nat.le_refl _),Nat.sub_self,List.replicate_succ,List.set_cons_zero,AI];rfl
    rw [hs];simp
   ·rw [if_pos (by simp [he]),if_neg he]
  rw [jg];rcases hx with ⟨o,rest,t0,⟨hm,rfl⟩|⟨hm,he⟩⟩|⟨t0,he⟩
  ·rw [if_pos rfl] at b9;refine eQ b9 ?_;obtain ⟨b2,l2⟩:=Dj hb t0;rw [ih (done++[o]) rest b2 (by omega) (by rw [sh,By];omega),t0];simp only;rw [if_pos (show ik o from hm)];cases jg m rest with
   |none=>rfl
   |some p=>simp
  ·rw [if_neg he] at b9;rw [cW b9,t0];simp only;rw [if_neg λh:ik o=>by rw [ik,hm] at h;cases h]
  ·rw [if_neg he] at b9;rw [cW b9,t0]
theorem yv (s:List UInt8)(hs:s.length<2^40):ea s=some (match fY (gj s) with
 |some (n,r)=>if 10<n then ([],3) else (match jg n r with
  |some (l,r')=>if r'=[] then (l,0) else ([],3)
  |none=>([],3))
 |none=>([],3)):=by
 have hb:=xp s;have hl:(gj s).length<2^40:=by rw [pC];exact hs
 unfold ea;rw [vF hb hl,aL];unfold TE;cases ht:fY (gj s) with
 |none=>simp only [lL,decide_false,Bool.not_false,if_true,aL]
 |some p=>
  obtain ⟨n,r⟩:=p;obtain ⟨e1,n1,b1⟩:=fp hb ht;have hr:=kz ht;simp only [decide_true,Bool.not_true,Bool.false_eq_true,if_false,aL];by_cases rb:10<n
  ·rw [decide_eq_true (by omega),if_pos rfl,if_pos rb]
  rw [decide_eq_false (by omega),if_neg (by simp),if_neg rb,if_pos ⟨by omega,Int.le_refl _,by omega⟩];have:=agX (rA:=((n:Int),r,0)) (n:=n) rfl (by omega) n [] r b1 (Nat.lt_of_le_of_lt hr hl) (by simp);rw [show ((([]:List ab).length:Nat):Int)=0 from rfl,AT] at this;rw [show Int.toNat (n:Int)=n from IT n,this,aL];cases jg n r with
  |none=>rfl
  |some q=>
   obtain ⟨l,r'⟩:=q;simp only [AT];cases r' with
   |nil=>rfl
   |cons y r'=>rw [if_pos (by simp),if_neg (by simp)]
theorem JK {s:List UInt8}(hs:s.length<2^40){l:List ab}(h:ea s=some (l,0)):l.length<=10/\(∀o∈l,Df o)/\(∀o∈l,ik o)/\C7 (Hq l)=s:=by
 have hb:=xp s;rw [yv s hs] at h;simp only [AS] at h;split at h;rotate_left
 ·simp at h
 rename_i n r ht;obtain ⟨e1,n1,b1⟩:=fp hb ht;split at h
 ·simp at h
 split at h;rotate_left
 ·simp at h
 rename_i l2 r2 h2;obtain ⟨e2,l2',a2⟩:=JJ b1 h2;split at h;rotate_left
 ·simp at h
 rename_i hr;simp only [IN,and_true] at h;subst h hr;refine ⟨by omega,λo ho=>(a2 o ho).1,λo ho=>(a2 o ho).2,?_⟩;rw [List.append_nil] at e2;unfold Hq;rw [l2',<-e2,<-e1,ON]
theorem OV {s:List UInt8}(hs:s.length<2^40):cm (ea s) λr=>r.2=0\/r=([],3):=by
 rw [yv s hs];refine .mk ?_;split
 ·split
  ·exact .inr rfl
  ·split
   ·split
    ·exact .inl rfl
    ·exact .inr rfl
   ·exact .inr rfl
 ·exact .inr rfl
end Dn.S
