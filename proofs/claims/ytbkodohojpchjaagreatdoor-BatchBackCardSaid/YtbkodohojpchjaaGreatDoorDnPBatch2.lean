import Derived.Test.YtbkodohojpchjaaGreatDoorDnPBatch
/- Batches as bytes: both ways. Conditions: none. -/
set_option linter.unusedVariables false
set_option linter.unusedSimpArgs false
open List renaming length_append→bB,replicate→sh,append_assoc→AI,length_cons→AT,nil_append→By,length_singleton→BY,length_replicate→IN,append_nil→OF
open Option.some renaming injEq→AS,inj→aar
open Prod.mk renaming injEq→IT
open Int renaming toNat_natCast→No
open Go Dn
namespace Dn.S
def rl (o:ab):Prop:=fP o=some true
noncomputable instance (o:ab):Decidable (rl o):=Classical.propDecidable _
theorem rl.short {o:ab}(h:rl o):o.Path.length<=100/\o.Value.length<=1000:=by obtain ⟨b,e,hb⟩:=FV o;rw [h] at e;obtain rfl:=aar e;exact hb rfl
theorem adf (o:ab):fP o=some (decide (rl o)):=by
 obtain ⟨b,e,_⟩:=FV o;rw [e];cases b with
 |true=>rw [decide_eq_true (show rl o from e)]
 |false=>rw [decide_eq_false (λh:rl o=>by rw [rl,e] at h;cases h)]
def zj (l:List ab):List Int:=(l.map pk).flatten
def yA (l:List ab):List Int:=Hw l.length++zj l
theorem Nz (l:List ab):qO (zj l):=by
 induction l with
 |nil=>intro x hx;cases hx
 |cons o l ih=>exact (S9 o).app ih
theorem WQ {l:List ab}(h: ∀o∈l,rl o):(zj l).length<=1200 *l.length:=by
 induction l with
 |nil=>simp [zj]
 |cons o l ih=>have h1:=KJ o;have h2:=(h o (by simp)).short;have h3:=ih λx hx=>h x (by simp [hx]);have:zj (o::l)=pk o++zj l:=rfl;rw [this,bB,AT];omega
theorem V2 {l:List ab}(hN: ∀o∈l,LX o)(hl:l.length<=100): ∀(todo done:List ab) (b:List Int),l=done++todo->b.length<=2^41+1200 *done.length-> Loop (fm l) (b,(done.length:Int))=some (if∀o∈todo,rl o then .inl (b++zj todo) else .inr ([],1)):=by
 intro todo;induction todo with
 |nil=>intro done b e hb;refine ub ?_;unfold fm;simp only;rw [if_neg (by rw [e];simp),if_pos (by simp)];simp [zj]
 |cons o todo ih=>
  intro done b e hb;have hlen:l.length=done.length+todo.length+1:=by rw [e];simp;omega
  have dO:done.length<l.length:=by omega
  have oz:l[done.length]=o:=by simp only [e];simp
  have iN:fm l (b,(done.length:Int))=if rl o then some (.inl (b++pk o,((done++[o]).length:Int))) else some (.inr (.inr ([],1))):=by
   unfold fm;simp only;rw [if_pos (by omega),v7 dO,oz,adf,cU];by_cases hm:rl o
   ·have hs:=hm.short;rw [decide_eq_true hm,if_neg (by simp),if_pos hm,WN (by omega) (hN o (by rw [e];simp)) (by omega) (by omega),cU,wrap64 (by omega) (by omega)];simp
   ·rw [decide_eq_false hm,if_pos (by simp),if_neg hm]
  by_cases hm:rl o
  ·rw [if_pos hm] at iN;refine Bz iN ?_;have h1:=KJ o;have hs:=hm.short;rw [ih (done++[o]) (b++pk o) (by rw [e];simp) (by rw [bB,bB,BY];omega)];have hq:(∀x∈o::todo,rl x)↔ ∀x∈todo,rl x:=by simp [hm]
   by_cases ht: ∀x∈todo,rl x
   ·rw [if_pos ht,if_pos (hq.2 ht),AI];rfl
   ·rw [if_neg ht,if_neg λh=>ht (hq.1 h)]
  ·rw [if_neg hm] at iN;rw [if_neg λh=>hm (h o (by simp))];exact ub iN
theorem FW {l:List ab}(hN: ∀o∈l,LX o)(hl:l.length<=100):dP l=some (if 10<l.length then ([],5) else if∀o∈l,rl o then (FP (yA l),0) else ([],1)):=by
 unfold dP;by_cases wg:10<l.length
 ·rw [if_pos (by omega),if_pos wg]
 rw [if_neg (by omega),if_neg wg];have hw:IntKind.wrap .u64 (l.length:Int)=((l.length:Nat):Int):=by rw [FN];omega
 have hp:=AW l.length;have hk:=vo l.length;rw [hw,FQ (by simp) (by omega),cU,By];have:=V2 hN hl l [] (Hw l.length) (by simp) (by simp;omega);rw [show ((([]:List ab).length:Nat):Int)=0 from rfl] at this;rw [this,cU];by_cases hm: ∀o∈l,rl o
 ·rw [if_pos hm,if_pos hm];simp only;rw [QT ((EI _).app (Nz l))];rfl
 ·rw [if_neg hm,if_neg hm]
noncomputable def rD:Nat->List Int->Option (List ab×List Int)
 |0,b=>some ([],b)
 |n+1,b=>(match ei b with
  |some (o,r)=>if rl o then (match rD n r with
   |some (l,r)=>some (o::l,r)
   |none=>none) else none
  |none=>none)
theorem Tb {b:List Int}(hb:qO b){o:ab}{r:List Int}(h:ei b=some (o,r)):qO r/\r.length<=b.length:=by obtain ⟨e,_,h2,_⟩:=KK hb h;exact ⟨h2,by rw [e,bB];omega⟩
theorem Tc {l:List ab}(h: ∀o∈l,LX o/\rl o)(r:List Int):rD l.length (zj l++r)=some (l,r):=by
 induction l with
 |nil=>rfl
 |cons o l ih=>
  obtain ⟨h1,h2⟩:=h o (by simp);have hs:=h2.short;have e:zj (o::l)++r=pk o++(zj l++r):=by rw [<-AI];rfl
  rw [e,AT,rD,WO h1 hs.1 hs.2];simp only;rw [if_pos h2,ih λx hx=>h x (by simp [hx])]
theorem QW: ∀{n:Nat} {b:List Int} {l:List ab} {r:List Int},qO b->rD n b=some (l,r)->b=zj l++r/\l.length=n/\ ∀o∈l,LX o/\rl o:=by
 intro n;induction n with
 |zero=>intro b l r hb h;simp only [rD,AS,IT] at h;obtain ⟨rfl,rfl⟩:=h;exact ⟨rfl,rfl,by simp⟩
 |succ n ih=>
  intro b l r hb h;rw [rD] at h;split at h;rotate_left
  ·cases h
  rename_i o r1 h1;obtain ⟨e1,n1,b1,_⟩:=KK hb h1;split at h;rotate_left
  ·cases h
  rename_i hm;split at h;rotate_left
  ·cases h
  rename_i l2 r2 h2;simp only [AS,IT] at h;obtain ⟨rfl,rfl⟩:=h;obtain ⟨e2,l2,a2⟩:=ih b1 h2;refine ⟨by rw [e1,e2,<-AI];rfl,by rw [AT,l2],λx hx=> ?_⟩;rcases List.mem_cons.1 hx with rfl|hx
  ·exact ⟨n1,hm⟩
  ·exact a2 x hx
abbrev zO:ab:=⟨0,0,0,[],[],0,0,0⟩
theorem anu {rA:Int×List Int×Int}{n:Nat}(hn:rA.1=(n:Int))(ar7:n<=10): ∀(m:Nat) (done:List ab) (r:List Int),qO r->r.length<2^40->done.length+m=n-> Loop (fq rA) (r,done++sh m zO,(done.length:Int))=some (match rD m r with|some (l,r')=> .inl (r',done++l)|none=> .inr ([],3)):=by
 intro m;induction m with
 |zero=>intro done r hb hl e;refine ub ?_;unfold fq;simp only;rw [if_neg (by rw [IN,hn];omega)];simp [rD]
 |succ m ih=>
  intro done r hb hl e;have Hc:done.length<(done++sh (m+1) zO).length:=by simp
  obtain ⟨x,ex,hx⟩:=LY hb hl;have iN:fq rA (r,done++sh (m+1) zO,(done.length:Int))=if x.2.2=0 then some (.inl (x.2.1,(done++[x.1])++sh m zO,((done++[x.1]).length:Int))) else some (.inr (.inr ([],3))):=by
   unfold fq;simp only;rw [if_pos (by rw [IN,hn];omega),ex,cU,v7 Hc];by_cases he:x.2.2=0
   ·rw [if_neg (by simp [he]),if_pos he,wrap64 (by omega) (by omega)];have hs:(done++sh (m+1) zO).set (Int.toNat (done.length:Int)) x.1=(done++[x.1])++sh m zO:=by rw [No,List.set_append_right _ _ (Nat.le_refl _),Nat.sub_self,List.replicate_succ,List.set_cons_zero,AI];rfl
    rw [hs];simp
   ·rw [if_pos (by simp [he]),if_neg he]
  rw [rD];rcases hx with ⟨o,rest,t0,⟨hm,rfl⟩|⟨hm,he⟩⟩|⟨t0,he⟩
  ·rw [if_pos rfl] at iN;refine Bz iN ?_;obtain ⟨b2,l2⟩:=Tb hb t0;rw [ih (done++[o]) rest b2 (by omega) (by rw [bB,BY];omega),t0];simp only;rw [if_pos (show rl o from hm)];cases rD m rest with
   |none=>rfl
   |some p=>simp
  ·rw [if_neg he] at iN;rw [ub iN,t0];simp only;rw [if_neg λh:rl o=>by rw [rl,hm] at h;cases h]
  ·rw [if_neg he] at iN;rw [ub iN,t0]
theorem FX (s:List UInt8)(hs:s.length<2^40):cW s=some (match nu (uu s) with
 |some (n,r)=>if 10<n then ([],3) else (match rD n r with
  |some (l,r')=>if r'=[] then (l,0) else ([],3)
  |none=>([],3))
 |none=>([],3)):=by
 have hb:=KD s;have hl:(uu s).length<2^40:=by rw [xa];exact hs
 unfold cW;rw [CR hb hl,cU];unfold tkB;cases ht:nu (uu s) with
 |none=>simp only [HX,decide_false,Bool.not_false,if_true,cU]
 |some p=>
  obtain ⟨n,r⟩:=p;obtain ⟨e1,n1,b1⟩:=qk hb ht;have hr:=yz ht;simp only [decide_true,Bool.not_true,Bool.false_eq_true,if_false,cU];by_cases wg:10<n
  ·rw [decide_eq_true (by omega),if_pos rfl,if_pos wg]
  rw [decide_eq_false (by omega),if_neg (by simp),if_neg wg,if_pos ⟨by omega,trivial,by omega⟩];have:=anu (rA:=((n:Int),r,0)) (n:=n) rfl (by omega) n [] r b1 (Nat.lt_of_le_of_lt hr hl) (by simp);rw [show ((([]:List ab).length:Nat):Int)=0 from rfl,By] at this;rw [show Int.toNat (n:Int)=n from No n,this,cU];cases rD n r with
  |none=>rfl
  |some q=>
   obtain ⟨l,r'⟩:=q;simp only [By];cases r' with
   |nil=>rfl
   |cons y r'=>rw [if_pos (by simp),if_neg (by simp)]
theorem Td {l:List ab}(hN: ∀o∈l,LX o)(hM: ∀o∈l,rl o)(hl:l.length<=10):cW (FP (yA l))=some (l,0):=by have hb:qO (yA l):=(EI _).app (Nz l);have h1:=WQ hM;have h2:=AW l.length;have h3:=vo l.length;rw [FX _ (by unfold FP yA;rw [List.length_map,bB];omega),Nw hb];unfold yA;rw [FO (by omega)];simp only;rw [if_neg (by omega)];have:=Tc (λo ho=>⟨hN o ho,hM o ho⟩) ([]:List Int) (l:=l);rw [OF] at this;rw [this];rfl
theorem QX {s:List UInt8}(hs:s.length<2^40){l:List ab}(h:cW s=some (l,0)):l.length<=10/\(∀o∈l,LX o)/\(∀o∈l,rl o)/\FP (yA l)=s:=by
 have hb:=KD s;rw [FX s hs] at h;simp only [AS] at h;split at h;rotate_left
 ·simp at h
 rename_i n r ht;obtain ⟨e1,n1,b1⟩:=qk hb ht;split at h
 ·simp at h
 split at h;rotate_left
 ·simp at h
 rename_i l2 r2 h2;obtain ⟨e2,l2',a2⟩:=QW b1 h2;split at h;rotate_left
 ·simp at h
 rename_i hr;simp only [IT,and_true] at h;subst h hr;refine ⟨by omega,λo ho=>(a2 o ho).1,λo ho=>(a2 o ho).2,?_⟩;rw [OF] at e2;unfold yA;rw [l2',<-e2,<-e1,Nv]
theorem BA {s:List UInt8}(hs:s.length<2^40):dQ (cW s) λr=>r.2=0\/r=([],3):=by
 rw [FX s hs];refine .mk ?_;split
 ·split
  ·exact .inr rfl
  ·split
   ·split
    ·exact .inl rfl
    ·exact .inr rfl
   ·exact .inr rfl
 ·exact .inr rfl
end Dn.S
