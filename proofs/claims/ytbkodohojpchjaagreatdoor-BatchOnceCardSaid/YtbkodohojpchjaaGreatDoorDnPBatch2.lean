import Derived.Test.YtbkodohojpchjaaGreatDoorDnPBatch
/- Batches as bytes: both ways. Conditions: none. -/
set_option linter.unusedVariables false
set_option linter.unusedSimpArgs false
open List renaming length_append→bN,replicate→sh,append_assoc→AI,nil_append→AS,length_singleton→AT,length_replicate→By,length_cons→IN
open Int renaming toNat_natCast→BY
open Option.some renaming inj→IT
open Go Dn
namespace Dn.S
def pG (o:aa):Prop:=dC o=some true
noncomputable instance (o:aa):Decidable (pG o):=Classical.propDecidable _
theorem pG.short {o:aa}(h:pG o):o.Path.length<=100/\o.Value.length<=1000:=by obtain ⟨b,e,hb⟩:=E8 o;rw [h] at e;obtain rfl:=IT e;exact hb rfl
theorem aeP (o:aa):dC o=some (decide (pG o)):=by
 obtain ⟨b,e,_⟩:=E8 o;rw [e];cases b with
 |true=>rw [decide_eq_true (show pG o from e)]
 |false=>rw [decide_eq_false (λh:pG o=>by rw [pG,e] at h;cases h)]
def AE (l:List aa):List Int:=(l.map pF).flatten
def Be (l:List aa):List Int:=GD l.length++AE l
theorem MY (l:List aa):rh (AE l):=by
 induction l with
 |nil=>intro x hx;cases hx
 |cons o l ih=>exact (Tc o).app ih
theorem Xq {l:List aa}(h: ∀o∈l,pG o):(AE l).length<=1200 *l.length:=by
 induction l with
 |nil=>simp [AE]
 |cons o l ih=>have h1:=Kh o;have h2:=(h o (by simp)).short;have h3:=ih λx hx=>h x (by simp [hx]);have:AE (o::l)=pF o++AE l:=rfl;rw [this,bN,IN];omega
theorem V4 {l:List aa}(hN: ∀o∈l,Kg o)(hl:l.length<=100): ∀(todo done:List aa) (b:List Int),l=done++todo->b.length<=2^41+1200 *done.length-> Loop (j8 l) (b,(done.length:Int))=some (if∀o∈todo,pG o then .inl (b++AE todo) else .inr ([],1)):=by
 intro todo;induction todo with
 |nil=>intro done b e hb;refine ul ?_;unfold j8;simp only;rw [if_neg (by rw [e];simp),if_pos (by simp)];simp [AE]
 |cons o todo ih=>
  intro done b e hb;have hlen:l.length=done.length+todo.length+1:=by rw [e];simp;omega
  have cI:done.length<l.length:=by omega
  have oN:l[done.length]=o:=by simp only [e];simp
  have je:j8 l (b,(done.length:Int))=if pG o then some (.inl (b++pF o,((done++[o]).length:Int))) else some (.inr (.inr ([],1))):=by
   unfold j8;simp only;rw [if_pos (by omega),b7 cI,oN,aeP,az];by_cases hm:pG o
   ·have hs:=hm.short;rw [decide_eq_true hm,if_neg (by simp),if_pos hm,Xo (by omega) (hN o (by rw [e];simp)) (by omega) (by omega),az,wrap64 (by omega) (by omega)];simp
   ·rw [decide_eq_false hm,if_pos (by simp),if_neg hm]
  by_cases hm:pG o
  ·rw [if_pos hm] at je;refine Bd je ?_;have h1:=Kh o;have hs:=hm.short;rw [ih (done++[o]) (b++pF o) (by rw [e];simp) (by rw [bN,bN,AT];omega)];have hq:(∀x∈o::todo,pG x)↔ ∀x∈todo,pG x:=by simp [hm]
   by_cases ht: ∀x∈todo,pG x
   ·rw [if_pos ht,if_pos (hq.2 ht),AI];rfl
   ·rw [if_neg ht,if_neg λh=>ht (hq.1 h)]
  ·rw [if_neg hm] at je;rw [if_neg λh=>hm (h o (by simp))];exact ul je
theorem MZ {l:List aa}(hN: ∀o∈l,Kg o)(hl:l.length<=100):mG l=some (if 10<l.length then ([],5) else if∀o∈l,pG o then (E4 (Be l),0) else ([],1)):=by
 unfold mG;by_cases B9:10<l.length
 ·rw [if_pos (by omega),if_pos B9]
 rw [if_neg (by omega),if_neg B9];have hw:IntKind.wrap .u64 (l.length:Int)=((l.length:Nat):Int):=by rw [E0];omega
 have hp:=AD l.length;have hk:=vl l.length;rw [hw,E5 (by simp) (by omega),az,AS];have:=V4 hN hl l [] (GD l.length) (by simp) (by simp;omega);rw [show ((([]:List aa).length:Nat):Int)=0 from rfl] at this;rw [this,az];by_cases hm: ∀o∈l,pG o
 ·rw [if_pos hm,if_pos hm];simp only;rw [QX ((DV _).app (MY l))];rfl
 ·rw [if_neg hm,if_neg hm]
noncomputable def yq:Nat->List Int->Option (List aa×List Int)
 |0,b=>some ([],b)
 |n+1,b=>(match eH b with
  |some (o,r)=>if pG o then (match yq n r with
   |some (l,r)=>some (o::l,r)
   |none=>none) else none
  |none=>none)
theorem Tf {b:List Int}(hb:rh b){o:aa}{r:List Int}(h:eH b=some (o,r)):rh r/\r.length<=b.length:=by obtain ⟨e,_,h2,_⟩:=Te hb h;exact ⟨h2,by rw [e,bN];omega⟩
theorem Tg {l:List aa}(h: ∀o∈l,Kg o/\pG o)(r:List Int):yq l.length (AE l++r)=some (l,r):=by
 induction l with
 |nil=>rfl
 |cons o l ih=>
  obtain ⟨h1,h2⟩:=h o (by simp);have hs:=h2.short;have e:AE (o::l)++r=pF o++(AE l++r):=by rw [<-AI];rfl
  rw [e,IN,yq,Xp h1 hs.1 hs.2];simp only;rw [if_pos h2,ih λx hx=>h x (by simp [hx])]
abbrev zO:aa:=⟨0,0,0,[],[],0,0,0⟩
theorem ap9 {rA:Int×List Int×Int}{n:Nat}(hn:rA.1=(n:Int))(auZ:n<=10): ∀(m:Nat) (done:List aa) (r:List Int),rh r->r.length<2^40->done.length+m=n-> Loop (ka rA) (r,done++sh m zO,(done.length:Int))=some (match yq m r with|some (l,r')=> .inl (r',done++l)|none=> .inr ([],3)):=by
 intro m;induction m with
 |zero=>intro done r hb hl e;refine ul ?_;unfold ka;simp only;rw [if_neg (by rw [By,hn];omega)];simp [yq]
 |succ m ih=>
  intro done r hb hl e;have PN:done.length<(done++sh (m+1) zO).length:=by simp
  obtain ⟨x,ex,hx⟩:=Lh hb hl;have je:ka rA (r,done++sh (m+1) zO,(done.length:Int))=if x.2.2=0 then some (.inl (x.2.1,(done++[x.1])++sh m zO,((done++[x.1]).length:Int))) else some (.inr (.inr ([],3))):=by
   unfold ka;simp only;rw [if_pos (by rw [By,hn];omega),ex,az,b7 PN];by_cases he:x.2.2=0
   ·rw [if_neg (by simp [he]),if_pos he,wrap64 (by omega) (by omega)];have hs:(done++sh (m+1) zO).set (Int.toNat (done.length:Int)) x.1=(done++[x.1])++sh m zO:=by rw [BY,List.set_append_right _ _ (Nat.le_refl _),Nat.sub_self,List.replicate_succ,List.set_cons_zero,AI];rfl
    rw [hs];simp
   ·rw [if_pos (by simp [he]),if_neg he]
  rw [yq];rcases hx with ⟨o,rest,t0,⟨hm,rfl⟩|⟨hm,he⟩⟩|⟨t0,he⟩
  ·rw [if_pos rfl] at je;refine Bd je ?_;obtain ⟨b2,l2⟩:=Tf hb t0;rw [ih (done++[o]) rest b2 (by omega) (by rw [bN,AT];omega),t0];simp only;rw [if_pos (show pG o from hm)];cases yq m rest with
   |none=>rfl
   |some p=>simp
  ·rw [if_neg he] at je;rw [ul je,t0];simp only;rw [if_neg λh:pG o=>by rw [pG,hm] at h;cases h]
  ·rw [if_neg he] at je;rw [ul je,t0]
theorem M0 (s:List UInt8)(hs:s.length<2^40):kE s=some (match mV (wC s) with
 |some (n,r)=>if 10<n then ([],3) else (match yq n r with
  |some (l,r')=>if r'=[] then (l,0) else ([],3)
  |none=>([],3))
 |none=>([],3)):=by
 have hb:=QW s;have hl:(wC s).length<2^40:=by rw [w9];exact hs
 unfold kE;rw [CB hb hl,az];unfold tkB;cases ht:mV (wC s) with
 |none=>simp only [G0,decide_false,Bool.not_false,if_true,az]
 |some p=>
  obtain ⟨n,r⟩:=p;obtain ⟨e1,n1,b1⟩:=um hb ht;have hr:=yp ht;simp only [decide_true,Bool.not_true,Bool.false_eq_true,if_false,az];by_cases B9:10<n
  ·rw [decide_eq_true (by omega),if_pos rfl,if_pos B9]
  rw [decide_eq_false (by omega),if_neg (by simp),if_neg B9,if_pos ⟨by omega,trivial,by omega⟩];have:=ap9 (rA:=((n:Int),r,0)) (n:=n) rfl (by omega) n [] r b1 (Nat.lt_of_le_of_lt hr hl) (by simp);rw [show ((([]:List aa).length:Nat):Int)=0 from rfl,AS] at this;rw [show Int.toNat (n:Int)=n from BY n,this,az];cases yq n r with
  |none=>rfl
  |some q=>
   obtain ⟨l,r'⟩:=q;simp only [AS];cases r' with
   |nil=>rfl
   |cons y r'=>rw [if_pos (by simp),if_neg (by simp)]
theorem Ki {l:List aa}(hN: ∀o∈l,Kg o)(hM: ∀o∈l,pG o)(hl:l.length<=10):kE (E4 (Be l))=some (l,0):=by have hb:rh (Be l):=(DV _).app (MY l);have h1:=Xq hM;have h2:=AD l.length;have h3:=vl l.length;rw [M0 _ (by unfold E4 Be;rw [List.length_map,bN];omega),MW hb];unfold Be;rw [E3 (by omega)];simp only;rw [if_neg (by omega)];have:=Tg (λo ho=>⟨hN o ho,hM o ho⟩) ([]:List Int) (l:=l);rw [List.append_nil] at this;rw [this];rfl
end Dn.S
