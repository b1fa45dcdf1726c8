import Derived.Test.YtbkodohojpchjaaGreatDoorDnPShelf3
/-
  Shelves: the place of a path. Conditions: none.
-/
set_option linter.unusedVariables false
set_option linter.unusedSimpArgs false
open List renaming getElem?_eq_getElem→c8,getElem_mem→sh,pairwise_iff_getElem→AS,getElem?_eq_none→AT
open Bool renaming and_eq_true→AI
open Nat renaming le_refl→By,zero_le→BY
open Go Dn
namespace Dn.S
theorem Cz {α τ:Type}{L:List α}{t:τ}{cmp:α->τ->Option Int}{g:α->Int}{i0:Nat}(hl:L.length<2^60)(hc: ∀a∈L,cmp a t=some (g a))(hi:i0<=L.length)(wj: ∀k (hk:k<L.length),k<i0->g L[k]<0)(vH: ∀k (hk:k<L.length),i0<=k->0<=g L[k]): bsearch L t cmp=some ((i0:Int),match L[i0]? with|some a=>decide (g a=0)|none=>false):=by
 have cV:Loop (bsL L t cmp) (0,(L.length:Int))=some (i0:Int):=by
  refine aM.eq (aM.loop (λst=> ∃i j:Nat,st=((i:Int),(j:Int))/\i<=i0/\i0<=j/\j<=L.length) (λst=>(st.2-st.1).toNat) ⟨0,L.length,rfl,BY _,hi,By _⟩ ?_);rintro st ⟨i,j,rfl,hi,hj,KA⟩;unfold bsL;by_cases dK:i<j
  ·have hm:(i+j)/2<L.length:=by omega
   simp only [show ((i:Int)<(j:Int)) by omega,if_true,show ((0:Int)<=1) by decide,aas (by omega:i+j<2^62),aP hm,hc _ (sh hm),al];by_cases hlb:(i+j)/2<i0
   ·have hk:=wj _ hm hlb;simp only [hk,if_true,al];rw [wrap64 (by omega) (by omega)];exact .mk ⟨⟨(i+j)/2+1,j,by simp,by omega,hj,KA⟩,by omega⟩
   ·have hk:=vH _ hm (by omega);have: ¬g L[(i+j)/2]<0:=by omega
    simp only [this,if_false,al];exact .mk ⟨⟨i,(i+j)/2,rfl,hi,by omega,by omega⟩,by omega⟩
  ·simp only [show¬((i:Int)<(j:Int)) by omega,if_false];exact .mk (by show (i:Int)=(i0:Int);omega)
 unfold bsearch;rw [cV];simp only [al];by_cases dK:i0<L.length
 ·simp only [show ((i0:Int)<(L.length:Int)) by omega,if_true,aP dK,hc _ (sh dK),al,c8 dK]
 ·simp only [show¬((i0:Int)<(L.length:Int)) by omega,if_false,al,AT (by omega:L.length<=i0)]
theorem Rr (s:aA)(p:List UInt8):eV s p=bsearch s.L p cP:=by unfold eV;show bd (bsearch s.L p cP) (λrA=>some (rA.1,rA.2))=_;cases bsearch s.L p cP<;>rfl
theorem Ke (n:af)(p:List UInt8):cP n p=some (if n.Path=p then 0 else if kD n.Path p then-1 else 1):=by
 unfold cP;rw [abP,al];by_cases h:n.Path=p
 ·simp [h]
 ·cases kD n.Path p<;>simp [h]
def nm (L:List af):Prop:=(∀n∈L,bn n.Path=true)/\L.Pairwise λa b=>nH (aE a.Path) (aE b.Path)=true
theorem XE {R:af->af->Prop}(xA: ∀a b c,R a b->R b c->R a c): ∀{L:List af},(∀k (h:k+1<L.length),R L[k] L[k+1])->L.Pairwise R:=by
 intro L h;rw [AS];intro i j hi hj Nn;induction j with
 |zero=>omega
 |succ j ih=>
  have h1:=h j hj;by_cases he:i=j
  ·subst he;exact h1
  ·exact xA _ _ _ (ih (by omega) (by omega)) h1
theorem T6 {L:List af}(h:A0 L=true):nm L:=by
 unfold A0 at h;simp only [AI,List.all_eq_true,List.mem_range] at h;have hk:=h.2.2;refine ⟨λn hn=> ?_,XE (R:=λa b=>nH (aE a.Path) (aE b.Path)=true) (λa b c h1 h2=>BP h1 h2) λk CM=> ?_⟩
 ·obtain ⟨k,hkl,rfl⟩:=List.mem_iff_getElem.1 hn;have:=hk k hkl;unfold okK at this;rw [c8 hkl] at this;simp only [AI] at this;exact this.1.1
 ·have:=hk (k+1) CM;unfold okK at this;rw [c8 CM] at this;simp only [AI,Nat.add_sub_cancel,c8 (show k<L.length by omega),Bool.or_eq_true,decide_eq_true_eq] at this;rcases this.2 with h0|h0
  ·omega
  ·unfold kD at h0;simp only [AI] at h0;exact h0.2.2
theorem EM {L:List af}(h:nm L)(t:List (List UInt8)): ∃i0,i0<=L.length/\(∀k (hk:k<L.length),k<i0->nH (aE (L[k]).Path) t=true)/\ ∀k (hk:k<L.length),i0<=k->nH (aE (L[k]).Path) t=false:=by
 replace h:=h.2
 induction L with
 |nil=>exact ⟨0,By _,λk hk=>by simp at hk,λk hk=>by simp at hk⟩
 |cons a l ih=>
  have h':=List.pairwise_cons.1 h;cases ha:nH (aE a.Path) t with
  |true=>
   obtain ⟨p,h1,h2,h3⟩:=ih h'.2;refine ⟨p+1,by simp;omega,λk hk KC=> ?_,λk hk KC=> ?_⟩
   ·cases k with
    |zero=>exact ha
    |succ k=>exact h2 k (by simpa using hk) (by omega)
   ·cases k with
    |zero=>omega
    |succ k=>exact h3 k (by simpa using hk) (by omega)
  |false=>
   refine ⟨0,BY _,λk hk KC=>by omega,λk hk _=> ?_⟩;cases k with
   |zero=>exact ha
   |succ k=>have dK:=h'.1 (l[k]'(by simpa using hk)) (sh _);rw [Bool.eq_false_iff];intro hh;simp only [List.getElem_cons_succ] at hh;have:=BP dK hh;rw [ha] at this;cases this
theorem Rs {s:aA}(hs:nm s.L)(hl:s.L.length<2^40){p:List UInt8}(hp:bn p=true): ∃i0:Nat,i0<=s.L.length/\eV s p=some ((i0:Int),decide (0<=mD (s.L.map (·.Path)) p))/\ (0<=mD (s.L.map (·.Path)) p->mD (s.L.map (·.Path)) p=i0)/\(∀k (hk:k<s.L.length),k<i0->nH (aE (s.L[k]).Path) (aE p)=true)/\ ∀k (hk:k<s.L.length),i0<=k->nH (aE (s.L[k]).Path) (aE p)=false:=by
 obtain ⟨i0,h1,h2,h3⟩:=EM hs (aE p);have hah: ∀n∈s.L,kD n.Path p=nH (aE n.Path) (aE p):=λn hn=>by unfold kD;rw [hs.1 n hn,hp];rfl
 have dG: ∀k (hk:k<s.L.length),k<i0->(s.L[k]).Path≠p:=λk hk WG he=>by have:=h2 k hk WG;rw [he,BO] at this;cases this
 have Zk:=Cz (L:=s.L) (t:=p) (cmp:=cP) (g:=λn=>if n.Path=p then 0 else if kD n.Path p then-1 else 1) (i0:=i0) (by omega) (λn _=>Ke n p) h1 (λk hk WG=>by
   rw [if_neg (dG k hk WG),hah _ (sh hk),h2 k hk WG];decide)
  (λk hk WG=>by rw [hah _ (sh hk),h3 k hk WG];split<;>simp)
 have Df:0<=mD (s.L.map (·.Path)) p->mD (s.L.map (·.Path)) p=i0/\ ∃hk:i0<s.L.length,(s.L[i0]).Path=p:=by
  intro h0;have dK:=FL h0;rw [List.length_map] at dK;obtain ⟨k,hk,KC,hkf⟩: ∃k,∃hk:k<s.L.length,(s.L[k]).Path=p/\mD (s.L.map (·.Path)) p=k:=by
   unfold mD at h0⊢;cases hf:(s.L.map (·.Path)).findIdx? (λx=>decide (x=p)) with
   |none=>rw [hf] at h0;simp at h0
   |some k=>have UG:=hf;rw [List.findIdx?_eq_some_iff_getElem] at UG;obtain ⟨hk,hd,_⟩:=UG;exact ⟨k,by simpa using hk,by simpa using hd,rfl⟩
  have O4:k=i0:=by
   rcases Nat.lt_trichotomy k i0 with h|h|h
   ·exact absurd KC (dG k hk h)
   ·exact h
   ·have hi:i0<s.L.length:=by omega
    have:=AS.1 hs.2 i0 k hi hk h;rw [KC,h3 i0 hi (By _)] at this;cases this
  subst O4;exact ⟨hkf,hk,KC⟩
 refine ⟨i0,h1,?_,λh0=>(Df h0).1,h2,h3⟩;rw [Rr,Zk];congr 2;by_cases h0:0<=mD (s.L.map (·.Path)) p
 ·obtain ⟨_,hk,KC⟩:=Df h0;rw [c8 hk,decide_eq_true h0];simp [KC]
 ·rw [decide_eq_false h0];by_cases hk:i0<s.L.length
  ·rw [c8 hk];have hnp:(s.L[i0]).Path≠p:=by intro he;apply h0;have:mD (s.L.map (·.Path)) p=i0:=Kc (by simpa using hk) (by simpa using he) (λj hj=>by simpa using dG j (by omega) hj);rw [this];omega
   simp only [hnp,if_false];split<;>rfl
  ·rw [AT (by omega)]
def VM:af:=⟨[],[],0,0⟩
def cu (L:List af)(p:List UInt8):Int×Int:=if bn p then (if 0<=mD (L.map (·.Path)) p then (mD (L.map (·.Path)) p,0) else (0,6)) else (0,13)
theorem find_eq {s:aA}(hs:nm s.L)(hl:s.L.length<2^40)(p:List UInt8):ib s p=some (cu s.L p):=by
 unfold ib cu;rw [xt,al];cases hp:bn p with
 |false=>rfl
 |true=>
  obtain ⟨i0,_,h1,h2,_⟩:=Rs hs hl hp;rw [if_neg (by decide),h1,al,if_pos rfl];by_cases h0:0<=mD (s.L.map (·.Path)) p
  ·rw [decide_eq_true h0,if_pos h0,h2 h0];simp
  ·rw [decide_eq_false h0,if_neg h0];simp
def eo (L:List af)(p:List UInt8):af×Int:=if (cu L p).2=0 then ((L[(cu L p).1.toNat]?).getD VM,0) else (VM,(cu L p).2)
theorem OL {L:List af}{p:List UInt8}(h:(cu L p).2=0):0<=(cu L p).1/\(cu L p).1.toNat<L.length:=by
 unfold cu at h⊢;cases hp:bn p with
 |false=>rw [hp] at h;simp at h
 |true=>
  rw [hp] at h;by_cases h0:0<=mD (L.map (·.Path)) p
  ·simp only [if_true,h0];exact ⟨trivial,by simpa using FL h0⟩
  ·simp [h0] at h
theorem get_eq {s:aA}(hs:nm s.L)(hl:s.L.length<2^40)(p:List UInt8):ql s p=some (eo s.L p):=by
 unfold ql eo;rw [find_eq hs hl,al];by_cases h:(cu s.L p).2=0
 ·obtain ⟨h1,h2⟩:=OL h;rw [decide_eq_true h,if_neg (by decide),if_pos h,wh h1 h2,c8 h2];rfl
 ·rw [decide_eq_false h,if_pos (by decide),if_neg h];rfl
end Dn.S
