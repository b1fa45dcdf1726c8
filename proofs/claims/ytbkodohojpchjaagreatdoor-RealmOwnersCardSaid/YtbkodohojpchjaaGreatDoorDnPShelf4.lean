import Derived.Test.YtbkodohojpchjaaGreatDoorDnPShelf3
/-
  Shelves: the place of a path. Conditions: none.
-/
open Go Dn
set_option linter.unusedVariables false
set_option linter.unusedSimpArgs false
namespace Dn.S
theorem ym {α τ:Type} {L:List α} {t:τ} {cmp:α→τ→Option Int} {g:α→Int} {i0:Nat} (hl:L.length<2^60) (hc: ∀a∈L,cmp a t=some (g a)) (hi:i0≤L.length)
 (vY: ∀k (hk:k<L.length),k<i0→g L[k]<0) (uX: ∀k (hk:k<L.length),i0≤k→0≤g L[k]):
 bsearch L t cmp=some ((i0:Int),match L[i0]? with|some a=>decide (g a=0)|none=>false):=by
 have fZ:Loop (bsL L t cmp) (0,(L.length:Int))=some (i0:Int):=by
  refine bK.eq (bK.loop (fun st=> ∃i j:Nat,st=((i:Int),(j:Int))∧i≤i0∧i0≤j∧j≤L.length) (fun st=>(st.2-st.1).toNat) ⟨0,L.length,rfl,Nat.zero_le _,hi,Nat.le_refl _⟩ ?_)
  rintro st ⟨i,j,rfl,hi,hj,Fa⟩
  unfold bsL
  by_cases cz:i<j
  ·have hm:(i+j)/2<L.length:=by omega
   simp only [show ((i:Int)<(j:Int)) by omega,if_true,show ((0:Int)≤1) by decide,SF (by omega:i+j<2^62),cg hm,hc _ (List.getElem_mem hm),aM]
   by_cases hlb:(i+j)/2<i0
   ·have hk:=vY _ hm hlb
    simp only [hk,if_true,aM]
    rw [wrap64 (by omega) (by omega)]
    exact .mk ⟨⟨(i+j)/2+1,j,by simp,by omega,hj,Fa⟩,by omega⟩
   ·have hk:=uX _ hm (by omega)
    have: ¬g L[(i+j)/2]<0:=by omega
    simp only [this,if_false,aM]
    exact .mk ⟨⟨i,(i+j)/2,rfl,hi,by omega,by omega⟩,by omega⟩
  ·simp only [show¬((i:Int)<(j:Int)) by omega,if_false]
   exact .mk (by show (i:Int)=(i0:Int);omega)
 unfold bsearch
 rw [fZ]
 simp only [aM]
 by_cases cz:i0<L.length
 ·simp only [show ((i0:Int)<(L.length:Int)) by omega,if_true,cg cz,hc _ (List.getElem_mem cz),aM,List.getElem?_eq_getElem cz]
 ·simp only [show¬((i0:Int)<(L.length:Int)) by omega,if_false,aM,List.getElem?_eq_none (by omega:L.length≤i0)]
theorem KF (s:av) (p:List UInt8):dE s p=bsearch s.L p bX:=by
 unfold dE
 show bd (bsearch s.L p bX) (fun rA=>some (rA.1,rA.2))=_
 cases bsearch s.L p bX<;>rfl
theorem EO (n:ae) (p:List UInt8):bX n p=some (if n.Path=p then 0 else if mF n.Path p then-1 else 1):=by
 unfold bX
 rw [KD,aM]
 by_cases h:n.Path=p
 ·simp [h]
 ·cases mF n.Path p<;>simp [h]
def nB (L:List ae):Prop:=(∀n∈L,bw n.Path=true)∧L.Pairwise fun a b=>o8 (aP a.Path) (aP b.Path)=true
theorem PR {R:ae→ae→Prop} (uh: ∀a b c,R a b→R b c→R a c): ∀{L:List ae},(∀k (h:k+1<L.length),R L[k] L[k+1])→L.Pairwise R:=by
 intro L h
 rw [List.pairwise_iff_getElem]
 intro i j hi hj Na
 induction j with
 |zero=>omega
 |succ j ih=>
  have h1:=h j hj
  by_cases he:i=j
  ·subst he;exact h1
  ·exact uh _ _ _ (ih (by omega) (by omega)) h1
theorem MD {L:List ae} (h:yU L=true):nB L:=by
 unfold yU at h
 simp only [Bool.and_eq_true,List.all_eq_true,List.mem_range] at h
 have hk:=h.2.2
 refine ⟨fun n hn=> ?_,PR (R:=fun a b=>o8 (aP a.Path) (aP b.Path)=true) (fun a b c h1 h2=>A0 h1 h2) fun k HK=> ?_⟩
 ·obtain ⟨k,hkl,rfl⟩:=List.mem_iff_getElem.1 hn
  have:=hk k hkl
  unfold Tq at this
  rw [List.getElem?_eq_getElem hkl] at this
  simp only [Bool.and_eq_true] at this
  exact this.1.1
 ·have:=hk (k+1) HK
  unfold Tq at this
  rw [List.getElem?_eq_getElem HK] at this
  simp only [Bool.and_eq_true,Nat.add_sub_cancel,List.getElem?_eq_getElem (show k<L.length by omega),Bool.or_eq_true,decide_eq_true_eq] at this
  rcases this.2 with h0|h0
  ·omega
  ·unfold mF at h0
   simp only [Bool.and_eq_true] at h0
   exact h0.2.2
theorem EP {L:List ae} (h:nB L) (t:List (List UInt8)): ∃i0,i0≤L.length∧(∀k (hk:k<L.length),k<i0→o8 (aP (L[k]).Path) t=true)∧ ∀k (hk:k<L.length),i0≤k→o8 (aP (L[k]).Path) t=false:=by
 replace h:=h.2
 induction L with
 |nil=>exact ⟨0,Nat.le_refl _,fun k hk=>by simp at hk,fun k hk=>by simp at hk⟩
 |cons a l ih=>
  have h':=List.pairwise_cons.1 h
  cases ha:o8 (aP a.Path) t with
  |true=>
   obtain ⟨p,h1,h2,h3⟩:=ih h'.2
   refine ⟨p+1,by simp;omega,fun k hk PM=> ?_,fun k hk PM=> ?_⟩
   ·cases k with
    |zero=>exact ha
    |succ k=>exact h2 k (by simpa using hk) (by omega)
   ·cases k with
    |zero=>omega
    |succ k=>exact h3 k (by simpa using hk) (by omega)
  |false=>
   refine ⟨0,Nat.zero_le _,fun k hk PM=>by omega,fun k hk _=> ?_⟩
   cases k with
   |zero=>exact ha
   |succ k=>
    have cz:=h'.1 (l[k]'(by simpa using hk)) (List.getElem_mem _)
    rw [Bool.eq_false_iff]
    intro hh
    simp only [List.getElem_cons_succ] at hh
    have:=A0 cz hh
    rw [ha] at this;cases this
theorem KG {s:av} (hs:nB s.L) (hl:s.L.length<2^40) {p:List UInt8} (hp:bw p=true): ∃i0:Nat,i0≤s.L.length∧dE s p=some ((i0:Int),decide (0≤tH (s.L.map (·.Path)) p))∧
 (0≤tH (s.L.map (·.Path)) p→tH (s.L.map (·.Path)) p=i0)∧(∀k (hk:k<s.L.length),k<i0→o8 (aP (s.L[k]).Path) (aP p)=true)∧ ∀k (hk:k<s.L.length),i0≤k→o8 (aP (s.L[k]).Path) (aP p)=false:=by
 obtain ⟨i0,h1,h2,h3⟩:=EP hs (aP p)
 have hah: ∀n∈s.L,mF n.Path p=o8 (aP n.Path) (aP p):=fun n hn=>by unfold mF;rw [hs.1 n hn,hp];rfl
 have cI: ∀k (hk:k<s.L.length),k<i0→(s.L[k]).Path≠p:=fun k hk O3 he=>by
  have:=h2 k hk O3
  rw [he,zY] at this;cases this
 have WY:=ym (L:=s.L) (t:=p) (cmp:=bX) (g:=fun n=>if n.Path=p then 0 else if mF n.Path p then-1 else 1) (i0:=i0) (by omega) (fun n _=>EO n p) h1
  (fun k hk O3=>by
   rw [if_neg (cI k hk O3),hah _ (List.getElem_mem hk),h2 k hk O3];decide)
  (fun k hk O3=>by
   rw [hah _ (List.getElem_mem hk),h3 k hk O3]
   split<;>simp)
 have Gh:0≤tH (s.L.map (·.Path)) p→tH (s.L.map (·.Path)) p=i0∧ ∃hk:i0<s.L.length,(s.L[i0]).Path=p:=by
  intro h0
  have cz:=ID h0
  rw [List.length_map] at cz
  obtain ⟨k,hk,PM,Yn⟩: ∃k,∃hk:k<s.L.length,(s.L[k]).Path=p∧tH (s.L.map (·.Path)) p=k:=by
   unfold tH at h0⊢
   cases hf:(s.L.map (·.Path)).findIdx? (fun x=>decide (x=p)) with
   |none=>rw [hf] at h0;simp at h0
   |some k=>
    have M9:=hf
    rw [List.findIdx?_eq_some_iff_getElem] at M9
    obtain ⟨hk,hd,_⟩:=M9
    exact ⟨k,by simpa using hk,by simpa using hd,rfl⟩
  have Vd:k=i0:=by
   rcases Nat.lt_trichotomy k i0 with h|h|h
   ·exact absurd PM (cI k hk h)
   ·exact h
   ·have hi:i0<s.L.length:=by omega
    have:=List.pairwise_iff_getElem.1 hs.2 i0 k hi hk h
    rw [PM,h3 i0 hi (Nat.le_refl _)] at this
    cases this
  subst Vd
  exact ⟨Yn,hk,PM⟩
 refine ⟨i0,h1,?_,fun h0=>(Gh h0).1,h2,h3⟩
 rw [KF,WY]
 congr 2
 by_cases h0:0≤tH (s.L.map (·.Path)) p
 ·obtain ⟨_,hk,PM⟩:=Gh h0
  rw [List.getElem?_eq_getElem hk,decide_eq_true h0];simp [PM]
 ·rw [decide_eq_false h0]
  by_cases hk:i0<s.L.length
  ·rw [List.getElem?_eq_getElem hk]
   have W6:(s.L[i0]).Path≠p:=by
    intro he
    apply h0
    have:tH (s.L.map (·.Path)) p=i0:=EN (by simpa using hk) (by simpa using he) (fun j hj=>by simpa using cI j (by omega) hj)
    rw [this];omega
   simp only [W6,if_false]
   split<;>rfl
  ·rw [List.getElem?_eq_none (by omega)]
def XN:ae:=⟨[],[],0,0⟩
def cG (L:List ae) (p:List UInt8):Int×Int:=if bw p then (if 0≤tH (L.map (·.Path)) p then (tH (L.map (·.Path)) p,0) else (0,6)) else (0,13)
theorem find_eq {s:av} (hs:nB s.L) (hl:s.L.length<2^40) (p:List UInt8):fj s p=some (cG s.L p):=by
 unfold fj cG
 rw [o7,aM]
 cases hp:bw p with
 |false=>rfl
 |true=>
  obtain ⟨i0,_,h1,h2,_⟩:=KG hs hl hp
  rw [if_neg (by decide),h1,aM,if_pos rfl]
  by_cases h0:0≤tH (s.L.map (·.Path)) p
  ·rw [decide_eq_true h0,if_pos h0,h2 h0];simp
  ·rw [decide_eq_false h0,if_neg h0];simp
def jO (L:List ae) (p:List UInt8):ae×Int:=if (cG L p).2=0 then ((L[(cG L p).1.toNat]?).getD XN,0) else (XN,(cG L p).2)
theorem IF {L:List ae} {p:List UInt8} (h:(cG L p).2=0):0≤(cG L p).1∧(cG L p).1.toNat<L.length:=by
 unfold cG at h⊢
 cases hp:bw p with
 |false=>rw [hp] at h;simp at h
 |true=>
  rw [hp] at h
  by_cases h0:0≤tH (L.map (·.Path)) p
  ·simp only [if_true,h0]
   exact ⟨trivial,by simpa using ID h0⟩
  ·simp [h0] at h
theorem get_eq {s:av} (hs:nB s.L) (hl:s.L.length<2^40) (p:List UInt8):nU s p=some (jO s.L p):=by
 unfold nU jO
 rw [find_eq hs hl,aM]
 by_cases h:(cG s.L p).2=0
 ·obtain ⟨h1,h2⟩:=IF h
  rw [decide_eq_true h,if_neg (by decide),if_pos h,yS h1 h2,List.getElem?_eq_getElem h2];rfl
 ·rw [decide_eq_false h,if_pos (by decide),if_neg h];rfl
end Dn.S
