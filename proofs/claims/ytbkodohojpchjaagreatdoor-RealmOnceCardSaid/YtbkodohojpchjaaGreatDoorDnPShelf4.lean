import Derived.Test.YtbkodohojpchjaaGreatDoorDnPShelf3
/-
  Shelves: the place of a path. Conditions: none.
-/
open Go Dn
set_option linter.unusedVariables false
set_option linter.unusedSimpArgs false
namespace Dn.S
theorem zI {α τ:Type} {L:List α} {t:τ} {cmp:α→τ→Option Int} {g:α→Int} {i0:Nat} (hl:L.length<2^60) (hc: ∀a∈L,cmp a t=some (g a)) (hi:i0≤L.length)
 (vf: ∀k (hk:k<L.length),k<i0→g L[k]<0) (wg: ∀k (hk:k<L.length),i0≤k→0≤g L[k]):
 bsearch L t cmp=some ((i0:Int),match L[i0]? with|some a=>decide (g a=0)|none=>false):=by
 have fW:Loop (bsL L t cmp) (0,(L.length:Int))=some (i0:Int):=by
  refine bu.eq (bu.loop (fun st=> ∃i j:Nat,st=((i:Int),(j:Int))∧i≤i0∧i0≤j∧j≤L.length) (fun st=>(st.2-st.1).toNat) ⟨0,L.length,rfl,Nat.zero_le _,hi,Nat.le_refl _⟩ ?_)
  rintro st ⟨i,j,rfl,hi,hj,GY⟩
  unfold bsL
  by_cases dn:i<j
  ·have hm:(i+j)/2<L.length:=by omega
   simp only [show ((i:Int)<(j:Int)) by omega,if_true,show ((0:Int)≤1) by decide,Vn (by omega:i+j<2^62),bt hm,hc _ (List.getElem_mem hm),aA]
   by_cases hlb:(i+j)/2<i0
   ·have hk:=vf _ hm hlb
    simp only [hk,if_true,aA]
    rw [wrap64 (by omega) (by omega)]
    exact .mk ⟨⟨(i+j)/2+1,j,by simp,by omega,hj,GY⟩,by omega⟩
   ·have hk:=wg _ hm (by omega)
    have: ¬g L[(i+j)/2]<0:=by omega
    simp only [this,if_false,aA]
    exact .mk ⟨⟨i,(i+j)/2,rfl,hi,by omega,by omega⟩,by omega⟩
  ·simp only [show¬((i:Int)<(j:Int)) by omega,if_false]
   exact .mk (by show (i:Int)=(i0:Int);omega)
 unfold bsearch
 rw [fW]
 simp only [aA]
 by_cases dn:i0<L.length
 ·simp only [show ((i0:Int)<(L.length:Int)) by omega,if_true,bt dn,hc _ (List.getElem_mem dn),aA,List.getElem?_eq_getElem dn]
 ·simp only [show¬((i0:Int)<(L.length:Int)) by omega,if_false,aA,List.getElem?_eq_none (by omega:L.length≤i0)]
theorem MW (s:ax) (p:List UInt8):eg s p=bsearch s.L p cg:=by
 unfold eg
 show bd (bsearch s.L p cg) (fun rA=>some (rA.1,rA.2))=_
 cases bsearch s.L p cg<;>rfl
theorem GB (n:ae) (p:List UInt8):cg n p=some (if n.Path=p then 0 else if lf n.Path p then-1 else 1):=by
 unfold cg
 rw [Ws,aA]
 by_cases h:n.Path=p
 ·simp [h]
 ·cases lf n.Path p<;>simp [h]
def nY (L:List ae):Prop:=(∀n∈L,bm n.Path=true)∧L.Pairwise fun a b=>mW (aK a.Path) (aK b.Path)=true
theorem Sz {R:ae→ae→Prop} (vk: ∀a b c,R a b→R b c→R a c): ∀{L:List ae},(∀k (h:k+1<L.length),R L[k] L[k+1])→L.Pairwise R:=by
 intro L h
 rw [List.pairwise_iff_getElem]
 intro i j hi hj NT
 induction j with
 |zero=>omega
 |succ j ih=>
  have h1:=h j hj
  by_cases he:i=j
  ·subst he;exact h1
  ·exact vk _ _ _ (ih (by omega) (by omega)) h1
theorem Pg {L:List ae} (h:xY L=true):nY L:=by
 unfold xY at h
 simp only [Bool.and_eq_true,List.all_eq_true,List.mem_range] at h
 have hk:=h.2.2
 refine ⟨fun n hn=> ?_,Sz (R:=fun a b=>mW (aK a.Path) (aK b.Path)=true) (fun a b c h1 h2=>CA h1 h2) fun k JS=> ?_⟩
 ·obtain ⟨k,hkl,rfl⟩:=List.mem_iff_getElem.1 hn
  have:=hk k hkl
  unfold Wu at this
  rw [List.getElem?_eq_getElem hkl] at this
  simp only [Bool.and_eq_true] at this
  exact this.1.1
 ·have:=hk (k+1) JS
  unfold Wu at this
  rw [List.getElem?_eq_getElem JS] at this
  simp only [Bool.and_eq_true,Nat.add_sub_cancel,List.getElem?_eq_getElem (show k<L.length by omega),Bool.or_eq_true,decide_eq_true_eq] at this
  rcases this.2 with h0|h0
  ·omega
  ·unfold lf at h0
   simp only [Bool.and_eq_true] at h0
   exact h0.2.2
theorem GC {L:List ae} (h:nY L) (t:List (List UInt8)): ∃i0,i0≤L.length∧(∀k (hk:k<L.length),k<i0→mW (aK (L[k]).Path) t=true)∧ ∀k (hk:k<L.length),i0≤k→mW (aK (L[k]).Path) t=false:=by
 replace h:=h.2
 induction L with
 |nil=>exact ⟨0,Nat.le_refl _,fun k hk=>by simp at hk,fun k hk=>by simp at hk⟩
 |cons a l ih=>
  have h':=List.pairwise_cons.1 h
  cases ha:mW (aK a.Path) t with
  |true=>
   obtain ⟨p,h1,h2,h3⟩:=ih h'.2
   refine ⟨p+1,by simp;omega,fun k hk O8=> ?_,fun k hk O8=> ?_⟩
   ·cases k with
    |zero=>exact ha
    |succ k=>exact h2 k (by simpa using hk) (by omega)
   ·cases k with
    |zero=>omega
    |succ k=>exact h3 k (by simpa using hk) (by omega)
  |false=>
   refine ⟨0,Nat.zero_le _,fun k hk O8=>by omega,fun k hk _=> ?_⟩
   cases k with
   |zero=>exact ha
   |succ k=>
    have dn:=h'.1 (l[k]'(by simpa using hk)) (List.getElem_mem _)
    rw [Bool.eq_false_iff]
    intro hh
    simp only [List.getElem_cons_succ] at hh
    have:=CA dn hh
    rw [ha] at this;cases this
theorem MX {s:ax} (hs:nY s.L) (hl:s.L.length<2^40) {p:List UInt8} (hp:bm p=true): ∃i0:Nat,i0≤s.L.length∧eg s p=some ((i0:Int),decide (0≤qg (s.L.map (·.Path)) p))∧
 (0≤qg (s.L.map (·.Path)) p→qg (s.L.map (·.Path)) p=i0)∧(∀k (hk:k<s.L.length),k<i0→mW (aK (s.L[k]).Path) (aK p)=true)∧ ∀k (hk:k<s.L.length),i0≤k→mW (aK (s.L[k]).Path) (aK p)=false:=by
 obtain ⟨i0,h1,h2,h3⟩:=GC hs (aK p)
 have hah: ∀n∈s.L,lf n.Path p=mW (aK n.Path) (aK p):=fun n hn=>by unfold lf;rw [hs.1 n hn,hp];rfl
 have db: ∀k (hk:k<s.L.length),k<i0→(s.L[k]).Path≠p:=fun k hk RE he=>by
  have:=h2 k hk RE
  rw [he,BA] at this;cases this
 have hbs:=zI (L:=s.L) (t:=p) (cmp:=cg) (g:=fun n=>if n.Path=p then 0 else if lf n.Path p then-1 else 1) (i0:=i0) (by omega) (fun n _=>GB n p) h1
  (fun k hk RE=>by
   rw [if_neg (db k hk RE),hah _ (List.getElem_mem hk),h2 k hk RE];decide)
  (fun k hk RE=>by
   rw [hah _ (List.getElem_mem hk),h3 k hk RE]
   split<;>simp)
 have Ex:0≤qg (s.L.map (·.Path)) p→qg (s.L.map (·.Path)) p=i0∧ ∃hk:i0<s.L.length,(s.L[i0]).Path=p:=by
  intro h0
  have dn:=KP h0
  rw [List.length_map] at dn
  obtain ⟨k,hk,O8,hkf⟩: ∃k,∃hk:k<s.L.length,(s.L[k]).Path=p∧qg (s.L.map (·.Path)) p=k:=by
   unfold qg at h0⊢
   cases hf:(s.L.map (·.Path)).findIdx? (fun x=>decide (x=p)) with
   |none=>rw [hf] at h0;simp at h0
   |some k=>
    have PN:=hf
    rw [List.findIdx?_eq_some_iff_getElem] at PN
    obtain ⟨hk,hd,_⟩:=PN
    exact ⟨k,by simpa using hk,by simpa using hd,rfl⟩
  have Yk:k=i0:=by
   rcases Nat.lt_trichotomy k i0 with h|h|h
   ·exact absurd O8 (db k hk h)
   ·exact h
   ·have hi:i0<s.L.length:=by omega
    have:=List.pairwise_iff_getElem.1 hs.2 i0 k hi hk h
    rw [O8,h3 i0 hi (Nat.le_refl _)] at this
    cases this
  subst Yk
  exact ⟨hkf,hk,O8⟩
 refine ⟨i0,h1,?_,fun h0=>(Ex h0).1,h2,h3⟩
 rw [MW,hbs]
 congr 2
 by_cases h0:0≤qg (s.L.map (·.Path)) p
 ·obtain ⟨_,hk,O8⟩:=Ex h0
  rw [List.getElem?_eq_getElem hk,decide_eq_true h0];simp [O8]
 ·rw [decide_eq_false h0]
  by_cases hk:i0<s.L.length
  ·rw [List.getElem?_eq_getElem hk]
   have hnp:(s.L[i0]).Path≠p:=by
    intro he
    apply h0
    have:qg (s.L.map (·.Path)) p=i0:=GA (by simpa using hk) (by simpa using he) (fun j hj=>by simpa using db j (by omega) hj)
    rw [this];omega
   simp only [hnp,if_false]
   split<;>rfl
  ·rw [List.getElem?_eq_none (by omega)]
def aa7:ae:=⟨[],[],0,0⟩
def cV (L:List ae) (p:List UInt8):Int×Int:=if bm p then (if 0≤qg (L.map (·.Path)) p then (qg (L.map (·.Path)) p,0) else (0,6)) else (0,13)
theorem find_eq {s:ax} (hs:nY s.L) (hl:s.L.length<2^40) (p:List UInt8):fQ s p=some (cV s.L p):=by
 unfold fQ cV
 rw [uN,aA]
 cases hp:bm p with
 |false=>rfl
 |true=>
  obtain ⟨i0,_,h1,h2,_⟩:=MX hs hl hp
  rw [if_neg (by decide),h1,aA,if_pos rfl]
  by_cases h0:0≤qg (s.L.map (·.Path)) p
  ·rw [decide_eq_true h0,if_pos h0,h2 h0];simp
  ·rw [decide_eq_false h0,if_neg h0];simp
def kl (L:List ae) (p:List UInt8):ae×Int:=if (cV L p).2=0 then ((L[(cV L p).1.toNat]?).getD aa7,0) else (aa7,(cV L p).2)
theorem KR {L:List ae} {p:List UInt8} (h:(cV L p).2=0):0≤(cV L p).1∧(cV L p).1.toNat<L.length:=by
 unfold cV at h⊢
 cases hp:bm p with
 |false=>rw [hp] at h;simp at h
 |true=>
  rw [hp] at h
  by_cases h0:0≤qg (L.map (·.Path)) p
  ·simp only [if_true,h0]
   exact ⟨trivial,by simpa using KP h0⟩
  ·simp [h0] at h
theorem get_eq {s:ax} (hs:nY s.L) (hl:s.L.length<2^40) (p:List UInt8):ot s p=some (kl s.L p):=by
 unfold ot kl
 rw [find_eq hs hl,aA]
 by_cases h:(cV s.L p).2=0
 ·obtain ⟨h1,h2⟩:=KR h
  rw [decide_eq_true h,if_neg (by decide),if_pos h,Am h1 h2,List.getElem?_eq_getElem h2];rfl
 ·rw [decide_eq_false h,if_pos (by decide),if_neg h];rfl
end Dn.S
