import Derived.Test.YtbkodohojpchjaaGreatDoorDnPShelf3
/-
  Shelves: the place of a path. Conditions: none.
-/
open Go Dn
set_option linter.unusedVariables false
set_option linter.unusedSimpArgs false
namespace Dn.S
theorem zt {α τ:Type} {L:List α} {t:τ} {cmp:α→τ→Option Int} {g:α→Int} {i0:Nat} (hl:L.length<2^60) (hc: ∀a∈L,cmp a t=some (g a)) (hi:i0≤L.length)
 (uV: ∀k (hk:k<L.length),k<i0→g L[k]<0) (vT: ∀k (hk:k<L.length),i0≤k→0≤g L[k]):
 bsearch L t cmp=some ((i0:Int),match L[i0]? with|some a=>decide (g a=0)|none=>false):=by
 have fT:Loop (bsL L t cmp) (0,(L.length:Int))=some (i0:Int):=by
  refine bq.eq (bq.loop (fun st=> ∃i j:Nat,st=((i:Int),(j:Int))∧i≤i0∧i0≤j∧j≤L.length) (fun st=>(st.2-st.1).toNat) ⟨0,L.length,rfl,Nat.zero_le _,hi,Nat.le_refl _⟩ ?_)
  rintro st ⟨i,j,rfl,hi,hj,GX⟩
  unfold bsL
  by_cases da:i<j
  ·have hm:(i+j)/2<L.length:=by omega
   simp only [show ((i:Int)<(j:Int)) by omega,if_true,show ((0:Int)≤1) by decide,U4 (by omega:i+j<2^62),bx hm,hc _ (List.getElem_mem hm),aC]
   by_cases hlb:(i+j)/2<i0
   ·have hk:=uV _ hm hlb
    simp only [hk,if_true,aC]
    rw [wrap64 (by omega) (by omega)]
    exact .mk ⟨⟨(i+j)/2+1,j,by simp,by omega,hj,GX⟩,by omega⟩
   ·have hk:=vT _ hm (by omega)
    have: ¬g L[(i+j)/2]<0:=by omega
    simp only [this,if_false,aC]
    exact .mk ⟨⟨i,(i+j)/2,rfl,hi,by omega,by omega⟩,by omega⟩
  ·simp only [show¬((i:Int)<(j:Int)) by omega,if_false]
   exact .mk (by show (i:Int)=(i0:Int);omega)
 unfold bsearch
 rw [fT]
 simp only [aC]
 by_cases da:i0<L.length
 ·simp only [show ((i0:Int)<(L.length:Int)) by omega,if_true,bx da,hc _ (List.getElem_mem da),aC,List.getElem?_eq_getElem da]
 ·simp only [show¬((i0:Int)<(L.length:Int)) by omega,if_false,aC,List.getElem?_eq_none (by omega:L.length≤i0)]
theorem MB (s:ay) (p:List UInt8):dY s p=bsearch s.L p cf:=by
 unfold dY
 show bd (bsearch s.L p cf) (fun rA=>some (rA.1,rA.2))=_
 cases bsearch s.L p cf<;>rfl
theorem GB (n:ae) (p:List UInt8):cf n p=some (if n.Path=p then 0 else if lf n.Path p then-1 else 1):=by
 unfold cf
 rw [VZ,aC]
 by_cases h:n.Path=p
 ·simp [h]
 ·cases lf n.Path p<;>simp [h]
def nl (L:List ae):Prop:=(∀n∈L,bk n.Path=true)∧L.Pairwise fun a b=>mU (aL a.Path) (aL b.Path)=true
theorem Sf {R:ae→ae→Prop} (u5: ∀a b c,R a b→R b c→R a c): ∀{L:List ae},(∀k (h:k+1<L.length),R L[k] L[k+1])→L.Pairwise R:=by
 intro L h
 rw [List.pairwise_iff_getElem]
 intro i j hi hj NA
 induction j with
 |zero=>omega
 |succ j ih=>
  have h1:=h j hj
  by_cases he:i=j
  ·subst he;exact h1
  ·exact u5 _ _ _ (ih (by omega) (by omega)) h1
theorem OX {L:List ae} (h:xJ L=true):nl L:=by
 unfold xJ at h
 simp only [Bool.and_eq_true,List.all_eq_true,List.mem_range] at h
 have hk:=h.2.2
 refine ⟨fun n hn=> ?_,Sf (R:=fun a b=>mU (aL a.Path) (aL b.Path)=true) (fun a b c h1 h2=>Cp h1 h2) fun k JF=> ?_⟩
 ·obtain ⟨k,hkl,rfl⟩:=List.mem_iff_getElem.1 hn
  have:=hk k hkl
  unfold V0 at this
  rw [List.getElem?_eq_getElem hkl] at this
  simp only [Bool.and_eq_true] at this
  exact this.1.1
 ·have:=hk (k+1) JF
  unfold V0 at this
  rw [List.getElem?_eq_getElem JF] at this
  simp only [Bool.and_eq_true,Nat.add_sub_cancel,List.getElem?_eq_getElem (show k<L.length by omega),Bool.or_eq_true,decide_eq_true_eq] at this
  rcases this.2 with h0|h0
  ·omega
  ·unfold lf at h0
   simp only [Bool.and_eq_true] at h0
   exact h0.2.2
theorem GC {L:List ae} (h:nl L) (t:List (List UInt8)): ∃i0,i0≤L.length∧(∀k (hk:k<L.length),k<i0→mU (aL (L[k]).Path) t=true)∧ ∀k (hk:k<L.length),i0≤k→mU (aL (L[k]).Path) t=false:=by
 replace h:=h.2
 induction L with
 |nil=>exact ⟨0,Nat.le_refl _,fun k hk=>by simp at hk,fun k hk=>by simp at hk⟩
 |cons a l ih=>
  have h':=List.pairwise_cons.1 h
  cases ha:mU (aL a.Path) t with
  |true=>
   obtain ⟨p,h1,h2,h3⟩:=ih h'.2
   refine ⟨p+1,by simp;omega,fun k hk OR=> ?_,fun k hk OR=> ?_⟩
   ·cases k with
    |zero=>exact ha
    |succ k=>exact h2 k (by simpa using hk) (by omega)
   ·cases k with
    |zero=>omega
    |succ k=>exact h3 k (by simpa using hk) (by omega)
  |false=>
   refine ⟨0,Nat.zero_le _,fun k hk OR=>by omega,fun k hk _=> ?_⟩
   cases k with
   |zero=>exact ha
   |succ k=>
    have da:=h'.1 (l[k]'(by simpa using hk)) (List.getElem_mem _)
    rw [Bool.eq_false_iff]
    intro hh
    simp only [List.getElem_cons_succ] at hh
    have:=Cp da hh
    rw [ha] at this;cases this
theorem MC {s:ay} (hs:nl s.L) (hl:s.L.length<2^40) {p:List UInt8} (hp:bk p=true): ∃i0:Nat,i0≤s.L.length∧dY s p=some ((i0:Int),decide (0≤pJ (s.L.map (·.Path)) p))∧
 (0≤pJ (s.L.map (·.Path)) p→pJ (s.L.map (·.Path)) p=i0)∧(∀k (hk:k<s.L.length),k<i0→mU (aL (s.L[k]).Path) (aL p)=true)∧ ∀k (hk:k<s.L.length),i0≤k→mU (aL (s.L[k]).Path) (aL p)=false:=by
 obtain ⟨i0,h1,h2,h3⟩:=GC hs (aL p)
 have hah: ∀n∈s.L,lf n.Path p=mU (aL n.Path) (aL p):=fun n hn=>by unfold lf;rw [hs.1 n hn,hp];rfl
 have cT: ∀k (hk:k<s.L.length),k<i0→(s.L[k]).Path≠p:=fun k hk Rf he=>by
  have:=h2 k hk Rf
  rw [he,Bo] at this;cases this
 have ZQ:=zt (L:=s.L) (t:=p) (cmp:=cf) (g:=fun n=>if n.Path=p then 0 else if lf n.Path p then-1 else 1) (i0:=i0) (by omega) (fun n _=>GB n p) h1
  (fun k hk Rf=>by
   rw [if_neg (cT k hk Rf),hah _ (List.getElem_mem hk),h2 k hk Rf];decide)
  (fun k hk Rf=>by
   rw [hah _ (List.getElem_mem hk),h3 k hk Rf]
   split<;>simp)
 have Eo:0≤pJ (s.L.map (·.Path)) p→pJ (s.L.map (·.Path)) p=i0∧ ∃hk:i0<s.L.length,(s.L[i0]).Path=p:=by
  intro h0
  have da:=Kz h0
  rw [List.length_map] at da
  obtain ⟨k,hk,OR,hkf⟩: ∃k,∃hk:k<s.L.length,(s.L[k]).Path=p∧pJ (s.L.map (·.Path)) p=k:=by
   unfold pJ at h0⊢
   cases hf:(s.L.map (·.Path)).findIdx? (fun x=>decide (x=p)) with
   |none=>rw [hf] at h0;simp at h0
   |some k=>
    have Pq:=hf
    rw [List.findIdx?_eq_some_iff_getElem] at Pq
    obtain ⟨hk,hd,_⟩:=Pq
    exact ⟨k,by simpa using hk,by simpa using hd,rfl⟩
  have XW:k=i0:=by
   rcases Nat.lt_trichotomy k i0 with h|h|h
   ·exact absurd OR (cT k hk h)
   ·exact h
   ·have hi:i0<s.L.length:=by omega
    have:=List.pairwise_iff_getElem.1 hs.2 i0 k hi hk h
    rw [OR,h3 i0 hi (Nat.le_refl _)] at this
    cases this
  subst XW
  exact ⟨hkf,hk,OR⟩
 refine ⟨i0,h1,?_,fun h0=>(Eo h0).1,h2,h3⟩
 rw [MB,ZQ]
 congr 2
 by_cases h0:0≤pJ (s.L.map (·.Path)) p
 ·obtain ⟨_,hk,OR⟩:=Eo h0
  rw [List.getElem?_eq_getElem hk,decide_eq_true h0];simp [OR]
 ·rw [decide_eq_false h0]
  by_cases hk:i0<s.L.length
  ·rw [List.getElem?_eq_getElem hk]
   have ZT:(s.L[i0]).Path≠p:=by
    intro he
    apply h0
    have:pJ (s.L.map (·.Path)) p=i0:=GA (by simpa using hk) (by simpa using he) (fun j hj=>by simpa using cT j (by omega) hj)
    rw [this];omega
   simp only [ZT,if_false]
   split<;>rfl
  ·rw [List.getElem?_eq_none (by omega)]
def V2:ae:=⟨[],[],0,0⟩
def cg (L:List ae) (p:List UInt8):Int×Int:=if bk p then (if 0≤pJ (L.map (·.Path)) p then (pJ (L.map (·.Path)) p,0) else (0,6)) else (0,13)
theorem find_eq {s:ay} (hs:nl s.L) (hl:s.L.length<2^40) (p:List UInt8):fO s p=some (cg s.L p):=by
 unfold fO cg
 rw [uC,aC]
 cases hp:bk p with
 |false=>rfl
 |true=>
  obtain ⟨i0,_,h1,h2,_⟩:=MC hs hl hp
  rw [if_neg (by decide),h1,aC,if_pos rfl]
  by_cases h0:0≤pJ (s.L.map (·.Path)) p
  ·rw [decide_eq_true h0,if_pos h0,h2 h0];simp
  ·rw [decide_eq_false h0,if_neg h0];simp
def dI (L:List ae) (p:List UInt8):ae×Int:=if (cg L p).2=0 then ((L[(cg L p).1.toNat]?).getD V2,0) else (V2,(cg L p).2)
theorem KB {L:List ae} {p:List UInt8} (h:(cg L p).2=0):0≤(cg L p).1∧(cg L p).1.toNat<L.length:=by
 unfold cg at h⊢
 cases hp:bk p with
 |false=>rw [hp] at h;simp at h
 |true=>
  rw [hp] at h
  by_cases h0:0≤pJ (L.map (·.Path)) p
  ·simp only [if_true,h0]
   exact ⟨trivial,by simpa using Kz h0⟩
  ·simp [h0] at h
theorem get_eq {s:ay} (hs:nl s.L) (hl:s.L.length<2^40) (p:List UInt8):ot s p=some (dI s.L p):=by
 unfold ot dI
 rw [find_eq hs hl,aC]
 by_cases h:(cg s.L p).2=0
 ·obtain ⟨h1,h2⟩:=KB h
  rw [decide_eq_true h,if_neg (by decide),if_pos h,zY h1 h2,List.getElem?_eq_getElem h2];rfl
 ·rw [decide_eq_false h,if_pos (by decide),if_neg h];rfl
end Dn.S
