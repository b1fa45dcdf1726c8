import Derived.Test.YtbkodohojpchjaaGreatDoorDnPShelf3
/-
  Shelves: the place of a path. Conditions: none.
-/
open Go Dn
set_option linter.unusedVariables false
set_option linter.unusedSimpArgs false
namespace Dn.S
theorem xr {α τ:Type} {L:List α} {t:τ} {cmp:α→τ→Option Int} {g:α→Int} {i0:Nat} (hl:L.length<2^60) (hc: ∀a∈L,cmp a t=some (g a)) (hi:i0≤L.length)
 (vi: ∀k (hk:k<L.length),k<i0→g L[k]<0) (ui: ∀k (hk:k<L.length),i0≤k→0≤g L[k]):
 bsearch L t cmp=some ((i0:Int),match L[i0]? with|some a=>decide (g a=0)|none=>false):=by
 have iw:Loop (bsL L t cmp) (0,(L.length:Int))=some (i0:Int):=by
  refine bV.eq (bV.loop (fun st=> ∃i j:Nat,st=((i:Int),(j:Int))∧i≤i0∧i0≤j∧j≤L.length) (fun st=>(st.2-st.1).toNat) ⟨0,L.length,rfl,Nat.zero_le _,hi,Nat.le_refl _⟩ ?_)
  rintro st ⟨i,j,rfl,hi,hj,Eh⟩
  unfold bsL
  by_cases dx:i<j
  ·have hm:(i+j)/2<L.length:=by omega
   simp only [show ((i:Int)<(j:Int)) by omega,if_true,show ((0:Int)≤1) by decide,Rq (by omega:i+j<2^62),cg hm,hc _ (List.getElem_mem hm),aR]
   by_cases hlb:(i+j)/2<i0
   ·have hk:=vi _ hm hlb
    simp only [hk,if_true,aR]
    rw [wrap64 (by omega) (by omega)]
    exact .mk ⟨⟨(i+j)/2+1,j,by simp,by omega,hj,Eh⟩,by omega⟩
   ·have hk:=ui _ hm (by omega)
    have: ¬g L[(i+j)/2]<0:=by omega
    simp only [this,if_false,aR]
    exact .mk ⟨⟨i,(i+j)/2,rfl,hi,by omega,by omega⟩,by omega⟩
  ·simp only [show¬((i:Int)<(j:Int)) by omega,if_false]
   exact .mk (by show (i:Int)=(i0:Int);omega)
 unfold bsearch
 rw [iw]
 simp only [aR]
 by_cases dx:i0<L.length
 ·simp only [show ((i0:Int)<(L.length:Int)) by omega,if_true,cg dx,hc _ (List.getElem_mem dx),aR,List.getElem?_eq_getElem dx]
 ·simp only [show¬((i0:Int)<(L.length:Int)) by omega,if_false,aR,List.getElem?_eq_none (by omega:L.length≤i0)]
theorem JB (s:aB) (p:List UInt8):dz s p=bsearch s.L p bW:=by
 unfold dz
 show bd (bsearch s.L p bW) (fun rA=>some (rA.1,rA.2))=_
 cases bsearch s.L p bW<;>rfl
theorem DS (n:ae) (p:List UInt8):bW n p=some (if n.Path=p then 0 else if rX n.Path p then-1 else 1):=by
 unfold bW
 rw [Sj,aR]
 by_cases h:n.Path=p
 ·simp [h]
 ·cases rX n.Path p<;>simp [h]
def oT (L:List ae):Prop:=(∀n∈L,bJ n.Path=true)∧L.Pairwise fun a b=>oR (aM a.Path) (aM b.Path)=true
theorem DT {L:List ae} (h:oT L) (t:List (List UInt8)): ∃i0,i0≤L.length∧(∀k (hk:k<L.length),k<i0→oR (aM (L[k]).Path) t=true)∧ ∀k (hk:k<L.length),i0≤k→oR (aM (L[k]).Path) t=false:=by
 replace h:=h.2
 induction L with
 |nil=>exact ⟨0,Nat.le_refl _,fun k hk=>by simp at hk,fun k hk=>by simp at hk⟩
 |cons a l ih=>
  have h':=List.pairwise_cons.1 h
  cases ha:oR (aM a.Path) t with
  |true=>
   obtain ⟨p,h1,h2,h3⟩:=ih h'.2
   refine ⟨p+1,by simp;omega,fun k hk Sd=> ?_,fun k hk Sd=> ?_⟩
   ·cases k with
    |zero=>exact ha
    |succ k=>exact h2 k (by simpa using hk) (by omega)
   ·cases k with
    |zero=>omega
    |succ k=>exact h3 k (by simpa using hk) (by omega)
  |false=>
   refine ⟨0,Nat.zero_le _,fun k hk Sd=>by omega,fun k hk _=> ?_⟩
   cases k with
   |zero=>exact ha
   |succ k=>
    have dx:=h'.1 (l[k]'(by simpa using hk)) (List.getElem_mem _)
    rw [Bool.eq_false_iff]
    intro hh
    simp only [List.getElem_cons_succ] at hh
    have:=Gg dx hh
    rw [ha] at this;cases this
theorem JC {s:aB} (hs:oT s.L) (hl:s.L.length<2^40) {p:List UInt8} (hp:bJ p=true): ∃i0:Nat,i0≤s.L.length∧dz s p=some ((i0:Int),decide (0≤Al (s.L.map (·.Path)) p))∧
 (0≤Al (s.L.map (·.Path)) p→Al (s.L.map (·.Path)) p=i0)∧(∀k (hk:k<s.L.length),k<i0→oR (aM (s.L[k]).Path) (aM p)=true)∧ ∀k (hk:k<s.L.length),i0≤k→oR (aM (s.L[k]).Path) (aM p)=false:=by
 obtain ⟨i0,h1,h2,h3⟩:=DT hs (aM p)
 have hah: ∀n∈s.L,rX n.Path p=oR (aM n.Path) (aM p):=fun n hn=>by unfold rX;rw [hs.1 n hn,hp];rfl
 have cG: ∀k (hk:k<s.L.length),k<i0→(s.L[k]).Path≠p:=fun k hk Xy he=>by
  have:=h2 k hk Xy
  rw [he,zm] at this;cases this
 have VP:=xr (L:=s.L) (t:=p) (cmp:=bW) (g:=fun n=>if n.Path=p then 0 else if rX n.Path p then-1 else 1) (i0:=i0) (by omega) (fun n _=>DS n p) h1
  (fun k hk Xy=>by
   rw [if_neg (cG k hk Xy),hah _ (List.getElem_mem hk),h2 k hk Xy];decide)
  (fun k hk Xy=>by
   rw [hah _ (List.getElem_mem hk),h3 k hk Xy]
   split<;>simp)
 have HP:0≤Al (s.L.map (·.Path)) p→Al (s.L.map (·.Path)) p=i0∧ ∃hk:i0<s.L.length,(s.L[i0]).Path=p:=by
  intro h0
  have dx:=Sl h0
  rw [List.length_map] at dx
  obtain ⟨k,hk,Sd,Xe⟩: ∃k,∃hk:k<s.L.length,(s.L[k]).Path=p∧Al (s.L.map (·.Path)) p=k:=by
   unfold Al at h0⊢
   cases hf:(s.L.map (·.Path)).findIdx? (fun x=>decide (x=p)) with
   |none=>rw [hf] at h0;simp at h0
   |some k=>
    have LX:=hf
    rw [List.findIdx?_eq_some_iff_getElem] at LX
    obtain ⟨hk,hd,_⟩:=LX
    exact ⟨k,by simpa using hk,by simpa using hd,rfl⟩
  have Ua:k=i0:=by
   rcases Nat.lt_trichotomy k i0 with h|h|h
   ·exact absurd Sd (cG k hk h)
   ·exact h
   ·have hi:i0<s.L.length:=by omega
    have:=List.pairwise_iff_getElem.1 hs.2 i0 k hi hk h
    rw [Sd,h3 i0 hi (Nat.le_refl _)] at this
    cases this
  subst Ua
  exact ⟨Xe,hk,Sd⟩
 refine ⟨i0,h1,?_,fun h0=>(HP h0).1,h2,h3⟩
 rw [JB,VP]
 congr 2
 by_cases h0:0≤Al (s.L.map (·.Path)) p
 ·obtain ⟨_,hk,Sd⟩:=HP h0
  rw [List.getElem?_eq_getElem hk,decide_eq_true h0];simp [Sd]
 ·rw [decide_eq_false h0]
  by_cases hk:i0<s.L.length
  ·rw [List.getElem?_eq_getElem hk]
   have VT:(s.L[i0]).Path≠p:=by
    intro he
    apply h0
    have:Al (s.L.map (·.Path)) p=i0:=Sk (by simpa using hk) (by simpa using he) (fun j hj=>by simpa using cG j (by omega) hj)
    rw [this];omega
   simp only [VT,if_false]
   split<;>rfl
  ·rw [List.getElem?_eq_none (by omega)]
def Wx:ae:=⟨[],[],0,0⟩
def cL (L:List ae) (p:List UInt8):Int×Int:=if bJ p then (if 0≤Al (L.map (·.Path)) p then (Al (L.map (·.Path)) p,0) else (0,6)) else (0,13)
theorem find_eq {s:aB} (hs:oT s.L) (hl:s.L.length<2^40) (p:List UInt8):eW s p=some (cL s.L p):=by
 unfold eW cL
 rw [sZ,aR]
 cases hp:bJ p with
 |false=>rfl
 |true=>
  obtain ⟨i0,_,h1,h2,_⟩:=JC hs hl hp
  rw [if_neg (by decide),h1,aR,if_pos rfl]
  by_cases h0:0≤Al (s.L.map (·.Path)) p
  ·rw [decide_eq_true h0,if_pos h0,h2 h0];simp
  ·rw [decide_eq_false h0,if_neg h0];simp
def jD (L:List ae) (p:List UInt8):ae×Int:=if (cL L p).2=0 then ((L[(cL L p).1.toNat]?).getD Wx,0) else (Wx,(cL L p).2)
theorem HG {L:List ae} {p:List UInt8} (h:(cL L p).2=0):0≤(cL L p).1∧(cL L p).1.toNat<L.length:=by
 unfold cL at h⊢
 cases hp:bJ p with
 |false=>rw [hp] at h;simp at h
 |true=>
  rw [hp] at h
  by_cases h0:0≤Al (L.map (·.Path)) p
  ·simp only [if_true,h0]
   exact ⟨trivial,by simpa using Sl h0⟩
  ·simp [h0] at h
theorem get_eq {s:aB} (hs:oT s.L) (hl:s.L.length<2^40) (p:List UInt8):nA s p=some (jD s.L p):=by
 unfold nA jD
 rw [find_eq hs hl,aR]
 by_cases h:(cL s.L p).2=0
 ·obtain ⟨h1,h2⟩:=HG h
  rw [decide_eq_true h,if_neg (by decide),if_pos h,Ah h1 h2,List.getElem?_eq_getElem h2];rfl
 ·rw [decide_eq_false h,if_pos (by decide),if_neg h];rfl
end Dn.S
