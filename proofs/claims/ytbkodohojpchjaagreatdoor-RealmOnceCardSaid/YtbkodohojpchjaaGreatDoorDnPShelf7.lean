import Derived.Test.YtbkodohojpchjaaGreatDoorDnPShelf6
/-
  Shelves: which may be, in words of their nodes; ShelfDrops. Conditions: none.
-/
open Go Dn
set_option linter.unusedVariables false
set_option linter.unusedSimpArgs false
namespace Dn.S
structure iW (L:List ae):Prop where
 len:L.length≤200
 ord:nY L
 root: ∃m∈L,m.Path=[47]
 yV: ∀n∈L,n.Value.length≤1000∧0≤n.Version∧n.Version≤1000000000∧0≤n.bJ
 top: ∀n∈L,n.Path=[47]→n.bJ=0
 grown: ∀n∈L,n.Path≠[47]→ ∃m∈L,m.Path=(cM n.Path).1∧m.bJ=0
theorem ZI (a:List (List UInt8)):mW a []=false:=by cases a<;>rfl
theorem GF:aK [47]=[]:=by unfold aK;simp
theorem r5 {p:List UInt8} (h:bm p=true):(cM p).2=0↔p≠[47]:=by
 unfold cM
 rw [h]
 by_cases h0:p=[47]<;>simp [h0]
theorem ac6 {l:List (List UInt8)} {p:List UInt8} (h:0≤qg l p): ∃k,∃hk:k<l.length,qg l p=(k:Int)∧l[k]=p:=by
 unfold qg at h⊢
 cases hf:l.findIdx? (fun x=>decide (x=p)) with
 |none=>rw [hf] at h;simp at h
 |some k=>
  rw [List.findIdx?_eq_some_iff_getElem] at hf
  obtain ⟨hk,hd,_⟩:=hf
  exact ⟨k,hk,rfl,by simpa using hd⟩
theorem M0 {α:Type} (q:α→Bool) (l:List α):(l.filter q).length+(l.filter fun n=>!q n).length=l.length:=by
 induction l with
 |nil=>rfl
 |cons a l ih=>cases h:q a<;>simp [h]<;>omega
theorem M1 {L:List ae} (hs:nY L) {p:List UInt8}:QI L p=true↔ ∃m∈L,m.Path=p∧m.bJ=0:=by
 unfold QI
 constructor
 ·intro h
  simp only [Bool.and_eq_true,decide_eq_true_eq] at h
  obtain ⟨h0,h1⟩:=h
  have dn:=KP h0
  rw [List.length_map] at dn
  rw [List.getElem?_eq_getElem dn] at h1
  simp only [decide_eq_true_eq] at h1
  obtain ⟨k,hk,e,O8⟩:=ac6 h0
  rw [List.length_map] at hk
  refine ⟨_,List.getElem_mem dn,?_,h1⟩
  have:(qg (L.map (·.Path)) p).toNat=k:=by rw [e];rfl
  simp only [this]
  simpa using O8
 ·rintro ⟨m,hm,rfl,ho⟩
  obtain ⟨i,hi,rfl⟩:=List.mem_iff_getElem.1 hm
  have:=Pl hs hi
  unfold cV at this
  rw [dP hs hi] at this
  by_cases h0:0≤qg (L.map (·.Path)) (L[i]).Path
  ·simp only [if_true,h0,Prod.mk.injEq,and_true] at this
   rw [this]
   simp [List.getElem?_eq_getElem hi,ho]
  ·simp [h0] at this
theorem Jm {L:List ae}:xY L=true↔iW L:=by
 constructor
 ·intro h
  have hs:=Pg h
  unfold xY at h
  simp only [Bool.and_eq_true,List.all_eq_true,List.mem_range,decide_eq_true_eq] at h
  obtain ⟨⟨h1,h2⟩,h3,h4⟩:=h
  have hn: ∀n∈L,n.Value.length≤1000∧0≤n.Version∧n.Version≤1000000000∧0≤n.bJ∧rZ L n=true:=by
   intro n hn
   obtain ⟨k,hk,rfl⟩:=List.mem_iff_getElem.1 hn
   have:=h4 k hk
   unfold Wu at this
   rw [List.getElem?_eq_getElem hk] at this
   simp only [Bool.and_eq_true,decide_eq_true_eq] at this
   obtain ⟨⟨_,g1,g2,g3,g4,g5⟩,_⟩:=this
   exact ⟨g1,g2,g3,g4,g5⟩
  refine ⟨h2,hs,?_,fun n h=>⟨(hn n h).1,(hn n h).2.1,(hn n h).2.2.1,(hn n h).2.2.2.1⟩,?_,?_⟩
  ·cases L with
   |nil=>simp at h1
   |cons a l=>simp at h3;exact ⟨a,by simp,h3⟩
  ·intro n h hr
   have hg:=(hn n h).2.2.2.2
   unfold rZ at hg
   have: ¬(cM n.Path).2=0:=fun e=>((r5 (hs.1 n h)).1 e) hr
   rw [if_neg this] at hg
   simpa using hg
  ·intro n h hr
   have hg:=(hn n h).2.2.2.2
   unfold rZ at hg
   rw [if_pos ((r5 (hs.1 n h)).2 hr)] at hg
   exact (M1 hs).1 hg
 ·intro h
  have hs:=h.ord
  obtain ⟨m,hm,hmr⟩:=h.root
  obtain ⟨i,hi,rfl⟩:=List.mem_iff_getElem.1 hm
  have hi0:i=0:=by
   by_cases h0:i=0
   ·exact h0
   ·have:=Ap hs (show 0<L.length by omega) hi (by omega)
    rw [hmr,GF,ZI] at this;cases this
  subst hi0
  have hhd:(L.map (·.Path)).head? =some [47]:=by
   rw [List.head?_map,List.head?_eq_getElem?,List.getElem?_eq_getElem hi]
   simp [hmr]
  unfold xY
  rw [hhd]
  simp only [Bool.and_eq_true,List.all_eq_true,List.mem_range,decide_eq_true_eq]
  refine ⟨⟨by omega,h.len⟩,trivial,fun k hk=> ?_⟩
  have tw:=List.getElem_mem hk
  obtain ⟨f1,f2,f3,f4⟩:=h.yV _ tw
  have hg:rZ L L[k]=true:=by
   unfold rZ
   by_cases hr:(L[k]).Path=[47]
   ·rw [if_neg (fun e=>((r5 (dP hs hk)).1 e) hr)]
    simp [h.top _ tw hr]
   ·rw [if_pos ((r5 (dP hs hk)).2 hr)]
    exact (M1 hs).2 (h.grown _ tw hr)
  unfold Wu
  rw [List.getElem?_eq_getElem hk]
  dsimp only
  rw [dP hs hk,decide_eq_true f1,decide_eq_true f2,decide_eq_true f3,decide_eq_true f4,hg]
  by_cases RE:k=0
  ·simp [RE]
  ·rw [List.getElem?_eq_getElem (show k-1<L.length by omega)]
   have:=Ap hs (show k-1<L.length by omega) hk (by omega)
   simp [RE,lf,dP hs (show k-1<L.length by omega),dP hs hk,this]
def wI (owner:Int) (n:ae):Bool:=!(decide (0<owner)&&decide (n.bJ=owner))
theorem Dm {α:Type} (q:α→Bool) {L:List α} {k:Nat} (hk:k<L.length):(L.take (k+1)).filter q=if q L[k] then (L.take k).filter q++[L[k]] else (L.take k).filter q:=by
 rw [take_succ hk,List.filter_append]
 by_cases h:q L[k]=true
 ·simp [h]
 ·simp [h]
def du (L:List ae) (owner:Int):List ae×List (List UInt8):=(L.filter (wI owner),(L.filter fun n=>!wI owner n).map (·.Path))
theorem drop_eq (s:ax) (owner:Int) (hl:s.L.length<2^40):ru s owner=some (⟨(du s.L owner).1⟩,(du s.L owner).2):=by
 have fW:Loop (nA s owner) (([]:List (List UInt8)),([]:List ae),0)=some ((du s.L owner).2,(du s.L owner).1):=by
  refine bu.eq (bu.count (fun k=>((du (s.L.take k) owner).2,(du (s.L.take k) owner).1,(k:Int))) s.L.length (fun _=>True) rfl trivial (fun k hk _=> ?_) (fun _=> ?_))
  ·have l1:(du (s.L.take k) owner).1.length≤k:=by
    unfold du
    have:=List.length_filter_le (wI owner) (s.L.take k)
    rw [List.length_take] at this;dsimp only;omega
   have l2:(du (s.L.take k) owner).2.length≤k:=by
    unfold du
    have:=List.length_filter_le (fun n=>!wI owner n) (s.L.take k)
    rw [List.length_take] at this;dsimp only;rw [List.length_map];omega
   have e1:=Dm (wI owner) hk
   have e2:=Dm (fun n=>!wI owner n) hk
   unfold nA
   dsimp only
   rw [if_pos (by omega),bt hk]
   have hw:(if (0:Int)<owner then some (decide ((s.L[k]).bJ=owner)) else some false)=some (!wI owner s.L[k]):=by
    unfold wI
    by_cases h:(0:Int)<owner<;>simp [h]
   rw [hw,aA,wrap64 (by omega) (by omega)]
   cases ez:wI owner s.L[k] with
   |true=>
    rw [if_neg (by decide),if_pos (by simp only [List.length_cons,List.length_nil];omega)]
    rw [ez] at e1 e2
    refine .mk ⟨?_,trivial⟩
    unfold du
    rw [e1,e2];rfl
   |false=>
    rw [if_pos (by decide),if_pos (by simp only [List.length_cons,List.length_nil];omega)]
    rw [ez] at e1 e2
    refine .mk ⟨?_,trivial⟩
    unfold du
    rw [e1,e2]
    simp
  ·unfold nA
   dsimp only
   rw [if_neg (by omega),List.take_length]
   exact .mk rfl
 unfold ru
 rw [fW];rfl
theorem QK {L M:List ae} (h:M.Sublist L) (hs:nY L):nY M:=⟨fun n hn=>hs.1 n (h.subset hn),hs.2.sublist h⟩
theorem QL {L:List ae} (h:iW L) (owner:Int):iW (du L owner).1:=by
 have ft:(L.filter (wI owner)).Sublist L:=List.filter_sublist
 have ez: ∀n∈L,n.bJ=0→wI owner n=true:=by
  intro n _ h0
  unfold wI
  rw [h0]
  by_cases hp:(0:Int)<owner
  ·simp [hp];omega
  ·simp [hp]
 refine ⟨Nat.le_trans ft.length_le h.len,QK ft h.ord,?_,fun n hn=>h.yV n (ft.subset hn),fun n hn=>h.top n (ft.subset hn),fun n hn hr=> ?_⟩
 ·obtain ⟨m,hm,hr⟩:=h.root
  exact ⟨m,List.mem_filter.2 ⟨hm,ez m hm (h.top m hm hr)⟩,hr⟩
 ·obtain ⟨m,hm,h1,h2⟩:=h.grown n (ft.subset hn) hr
  exact ⟨m,List.mem_filter.2 ⟨hm,ez m hm h2⟩,h1,h2⟩
theorem Wx {L:List ae} (hs:nY L) {a b:ae} (ha:a∈L) (hb:b∈L) (h:a.Path=b.Path):a=b:=by
 obtain ⟨i,hi,rfl⟩:=List.mem_iff_getElem.1 ha
 obtain ⟨j,hj,rfl⟩:=List.mem_iff_getElem.1 hb
 have:=BC hs hi hj h
 subst this;rfl
end Dn.S
