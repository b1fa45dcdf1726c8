import Derived.Test.YtbkodohojpchjaaGreatDoorDnPShelf6
/-
  Shelves: which may be, in words of their nodes; ShelfDrops. Conditions: none.
-/
open Go Dn
set_option linter.unusedVariables false
set_option linter.unusedSimpArgs false
namespace Dn.S
structure gO (L:List ae):Prop where
 len:L.length≤200
 ord:nl L
 root: ∃m∈L,m.Path=[47]
 wu: ∀n∈L,n.Value.length≤1000∧0≤n.Version∧n.Version≤1000000000∧0≤n.bI
 top: ∀n∈L,n.Path=[47]→n.bI=0
 grown: ∀n∈L,n.Path≠[47]→ ∃m∈L,m.Path=(cJ n.Path).1∧m.bI=0
theorem Y4 (a:List (List UInt8)):mU a []=false:=by cases a<;>rfl
theorem GF:aL [47]=[]:=by unfold aL;simp
theorem rU {p:List UInt8} (h:bk p=true):(cJ p).2=0↔p≠[47]:=by
 unfold cJ
 rw [h]
 by_cases h0:p=[47]<;>simp [h0]
theorem acC {l:List (List UInt8)} {p:List UInt8} (h:0≤pJ l p): ∃k,∃hk:k<l.length,pJ l p=(k:Int)∧l[k]=p:=by
 unfold pJ at h⊢
 cases hf:l.findIdx? (fun x=>decide (x=p)) with
 |none=>rw [hf] at h;simp at h
 |some k=>
  rw [List.findIdx?_eq_some_iff_getElem] at hf
  obtain ⟨hk,hd,_⟩:=hf
  exact ⟨k,hk,rfl,by simpa using hd⟩
theorem MG {α:Type} (q:α→Bool) (l:List α):(l.filter q).length+(l.filter fun n=>!q n).length=l.length:=by
 induction l with
 |nil=>rfl
 |cons a l ih=>cases h:q a<;>simp [h]<;>omega
theorem MH {L:List ae} (hs:nl L) {p:List UInt8}:Qi L p=true↔ ∃m∈L,m.Path=p∧m.bI=0:=by
 unfold Qi
 constructor
 ·intro h
  simp only [Bool.and_eq_true,decide_eq_true_eq] at h
  obtain ⟨h0,h1⟩:=h
  have da:=Kz h0
  rw [List.length_map] at da
  rw [List.getElem?_eq_getElem da] at h1
  simp only [decide_eq_true_eq] at h1
  obtain ⟨k,hk,e,OR⟩:=acC h0
  rw [List.length_map] at hk
  refine ⟨_,List.getElem_mem da,?_,h1⟩
  have:(pJ (L.map (·.Path)) p).toNat=k:=by rw [e];rfl
  simp only [this]
  simpa using OR
 ·rintro ⟨m,hm,rfl,ho⟩
  obtain ⟨i,hi,rfl⟩:=List.mem_iff_getElem.1 hm
  have:=GD hs hi
  unfold cg at this
  rw [dJ hs hi] at this
  by_cases h0:0≤pJ (L.map (·.Path)) (L[i]).Path
  ·simp only [if_true,h0,Prod.mk.injEq,and_true] at this
   rw [this]
   simp [List.getElem?_eq_getElem hi,ho]
  ·simp [h0] at this
theorem Jc {L:List ae}:xJ L=true↔gO L:=by
 constructor
 ·intro h
  have hs:=OX h
  unfold xJ at h
  simp only [Bool.and_eq_true,List.all_eq_true,List.mem_range,decide_eq_true_eq] at h
  obtain ⟨⟨h1,h2⟩,h3,h4⟩:=h
  have hn: ∀n∈L,n.Value.length≤1000∧0≤n.Version∧n.Version≤1000000000∧0≤n.bI∧rT L n=true:=by
   intro n hn
   obtain ⟨k,hk,rfl⟩:=List.mem_iff_getElem.1 hn
   have:=h4 k hk
   unfold V0 at this
   rw [List.getElem?_eq_getElem hk] at this
   simp only [Bool.and_eq_true,decide_eq_true_eq] at this
   obtain ⟨⟨_,g1,g2,g3,g4,g5⟩,_⟩:=this
   exact ⟨g1,g2,g3,g4,g5⟩
  refine ⟨h2,hs,?_,fun n h=>⟨(hn n h).1,(hn n h).2.1,(hn n h).2.2.1,(hn n h).2.2.2.1⟩,?_,?_⟩
  ·cases L with
   |nil=>simp at h1
   |cons a l=>simp at h3;exact ⟨a,by simp,h3⟩
  ·intro n h hr
   have hg:=(hn n h).2.2.2.2
   unfold rT at hg
   have: ¬(cJ n.Path).2=0:=fun e=>((rU (hs.1 n h)).1 e) hr
   rw [if_neg this] at hg
   simpa using hg
  ·intro n h hr
   have hg:=(hn n h).2.2.2.2
   unfold rT at hg
   rw [if_pos ((rU (hs.1 n h)).2 hr)] at hg
   exact (MH hs).1 hg
 ·intro h
  have hs:=h.ord
  obtain ⟨m,hm,hmr⟩:=h.root
  obtain ⟨i,hi,rfl⟩:=List.mem_iff_getElem.1 hm
  have hi0:i=0:=by
   by_cases h0:i=0
   ·exact h0
   ·have:=z6 hs (show 0<L.length by omega) hi (by omega)
    rw [hmr,GF,Y4] at this;cases this
  subst hi0
  have hhd:(L.map (·.Path)).head? =some [47]:=by
   rw [List.head?_map,List.head?_eq_getElem?,List.getElem?_eq_getElem hi]
   simp [hmr]
  unfold xJ
  rw [hhd]
  simp only [Bool.and_eq_true,List.all_eq_true,List.mem_range,decide_eq_true_eq]
  refine ⟨⟨by omega,h.len⟩,trivial,fun k hk=> ?_⟩
  have tk:=List.getElem_mem hk
  obtain ⟨f1,f2,f3,f4⟩:=h.wu _ tk
  have hg:rT L L[k]=true:=by
   unfold rT
   by_cases hr:(L[k]).Path=[47]
   ·rw [if_neg (fun e=>((rU (dJ hs hk)).1 e) hr)]
    simp [h.top _ tk hr]
   ·rw [if_pos ((rU (dJ hs hk)).2 hr)]
    exact (MH hs).2 (h.grown _ tk hr)
  unfold V0
  rw [List.getElem?_eq_getElem hk]
  dsimp only
  rw [dJ hs hk,decide_eq_true f1,decide_eq_true f2,decide_eq_true f3,decide_eq_true f4,hg]
  by_cases Rf:k=0
  ·simp [Rf]
  ·rw [List.getElem?_eq_getElem (show k-1<L.length by omega)]
   have:=z6 hs (show k-1<L.length by omega) hk (by omega)
   simp [Rf,lf,dJ hs (show k-1<L.length by omega),dJ hs hk,this]
def wm (owner:Int) (n:ae):Bool:=!(decide (0<owner)&&decide (n.bI=owner))
theorem Dd {α:Type} (q:α→Bool) {L:List α} {k:Nat} (hk:k<L.length):(L.take (k+1)).filter q=if q L[k] then (L.take k).filter q++[L[k]] else (L.take k).filter q:=by
 rw [take_succ hk,List.filter_append]
 by_cases h:q L[k]=true
 ·simp [h]
 ·simp [h]
def dn (L:List ae) (owner:Int):List ae×List (List UInt8):=(L.filter (wm owner),(L.filter fun n=>!wm owner n).map (·.Path))
theorem drop_eq (s:ay) (owner:Int) (hl:s.L.length<2^40):re s owner=some (⟨(dn s.L owner).1⟩,(dn s.L owner).2):=by
 have fT:Loop (nA s owner) (([]:List (List UInt8)),([]:List ae),0)=some ((dn s.L owner).2,(dn s.L owner).1):=by
  refine bq.eq (bq.count (fun k=>((dn (s.L.take k) owner).2,(dn (s.L.take k) owner).1,(k:Int))) s.L.length (fun _=>True) rfl trivial (fun k hk _=> ?_) (fun _=> ?_))
  ·have l1:(dn (s.L.take k) owner).1.length≤k:=by
    unfold dn
    have:=List.length_filter_le (wm owner) (s.L.take k)
    rw [List.length_take] at this;dsimp only;omega
   have l2:(dn (s.L.take k) owner).2.length≤k:=by
    unfold dn
    have:=List.length_filter_le (fun n=>!wm owner n) (s.L.take k)
    rw [List.length_take] at this;dsimp only;rw [List.length_map];omega
   have e1:=Dd (wm owner) hk
   have e2:=Dd (fun n=>!wm owner n) hk
   unfold nA
   dsimp only
   rw [if_pos (by omega),bx hk]
   have hw:(if (0:Int)<owner then some (decide ((s.L[k]).bI=owner)) else some false)=some (!wm owner s.L[k]):=by
    unfold wm
    by_cases h:(0:Int)<owner<;>simp [h]
   rw [hw,aC,wrap64 (by omega) (by omega)]
   cases ek:wm owner s.L[k] with
   |true=>
    rw [if_neg (by decide),if_pos (by simp only [List.length_cons,List.length_nil];omega)]
    rw [ek] at e1 e2
    refine .mk ⟨?_,trivial⟩
    unfold dn
    rw [e1,e2];rfl
   |false=>
    rw [if_pos (by decide),if_pos (by simp only [List.length_cons,List.length_nil];omega)]
    rw [ek] at e1 e2
    refine .mk ⟨?_,trivial⟩
    unfold dn
    rw [e1,e2]
    simp
  ·unfold nA
   dsimp only
   rw [if_neg (by omega),List.take_length]
   exact .mk rfl
 unfold re
 rw [fT];rfl
theorem Qk {L M:List ae} (h:M.Sublist L) (hs:nl L):nl M:=⟨fun n hn=>hs.1 n (h.subset hn),hs.2.sublist h⟩
theorem Ql {L:List ae} (h:gO L) (owner:Int):gO (dn L owner).1:=by
 have fj:(L.filter (wm owner)).Sublist L:=List.filter_sublist
 have ek: ∀n∈L,n.bI=0→wm owner n=true:=by
  intro n _ h0
  unfold wm
  rw [h0]
  by_cases hp:(0:Int)<owner
  ·simp [hp];omega
  ·simp [hp]
 refine ⟨Nat.le_trans fj.length_le h.len,Qk fj h.ord,?_,fun n hn=>h.wu n (fj.subset hn),fun n hn=>h.top n (fj.subset hn),fun n hn hr=> ?_⟩
 ·obtain ⟨m,hm,hr⟩:=h.root
  exact ⟨m,List.mem_filter.2 ⟨hm,ek m hm (h.top m hm hr)⟩,hr⟩
 ·obtain ⟨m,hm,h1,h2⟩:=h.grown n (fj.subset hn) hr
  exact ⟨m,List.mem_filter.2 ⟨hm,ek m hm h2⟩,h1,h2⟩
theorem V5 {L:List ae} (hs:nl L) {a b:ae} (ha:a∈L) (hb:b∈L) (h:a.Path=b.Path):a=b:=by
 obtain ⟨i,hi,rfl⟩:=List.mem_iff_getElem.1 ha
 obtain ⟨j,hj,rfl⟩:=List.mem_iff_getElem.1 hb
 have:=Bq hs hi hj h
 subst this;rfl
end Dn.S
