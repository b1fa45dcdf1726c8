import Derived.Test.YtbkodohojpchjaaGreatDoorDnPShelf6
/-
  Shelves: which may be, in words of their nodes; ShelfDrops. Conditions: none.
-/
open Go Dn
set_option linter.unusedVariables false
set_option linter.unusedSimpArgs false
namespace Dn.S
structure ik (L:List ae):Prop where
 len:L.length≤200
 ord:nB L
 root: ∃m∈L,m.Path=[47]
 vr: ∀n∈L,n.Value.length≤1000∧0≤n.Version∧n.Version≤1000000000∧0≤n.bj
 top: ∀n∈L,n.Path=[47]→n.bj=0
 grown: ∀n∈L,n.Path≠[47]→ ∃m∈L,m.Path=(cK n.Path).1∧m.bj=0
theorem Wh (a:List (List UInt8)):o8 a []=false:=by cases a<;>rfl
theorem EQ:aP [47]=[]:=by unfold aP;simp
theorem q0 {p:List UInt8} (h:bw p=true):(cK p).2=0↔p≠[47]:=by
 unfold cK
 rw [h]
 by_cases h0:p=[47]<;>simp [h0]
theorem ZF {l:List (List UInt8)} {p:List UInt8} (h:0≤tH l p): ∃k,∃hk:k<l.length,tH l p=(k:Int)∧l[k]=p:=by
 unfold tH at h⊢
 cases hf:l.findIdx? (fun x=>decide (x=p)) with
 |none=>rw [hf] at h;simp at h
 |some k=>
  rw [List.findIdx?_eq_some_iff_getElem] at hf
  obtain ⟨hk,hd,_⟩:=hf
  exact ⟨k,hk,rfl,by simpa using hd⟩
theorem KJ {α:Type} (q:α→Bool) (l:List α):(l.filter q).length+(l.filter fun n=>!q n).length=l.length:=by
 induction l with
 |nil=>rfl
 |cons a l ih=>cases h:q a<;>simp [h]<;>omega
theorem KK {L:List ae} (hs:nB L) {p:List UInt8}:N3 L p=true↔ ∃m∈L,m.Path=p∧m.bj=0:=by
 unfold N3
 constructor
 ·intro h
  simp only [Bool.and_eq_true,decide_eq_true_eq] at h
  obtain ⟨h0,h1⟩:=h
  have cz:=ID h0
  rw [List.length_map] at cz
  rw [List.getElem?_eq_getElem cz] at h1
  simp only [decide_eq_true_eq] at h1
  obtain ⟨k,hk,e,PM⟩:=ZF h0
  rw [List.length_map] at hk
  refine ⟨_,List.getElem_mem cz,?_,h1⟩
  have:(tH (L.map (·.Path)) p).toNat=k:=by rw [e];rfl
  simp only [this]
  simpa using PM
 ·rintro ⟨m,hm,rfl,ho⟩
  obtain ⟨i,hi,rfl⟩:=List.mem_iff_getElem.1 hm
  have:=MH hs hi
  unfold cG at this
  rw [dr hs hi] at this
  by_cases h0:0≤tH (L.map (·.Path)) (L[i]).Path
  ·simp only [if_true,h0,Prod.mk.injEq,and_true] at this
   rw [this]
   simp [List.getElem?_eq_getElem hi,ho]
  ·simp [h0] at this
theorem PV {L:List ae}:yU L=true↔ik L:=by
 constructor
 ·intro h
  have hs:=MD h
  unfold yU at h
  simp only [Bool.and_eq_true,List.all_eq_true,List.mem_range,decide_eq_true_eq] at h
  obtain ⟨⟨h1,h2⟩,h3,h4⟩:=h
  have hn: ∀n∈L,n.Value.length≤1000∧0≤n.Version∧n.Version≤1000000000∧0≤n.bj∧sN L n=true:=by
   intro n hn
   obtain ⟨k,hk,rfl⟩:=List.mem_iff_getElem.1 hn
   have:=h4 k hk
   unfold Tq at this
   rw [List.getElem?_eq_getElem hk] at this
   simp only [Bool.and_eq_true,decide_eq_true_eq] at this
   obtain ⟨⟨_,g1,g2,g3,g4,g5⟩,_⟩:=this
   exact ⟨g1,g2,g3,g4,g5⟩
  refine ⟨h2,hs,?_,fun n h=>⟨(hn n h).1,(hn n h).2.1,(hn n h).2.2.1,(hn n h).2.2.2.1⟩,?_,?_⟩
  ·cases L with
   |nil=>simp at h1
   |cons a l=>simp at h3;exact ⟨a,by simp,h3⟩
  ·intro n h hr
   have hg:=(hn n h).2.2.2.2
   unfold sN at hg
   have: ¬(cK n.Path).2=0:=fun e=>((q0 (hs.1 n h)).1 e) hr
   rw [if_neg this] at hg
   simpa using hg
  ·intro n h hr
   have hg:=(hn n h).2.2.2.2
   unfold sN at hg
   rw [if_pos ((q0 (hs.1 n h)).2 hr)] at hg
   exact (KK hs).1 hg
 ·intro h
  have hs:=h.ord
  obtain ⟨m,hm,hmr⟩:=h.root
  obtain ⟨i,hi,rfl⟩:=List.mem_iff_getElem.1 hm
  have hi0:i=0:=by
   by_cases h0:i=0
   ·exact h0
   ·have:=yV hs (show 0<L.length by omega) hi (by omega)
    rw [hmr,EQ,Wh] at this;cases this
  subst hi0
  have hhd:(L.map (·.Path)).head? =some [47]:=by
   rw [List.head?_map,List.head?_eq_getElem?,List.getElem?_eq_getElem hi]
   simp [hmr]
  unfold yU
  rw [hhd]
  simp only [Bool.and_eq_true,List.all_eq_true,List.mem_range,decide_eq_true_eq]
  refine ⟨⟨by omega,h.len⟩,trivial,fun k hk=> ?_⟩
  have su:=List.getElem_mem hk
  obtain ⟨f1,f2,f3,f4⟩:=h.vr _ su
  have hg:sN L L[k]=true:=by
   unfold sN
   by_cases hr:(L[k]).Path=[47]
   ·rw [if_neg (fun e=>((q0 (dr hs hk)).1 e) hr)]
    simp [h.top _ su hr]
   ·rw [if_pos ((q0 (dr hs hk)).2 hr)]
    exact (KK hs).2 (h.grown _ su hr)
  unfold Tq
  rw [List.getElem?_eq_getElem hk]
  dsimp only
  rw [dr hs hk,decide_eq_true f1,decide_eq_true f2,decide_eq_true f3,decide_eq_true f4,hg]
  by_cases O3:k=0
  ·simp [O3]
  ·rw [List.getElem?_eq_getElem (show k-1<L.length by omega)]
   have:=yV hs (show k-1<L.length by omega) hk (by omega)
   simp [O3,mF,dr hs (show k-1<L.length by omega),dr hs hk,this]
def tI (owner:Int) (n:ae):Bool:=!(decide (0<owner)&&decide (n.bj=owner))
theorem BP {α:Type} (q:α→Bool) {L:List α} {k:Nat} (hk:k<L.length):(L.take (k+1)).filter q=if q L[k] then (L.take k).filter q++[L[k]] else (L.take k).filter q:=by
 rw [take_succ hk,List.filter_append]
 by_cases h:q L[k]=true
 ·simp [h]
 ·simp [h]
def cN (L:List ae) (owner:Int):List ae×List (List UInt8):=(L.filter (tI owner),(L.filter fun n=>!tI owner n).map (·.Path))
theorem drop_eq (s:av) (owner:Int) (hl:s.L.length<2^40):qx s owner=some (⟨(cN s.L owner).1⟩,(cN s.L owner).2):=by
 have fZ:Loop (na s owner) (([]:List (List UInt8)),([]:List ae),0)=some ((cN s.L owner).2,(cN s.L owner).1):=by
  refine bK.eq (bK.count (fun k=>((cN (s.L.take k) owner).2,(cN (s.L.take k) owner).1,(k:Int))) s.L.length (fun _=>True) rfl trivial (fun k hk _=> ?_) (fun _=> ?_))
  ·have l1:(cN (s.L.take k) owner).1.length≤k:=by
    unfold cN
    have:=List.length_filter_le (tI owner) (s.L.take k)
    rw [List.length_take] at this;dsimp only;omega
   have l2:(cN (s.L.take k) owner).2.length≤k:=by
    unfold cN
    have:=List.length_filter_le (fun n=>!tI owner n) (s.L.take k)
    rw [List.length_take] at this;dsimp only;rw [List.length_map];omega
   have e1:=BP (tI owner) hk
   have e2:=BP (fun n=>!tI owner n) hk
   unfold na
   dsimp only
   rw [if_pos (by omega),cg hk]
   have hw:(if (0:Int)<owner then some (decide ((s.L[k]).bj=owner)) else some false)=some (!tI owner s.L[k]):=by
    unfold tI
    by_cases h:(0:Int)<owner<;>simp [h]
   rw [hw,aM,wrap64 (by omega) (by omega)]
   cases dM:tI owner s.L[k] with
   |true=>
    rw [if_neg (by decide),if_pos (by simp only [List.length_cons,List.length_nil];omega)]
    rw [dM] at e1 e2
    refine .mk ⟨?_,trivial⟩
    unfold cN
    rw [e1,e2];rfl
   |false=>
    rw [if_pos (by decide),if_pos (by simp only [List.length_cons,List.length_nil];omega)]
    rw [dM] at e1 e2
    refine .mk ⟨?_,trivial⟩
    unfold cN
    rw [e1,e2]
    simp
  ·unfold na
   dsimp only
   rw [if_neg (by omega),List.take_length]
   exact .mk rfl
 unfold qx
 rw [fZ];rfl
theorem N5 {L M:List ae} (h:M.Sublist L) (hs:nB L):nB M:=⟨fun n hn=>hs.1 n (h.subset hn),hs.2.sublist h⟩
theorem N6 {L:List ae} (h:ik L) (owner:Int):ik (cN L owner).1:=by
 have eQ:(L.filter (tI owner)).Sublist L:=List.filter_sublist
 have dM: ∀n∈L,n.bj=0→tI owner n=true:=by
  intro n _ h0
  unfold tI
  rw [h0]
  by_cases hp:(0:Int)<owner
  ·simp [hp];omega
  ·simp [hp]
 refine ⟨Nat.le_trans eQ.length_le h.len,N5 eQ h.ord,?_,fun n hn=>h.vr n (eQ.subset hn),fun n hn=>h.top n (eQ.subset hn),fun n hn hr=> ?_⟩
 ·obtain ⟨m,hm,hr⟩:=h.root
  exact ⟨m,List.mem_filter.2 ⟨hm,dM m hm (h.top m hm hr)⟩,hr⟩
 ·obtain ⟨m,hm,h1,h2⟩:=h.grown n (eQ.subset hn) hr
  exact ⟨m,List.mem_filter.2 ⟨hm,dM m hm h2⟩,h1,h2⟩
theorem Ts {L:List ae} (hs:nB L) {a b:ae} (ha:a∈L) (hb:b∈L) (h:a.Path=b.Path):a=b:=by
 obtain ⟨i,hi,rfl⟩:=List.mem_iff_getElem.1 ha
 obtain ⟨j,hj,rfl⟩:=List.mem_iff_getElem.1 hb
 have:=zZ hs hi hj h
 subst this;rfl
end Dn.S
