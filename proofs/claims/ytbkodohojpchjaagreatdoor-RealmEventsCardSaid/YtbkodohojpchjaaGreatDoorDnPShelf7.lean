import Derived.Test.YtbkodohojpchjaaGreatDoorDnPShelf6
/-
  Shelves: which may be, in words of their nodes; ShelfDrops. Conditions: none.
-/
open Go Dn
set_option linter.unusedVariables false
set_option linter.unusedSimpArgs false
namespace Dn.S
structure ja (L:List ae):Prop where
 len:L.length≤200
 ord:oT L
 root: ∃m∈L,m.Path=[47]
 xv: ∀n∈L,n.Value.length≤1000∧0≤n.Version∧n.Version≤1000000000∧0≤n.cS
 top: ∀n∈L,n.Path=[47]→n.cS=0
 grown: ∀n∈L,n.Path≠[47]→ ∃m∈L,m.Path=(ez n.Path).1∧m.cS=0
theorem Lw:aM [47]=[]:=by unfold aM;simp
theorem Lx {p:List UInt8} (h:bJ p=true):(ez p).2=0↔p≠[47]:=by
 unfold ez
 rw [h]
 by_cases h0:p=[47]<;>simp [h0]
theorem JF {α:Type} (q:α→Bool) (l:List α):(l.filter q).length+(l.filter fun n=>!q n).length=l.length:=by
 induction l with
 |nil=>rfl
 |cons a l ih=>cases h:q a<;>simp [h]<;>omega
def uD (owner:Int) (n:ae):Bool:=!(decide (0<owner)&&decide (n.cS=owner))
theorem Ba {α:Type} (q:α→Bool) {L:List α} {k:Nat} (hk:k<L.length):(L.take (k+1)).filter q=if q L[k] then (L.take k).filter q++[L[k]] else (L.take k).filter q:=by
 rw [take_succ hk,List.filter_append]
 by_cases h:q L[k]=true
 ·simp [h]
 ·simp [h]
def cR (L:List ae) (owner:Int):List ae×List (List UInt8):=(L.filter (uD owner),(L.filter fun n=>!uD owner n).map (·.Path))
theorem drop_eq (s:aB) (owner:Int) (hl:s.L.length<2^40):pR s owner=some (⟨(cR s.L owner).1⟩,(cR s.L owner).2):=by
 have iw:Loop (mH s owner) (([]:List (List UInt8)),([]:List ae),0)=some ((cR s.L owner).2,(cR s.L owner).1):=by
  refine bV.eq (bV.count (fun k=>((cR (s.L.take k) owner).2,(cR (s.L.take k) owner).1,(k:Int))) s.L.length (fun _=>True) rfl trivial (fun k hk _=> ?_) (fun _=> ?_))
  ·have l1:(cR (s.L.take k) owner).1.length≤k:=by
    unfold cR
    have:=List.length_filter_le (uD owner) (s.L.take k)
    rw [List.length_take] at this;dsimp only;omega
   have l2:(cR (s.L.take k) owner).2.length≤k:=by
    unfold cR
    have:=List.length_filter_le (fun n=>!uD owner n) (s.L.take k)
    rw [List.length_take] at this;dsimp only;rw [List.length_map];omega
   have e1:=Ba (uD owner) hk
   have e2:=Ba (fun n=>!uD owner n) hk
   unfold mH
   dsimp only
   rw [if_pos (by omega),cg hk]
   have hw:(if (0:Int)<owner then some (decide ((s.L[k]).cS=owner)) else some false)=some (!uD owner s.L[k]):=by
    unfold uD
    by_cases h:(0:Int)<owner<;>simp [h]
   rw [hw,aR,wrap64 (by omega) (by omega)]
   cases dH:uD owner s.L[k] with
   |true=>
    rw [if_neg (by decide),if_pos (by simp only [List.length_cons,List.length_nil];omega)]
    rw [dH] at e1 e2
    refine .mk ⟨?_,trivial⟩
    unfold cR
    rw [e1,e2];rfl
   |false=>
    rw [if_pos (by decide),if_pos (by simp only [List.length_cons,List.length_nil];omega)]
    rw [dH] at e1 e2
    refine .mk ⟨?_,trivial⟩
    unfold cR
    rw [e1,e2]
    simp
  ·unfold mH
   dsimp only
   rw [if_neg (by omega),List.take_length]
   exact .mk rfl
 unfold pR
 rw [iw];rfl
theorem MR {L M:List ae} (h:M.Sublist L) (hs:oT L):oT M:=⟨fun n hn=>hs.1 n (h.subset hn),hs.2.sublist h⟩
theorem MU {L:List ae} (h:ja L) (owner:Int):ja (cR L owner).1:=by
 have eF:(L.filter (uD owner)).Sublist L:=List.filter_sublist
 have dH: ∀n∈L,n.cS=0→uD owner n=true:=by
  intro n _ h0
  unfold uD
  rw [h0]
  by_cases hp:(0:Int)<owner
  ·simp [hp];omega
  ·simp [hp]
 refine ⟨Nat.le_trans eF.length_le h.len,MR eF h.ord,?_,fun n hn=>h.xv n (eF.subset hn),fun n hn=>h.top n (eF.subset hn),fun n hn hr=> ?_⟩
 ·obtain ⟨m,hm,hr⟩:=h.root
  exact ⟨m,List.mem_filter.2 ⟨hm,dH m hm (h.top m hm hr)⟩,hr⟩
 ·obtain ⟨m,hm,h1,h2⟩:=h.grown n (eF.subset hn) hr
  exact ⟨m,List.mem_filter.2 ⟨hm,dH m hm h2⟩,h1,h2⟩
theorem So {L:List ae} (hs:oT L) {a b:ae} (ha:a∈L) (hb:b∈L) (h:a.Path=b.Path):a=b:=by
 obtain ⟨i,hi,rfl⟩:=List.mem_iff_getElem.1 ha
 obtain ⟨j,hj,rfl⟩:=List.mem_iff_getElem.1 hb
 have:=BR hs hi hj h
 subst this;rfl
end Dn.S
