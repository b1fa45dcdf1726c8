import Derived.Test.YtbkodohojpchjaaGreatDoorDnPShelf6
/- Shelves: which may be, in words of their nodes; ShelfDrops. Conditions: none. -/
set_option linter.unusedVariables false
set_option linter.unusedSimpArgs false
open List renaming length_filter_le→bN,mem_iff_getElem→sh,length_take→AI,length_cons→AS,length_nil→AT,mem_filter→By
open Go Dn
namespace Dn.S
structure kL (L:List af):Prop where
 len:L.length<=200
 ord:rI L
 root: ∃m∈L,m.Path=[47]
 yS: ∀n∈L,n.Value.length<=1000/\0<=n.Version/\n.Version<=1000000000/\0<=n.dw
 top: ∀n∈L,n.Path=[47]->n.dw=0
 grown: ∀n∈L,n.Path≠[47]-> ∃m∈L,m.Path=(fB n.Path).1/\m.dw=0
theorem SV:aT [47]=[]:=by unfold aT;simp
theorem SW {p:List UInt8}(h:bX p=true):(fB p).2=0↔p≠[47]:=by unfold fB;rw [h];by_cases h0:p=[47]<;>simp [h0]
theorem QI {α:Type}(q:α->Bool)(l:List α):(l.filter q).length+(l.filter λn=>!q n).length=l.length:=by
 induction l with
 |nil=>rfl
 |cons a l ih=>cases h:q a<;>simp [h]<;>omega
def yN (owner:Int)(n:af):Bool:=!(decide (0<owner)&&decide (n.dw=owner))
theorem F4 {α:Type}(q:α->Bool){L:List α}{k:Nat}(hk:k<L.length):(L.take (k+1)).filter q=if q L[k] then (L.take k).filter q++[L[k]] else (L.take k).filter q:=by
 rw [take_succ hk,List.filter_append];by_cases h:q L[k]=true
 ·simp [h]
 ·simp [h]
def dv (L:List af)(owner:Int):List af×List (List UInt8):=(L.filter (yN owner),(L.filter λn=>!yN owner n).map (·.Path))
theorem drop_eq (s:aC)(owner:Int)(hl:s.L.length<2^40):ta s owner=some (⟨(dv s.L owner).1⟩,(dv s.L owner).2):=by
 have ke:Loop (o8 s owner) (([]:List (List UInt8)),([]:List af),0)=some ((dv s.L owner).2,(dv s.L owner).1):=by
  refine bG.eq (bG.count (λk=>((dv (s.L.take k) owner).2,(dv (s.L.take k) owner).1,(k:Int))) s.L.length (λ_=>True) rfl trivial (λk hk _=> ?_) (λ_=> ?_))
  ·have l1:(dv (s.L.take k) owner).1.length<=k:=by unfold dv;have:=bN (yN owner) (s.L.take k);rw [AI] at this;dsimp only;omega
   have l2:(dv (s.L.take k) owner).2.length<=k:=by unfold dv;have:=bN (λn=>!yN owner n) (s.L.take k);rw [AI] at this;dsimp only;rw [List.length_map];omega
   have e1:=F4 (yN owner) hk;have e2:=F4 (λn=>!yN owner n) hk;unfold o8;dsimp only;rw [if_pos (by omega),b7 hk];have hw:(if (0:Int)<owner then some (decide ((s.L[k]).dw=owner)) else some false)=some (!yN owner s.L[k]):=by unfold yN;by_cases h:(0:Int)<owner<;>simp [h]
   rw [hw,az,wrap64 (by omega) (by omega)];cases dK:yN owner s.L[k] with
   |true=>rw [if_neg (by decide),if_pos (by simp only [AS,AT];omega)];rw [dK] at e1 e2;refine .mk ⟨?_,trivial⟩;unfold dv;rw [e1,e2];rfl
   |false=>rw [if_pos (by decide),if_pos (by simp only [AS,AT];omega)];rw [dK] at e1 e2;refine .mk ⟨?_,trivial⟩;unfold dv;rw [e1,e2];simp
  ·unfold o8;dsimp only;rw [if_neg (by omega),List.take_length];exact .mk rfl
 unfold ta;rw [ke];rfl
theorem UN {L M:List af}(h:M.Sublist L)(hs:rI L):rI M:=⟨λn hn=>hs.1 n (h.subset hn),hs.2.sublist h⟩
theorem UO {L:List af}(h:kL L)(owner:Int):kL (dv L owner).1:=by
 have eZ:(L.filter (yN owner)).Sublist L:=List.filter_sublist;have dK: ∀n∈L,n.dw=0->yN owner n=true:=by
  intro n _ h0;unfold yN;rw [h0];by_cases hp:(0:Int)<owner
  ·simp [hp];omega
  ·simp [hp]
 refine ⟨Nat.le_trans eZ.length_le h.len,UN eZ h.ord,?_,λn hn=>h.yS n (eZ.subset hn),λn hn=>h.top n (eZ.subset hn),λn hn hr=> ?_⟩
 ·obtain ⟨m,hm,hr⟩:=h.root;exact ⟨m,By.2 ⟨hm,dK m hm (h.top m hm hr)⟩,hr⟩
 ·obtain ⟨m,hm,h1,h2⟩:=h.grown n (eZ.subset hn) hr;exact ⟨m,By.2 ⟨hm,dK m hm h2⟩,h1,h2⟩
theorem aa5 {L:List af}(hs:rI L){a b:af}(ha:a∈L)(hb:b∈L)(h:a.Path=b.Path):a=b:=by obtain ⟨i,hi,rfl⟩:=sh.1 ha;obtain ⟨j,hj,rfl⟩:=sh.1 hb;have:=GY hs hi hj h;subst this;rfl
end Dn.S
