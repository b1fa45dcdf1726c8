import Derived.Test.YtbkodohojpchjaaGreatDoorDnPShelf6
/-
  Shelves: which may be, in words of their nodes; ShelfDrops. Conditions: none.
-/
set_option linter.unusedVariables false
set_option linter.unusedSimpArgs false
open List renaming length_filter_le→c9,mem_iff_getElem→sh,length_take→AI,length_cons→AS,length_nil→AT,mem_filter→By
open Go Dn
namespace Dn.S
structure ga (L:List ah):Prop where
 len:L.length<=200
 ord:od L
 root: ∃m∈L,m.Path=[47]
 zf: ∀n∈L,n.Value.length<=1000/\0<=n.Version/\n.Version<=1000000000/\0<=n.b5
 top: ∀n∈L,n.Path=[47]->n.b5=0
 grown: ∀n∈L,n.Path≠[47]-> ∃m∈L,m.Path=(cy n.Path).1/\m.b5=0
theorem TM:aH [47]=[]:=by unfold aH;simp
theorem TN {p:List UInt8}(h:bA p=true):(cy p).2=0↔p≠[47]:=by unfold cy;rw [h];by_cases h0:p=[47]<;>simp [h0]
theorem Rn {α:Type}(q:α->Bool)(l:List α):(l.filter q).length+(l.filter λn=>!q n).length=l.length:=by
 induction l with
 |nil=>rfl
 |cons a l ih=>cases h:q a<;>simp [h]<;>omega
def pK (owner:Int)(n:ah):Bool:=!(decide (0<owner)&&decide (n.b5=owner))
theorem vw {α:Type}(q:α->Bool){L:List α}{k:Nat}(hk:k<L.length):(L.take (k+1)).filter q=if q L[k] then (L.take k).filter q++[L[k]] else (L.take k).filter q:=by
 rw [take_succ hk,List.filter_append];by_cases h:q L[k]=true
 ·simp [h]
 ·simp [h]
def cG (L:List ah)(owner:Int):List ah×List (List UInt8):=(L.filter (pK owner),(L.filter λn=>!pK owner n).map (·.Path))
theorem drop_eq (s:aD)(owner:Int)(hl:s.L.length<2^40):tw s owner=some (⟨(cG s.L owner).1⟩,(cG s.L owner).2):=by
 have cw:Loop (o8 s owner) (([]:List (List UInt8)),([]:List ah),0)=some ((cG s.L owner).2,(cG s.L owner).1):=by
  refine aO.eq (aO.count (λk=>((cG (s.L.take k) owner).2,(cG (s.L.take k) owner).1,(k:Int))) s.L.length (λ_=>True) rfl trivial (λk hk _=> ?_) (λ_=> ?_))
  ·have l1:(cG (s.L.take k) owner).1.length<=k:=by unfold cG;have:=c9 (pK owner) (s.L.take k);rw [AI] at this;dsimp only;omega
   have l2:(cG (s.L.take k) owner).2.length<=k:=by unfold cG;have:=c9 (λn=>!pK owner n) (s.L.take k);rw [AI] at this;dsimp only;rw [List.length_map];omega
   have e1:=vw (pK owner) hk;have e2:=vw (λn=>!pK owner n) hk;unfold o8;dsimp only;rw [if_pos (by omega),ba hk];have hw:(if (0:Int)<owner then some (decide ((s.L[k]).b5=owner)) else some false)=some (!pK owner s.L[k]):=by unfold pK;by_cases h:(0:Int)<owner<;>simp [h]
   rw [hw,av,wrap64 (by omega) (by omega)];cases eR:pK owner s.L[k] with
   |true=>rw [if_neg (by decide),if_pos (by simp only [AS,AT];omega)];rw [eR] at e1 e2;refine .mk ⟨?_,trivial⟩;unfold cG;rw [e1,e2];rfl
   |false=>rw [if_pos (by decide),if_pos (by simp only [AS,AT];omega)];rw [eR] at e1 e2;refine .mk ⟨?_,trivial⟩;unfold cG;rw [e1,e2];simp
  ·unfold o8;dsimp only;rw [if_neg (by omega),List.take_length];exact .mk rfl
 unfold tw;rw [cw];rfl
theorem Vz {L M:List ah}(h:M.Sublist L)(hs:od L):od M:=⟨λn hn=>hs.1 n (h.subset hn),hs.2.sublist h⟩
theorem VA {L:List ah}(h:ga L)(owner:Int):ga (cG L owner).1:=by
 have gn:(L.filter (pK owner)).Sublist L:=List.filter_sublist;have eR: ∀n∈L,n.b5=0->pK owner n=true:=by
  intro n _ h0;unfold pK;rw [h0];by_cases hp:(0:Int)<owner
  ·simp [hp];omega
  ·simp [hp]
 refine ⟨Nat.le_trans gn.length_le h.len,Vz gn h.ord,?_,λn hn=>h.zf n (gn.subset hn),λn hn=>h.top n (gn.subset hn),λn hn hr=> ?_⟩
 ·obtain ⟨m,hm,hr⟩:=h.root;exact ⟨m,By.2 ⟨hm,eR m hm (h.top m hm hr)⟩,hr⟩
 ·obtain ⟨m,hm,h1,h2⟩:=h.grown n (gn.subset hn) hr;exact ⟨m,By.2 ⟨hm,eR m hm h2⟩,h1,h2⟩
theorem abB {L:List ah}(hs:od L){a b:ah}(ha:a∈L)(hb:b∈L)(h:a.Path=b.Path):a=b:=by obtain ⟨i,hi,rfl⟩:=sh.1 ha;obtain ⟨j,hj,rfl⟩:=sh.1 hb;have:=EE hs hi hj h;subst this;rfl
end Dn.S
