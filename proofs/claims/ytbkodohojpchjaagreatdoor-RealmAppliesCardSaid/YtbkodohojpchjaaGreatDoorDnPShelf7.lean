import Derived.Test.YtbkodohojpchjaaGreatDoorDnPShelf6
/-
  Shelves: which may be, in words of their nodes; ShelfDrops. Conditions: none.
-/
set_option linter.unusedVariables false
set_option linter.unusedSimpArgs false
open List renaming getElem?_eq_getElem→c8,mem_iff_getElem→sh,length_map→AS,length_filter_le→AT,getElem_mem→By,all_eq_true→BY,length_take→IN,length_cons→IS,length_nil→IT,mem_filter→No,mem_range→OF
open Bool renaming and_eq_true→AI
open Go Dn
namespace Dn.S
structure fN (L:List af):Prop where
 len:L.length<=200
 ord:nm L
 root: ∃m∈L,m.Path=[47]
 xC: ∀n∈L,n.Value.length<=1000/\0<=n.Version/\n.Version<=1000000000/\0<=n.bF
 top: ∀n∈L,n.Path=[47]->n.bF=0
 grown: ∀n∈L,n.Path≠[47]-> ∃m∈L,m.Path=(bS n.Path).1/\m.bF=0
theorem ae7 (a:List (List UInt8)):nH a []=false:=by cases a<;>rfl
theorem Kh:aE [47]=[]:=by unfold aE;simp
theorem uw {p:List UInt8}(h:bn p=true):(bS p).2=0↔p≠[47]:=by unfold bS;rw [h];by_cases h0:p=[47]<;>simp [h0]
theorem ai2 {l:List (List UInt8)}{p:List UInt8}(h:0<=mD l p): ∃k,∃hk:k<l.length,mD l p=(k:Int)/\l[k]=p:=by
 unfold mD at h⊢;cases hf:l.findIdx? (λx=>decide (x=p)) with
 |none=>rw [hf] at h;simp at h
 |some k=>rw [List.findIdx?_eq_some_iff_getElem] at hf;obtain ⟨hk,hd,_⟩:=hf;exact ⟨k,hk,rfl,by simpa using hd⟩
theorem Ru {α:Type}(q:α->Bool)(l:List α):(l.filter q).length+(l.filter λn=>!q n).length=l.length:=by
 induction l with
 |nil=>rfl
 |cons a l ih=>cases h:q a<;>simp [h]<;>omega
theorem Rv {L:List af}(hs:nm L){p:List UInt8}:VL L p=true↔ ∃m∈L,m.Path=p/\m.bF=0:=by
 unfold VL;constructor
 ·intro h;simp only [AI,decide_eq_true_eq] at h;obtain ⟨h0,h1⟩:=h;have dK:=FL h0;rw [AS] at dK;rw [c8 dK] at h1;simp only [decide_eq_true_eq] at h1;obtain ⟨k,hk,e,KC⟩:=ai2 h0;rw [AS] at hk;refine ⟨_,By dK,?_,h1⟩;have:(mD (L.map (·.Path)) p).toNat=k:=by rw [e];rfl
  simp only [this];simpa using KC
 ·rintro ⟨m,hm,rfl,ho⟩;obtain ⟨i,hi,rfl⟩:=sh.1 hm;have:=Kg hs hi;unfold cu at this;rw [dY hs hi] at this;by_cases h0:0<=mD (L.map (·.Path)) (L[i]).Path
  ·simp only [if_true,h0,Prod.mk.injEq,and_true] at this;rw [this];simp [c8 hi,ho]
  ·simp [h0] at this
theorem MX {L:List af}:A0 L=true↔fN L:=by
 constructor
 ·intro h;have hs:=T6 h;unfold A0 at h;simp only [AI,BY,OF,decide_eq_true_eq] at h;obtain ⟨⟨h1,h2⟩,h3,h4⟩:=h;have hn: ∀n∈L,n.Value.length<=1000/\0<=n.Version/\n.Version<=1000000000/\0<=n.bF/\uv L n=true:=by intro n hn;obtain ⟨k,hk,rfl⟩:=sh.1 hn;have:=h4 k hk;unfold okK at this;rw [c8 hk] at this;simp only [AI,decide_eq_true_eq] at this;obtain ⟨⟨_,g1,g2,g3,g4,g5⟩,_⟩:=this;exact ⟨g1,g2,g3,g4,g5⟩
  refine ⟨h2,hs,?_,λn h=>⟨(hn n h).1,(hn n h).2.1,(hn n h).2.2.1,(hn n h).2.2.2.1⟩,?_,?_⟩
  ·cases L with
   |nil=>simp at h1
   |cons a l=>simp at h3;exact ⟨a,by simp,h3⟩
  ·intro n h hr;have hg:=(hn n h).2.2.2.2;unfold uv at hg;have: ¬(bS n.Path).2=0:=λe=>((uw (hs.1 n h)).1 e) hr;rw [if_neg this] at hg;simpa using hg
  ·intro n h hr;have hg:=(hn n h).2.2.2.2;unfold uv at hg;rw [if_pos ((uw (hs.1 n h)).2 hr)] at hg;exact (Rv hs).1 hg
 ·intro h;have hs:=h.ord;obtain ⟨m,hm,hmr⟩:=h.root;obtain ⟨i,hi,rfl⟩:=sh.1 hm;have hi0:i=0:=by
   by_cases h0:i=0
   ·exact h0
   ·have:=C8 hs (show 0<L.length by omega) hi (by omega);rw [hmr,Kh,ae7] at this;cases this
  subst hi0;have hhd:(L.map (·.Path)).head? =some [47]:=by rw [List.head?_map,List.head?_eq_getElem?,c8 hi];simp [hmr]
  unfold A0;rw [hhd];simp only [AI,BY,OF,decide_eq_true_eq];refine ⟨⟨by omega,h.len⟩,trivial,λk hk=> ?_⟩;have vN:=By hk;obtain ⟨f1,f2,f3,f4⟩:=h.xC _ vN;have hg:uv L L[k]=true:=by
   unfold uv;by_cases hr:(L[k]).Path=[47]
   ·rw [if_neg (λe=>((uw (dY hs hk)).1 e) hr)];simp [h.top _ vN hr]
   ·rw [if_pos ((uw (dY hs hk)).2 hr)];exact (Rv hs).2 (h.grown _ vN hr)
  unfold okK;rw [c8 hk];dsimp only;rw [dY hs hk,decide_eq_true f1,decide_eq_true f2,decide_eq_true f3,decide_eq_true f4,hg];by_cases WG:k=0
  ·simp [WG]
  ·rw [c8 (show k-1<L.length by omega)];have:=C8 hs (show k-1<L.length by omega) hk (by omega);simp [WG,kD,dY hs (show k-1<L.length by omega),dY hs hk,this]
def pM (owner:Int)(n:af):Bool:=!(decide (0<owner)&&decide (n.bF=owner))
theorem vA {α:Type}(q:α->Bool){L:List α}{k:Nat}(hk:k<L.length):(L.take (k+1)).filter q=if q L[k] then (L.take k).filter q++[L[k]] else (L.take k).filter q:=by
 rw [take_succ hk,List.filter_append];by_cases h:q L[k]=true
 ·simp [h]
 ·simp [h]
def cH (L:List af)(owner:Int):List af×List (List UInt8):=(L.filter (pM owner),(L.filter λn=>!pM owner n).map (·.Path))
theorem drop_eq (s:aA)(owner:Int)(hl:s.L.length<2^40):tw s owner=some (⟨(cH s.L owner).1⟩,(cH s.L owner).2):=by
 have cV:Loop (pa s owner) (([]:List (List UInt8)),([]:List af),0)=some ((cH s.L owner).2,(cH s.L owner).1):=by
  refine aM.eq (aM.count (λk=>((cH (s.L.take k) owner).2,(cH (s.L.take k) owner).1,(k:Int))) s.L.length (λ_=>True) rfl trivial (λk hk _=> ?_) (λ_=> ?_))
  ·have l1:(cH (s.L.take k) owner).1.length<=k:=by unfold cH;have:=AT (pM owner) (s.L.take k);rw [IN] at this;dsimp only;omega
   have l2:(cH (s.L.take k) owner).2.length<=k:=by unfold cH;have:=AT (λn=>!pM owner n) (s.L.take k);rw [IN] at this;dsimp only;rw [AS];omega
   have e1:=vA (pM owner) hk;have e2:=vA (λn=>!pM owner n) hk;unfold pa;dsimp only;rw [if_pos (by omega),aP hk];have hw:(if (0:Int)<owner then some (decide ((s.L[k]).bF=owner)) else some false)=some (!pM owner s.L[k]):=by unfold pM;by_cases h:(0:Int)<owner<;>simp [h]
   rw [hw,al,wrap64 (by omega) (by omega)];cases eR:pM owner s.L[k] with
   |true=>rw [if_neg (by decide),if_pos (by simp only [IS,IT];omega)];rw [eR] at e1 e2;refine .mk ⟨?_,trivial⟩;unfold cH;rw [e1,e2];rfl
   |false=>rw [if_pos (by decide),if_pos (by simp only [IS,IT];omega)];rw [eR] at e1 e2;refine .mk ⟨?_,trivial⟩;unfold cH;rw [e1,e2];simp
  ·unfold pa;dsimp only;rw [if_neg (by omega),List.take_length];exact .mk rfl
 unfold tw;rw [cV];rfl
theorem VO {L M:List af}(h:M.Sublist L)(hs:nm L):nm M:=⟨λn hn=>hs.1 n (h.subset hn),hs.2.sublist h⟩
theorem VP {L:List af}(h:fN L)(owner:Int):fN (cH L owner).1:=by
 have gp:(L.filter (pM owner)).Sublist L:=List.filter_sublist;have eR: ∀n∈L,n.bF=0->pM owner n=true:=by
  intro n _ h0;unfold pM;rw [h0];by_cases hp:(0:Int)<owner
  ·simp [hp];omega
  ·simp [hp]
 refine ⟨Nat.le_trans gp.length_le h.len,VO gp h.ord,?_,λn hn=>h.xC n (gp.subset hn),λn hn=>h.top n (gp.subset hn),λn hn hr=> ?_⟩
 ·obtain ⟨m,hm,hr⟩:=h.root;exact ⟨m,No.2 ⟨hm,eR m hm (h.top m hm hr)⟩,hr⟩
 ·obtain ⟨m,hm,h1,h2⟩:=h.grown n (gp.subset hn) hr;exact ⟨m,No.2 ⟨hm,eR m hm h2⟩,h1,h2⟩
theorem abV {L:List af}(hs:nm L){a b:af}(ha:a∈L)(hb:b∈L)(h:a.Path=b.Path):a=b:=by obtain ⟨i,hi,rfl⟩:=sh.1 ha;obtain ⟨j,hj,rfl⟩:=sh.1 hb;have:=EN hs hi hj h;subst this;rfl
end Dn.S
