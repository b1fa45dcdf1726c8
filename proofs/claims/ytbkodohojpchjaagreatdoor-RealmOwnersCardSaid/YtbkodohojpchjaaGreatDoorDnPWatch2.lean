import Derived.Test.YtbkodohojpchjaaGreatDoorDnPWatch
/-
  Watches: which tables may be; what they come to. Conditions: none.
-/
open Go Dn
set_option linter.unusedVariables false
set_option linter.unusedSimpArgs false
namespace Dn.S
structure yY (L:List ak):Prop where
 len:L.length≤200
 all: ∀w∈L,bw w.Path=true∧0≤w.Client
 nodup:L.Nodup
def okW (L:List ak) (k:Nat):Prop:= ∃hk:k<L.length,(bw L[k].Path=true∧0≤L[k].Client)∧L[k]∉L.take k
theorem nodup_iff {L:List ak}:(∀k,k<L.length→okW L k)↔(∀w∈L,bw w.Path=true∧0≤w.Client)∧L.Nodup:=by
 constructor
 ·intro h
  refine ⟨fun w hw=> ?_,?_⟩
  ·obtain ⟨k,hk,rfl⟩:=List.mem_iff_getElem.1 hw
   exact (h k hk).2.1
  ·rw [List.Nodup,List.pairwise_iff_getElem]
   intro i j hi hj Na e
   obtain ⟨_,_,hn⟩:=h j hj
   apply hn
   rw [←e]
   rw [List.mem_take_iff_getElem]
   exact ⟨i,by omega,rfl⟩
 ·rintro ⟨h1,h2⟩ k hk
  refine ⟨hk,h1 _ (List.getElem_mem hk),fun hm=> ?_⟩
  obtain ⟨i,hi,e⟩:=List.mem_take_iff_getElem.1 hm
  rw [List.Nodup,List.pairwise_iff_getElem] at h2
  exact h2 i k (by omega) hk (by omega) e
def kyW (w:ak):List MV:=[.s w.Path,.i .i64 w.Client,.b w.Kids]
theorem Tz (x y:ak):dQ (kyW x) (kyW y)=decide (x=y):=by
 cases x;cases y
 rw [Bool.eq_iff_iff]
 simp [kyW,dQ,CB]
theorem FX (L:List ak) (hl:L.length≤1000):bK (kD ⟨L⟩) fun b=>b=true↔yY L:=by
 unfold kD
 refine bK.bd (P:=fun r=>(r= .inl ()∧ ∀k,k<L.length→okW L k)∨(r= .inr false∧ ∃k,k<L.length∧ ¬okW L k)) ?_ ?_
 ·refine bK.loop (fun st=> ∃k:Nat,k≤L.length∧st.2=(k:Int)∧(∀w,vN st.1 (kyW w)=decide (w∈L.take k))∧ ∀j,j<k→okW L j) (fun st=>((L.length:Int)-st.2).toNat) ⟨0,Nat.zero_le _,rfl,fun w=>by simp [vN],fun j hj=>by omega⟩ ?_
  rintro ⟨es,i⟩ ⟨k,hk,rfl,hm,lW⟩
  unfold sB
  dsimp only
  dsimp only at hm
  by_cases cz:k<L.length
  rotate_left
  ·rw [if_neg (by omega)]
   exact .mk (.inl ⟨rfl,fun j hj=>lW j (by omega)⟩)
  rw [if_pos (by omega),cg cz,o7,aM,wrap64 (by omega) (by omega)]
  have hmk:vN es [.s L[k].Path,.i .i64 L[k].Client,.b L[k].Kids]=decide (L[k]∈L.take k):=hm L[k]
  have hw:(if (!bw L[k].Path)=true then some true else if L[k].Client<0 then some true else some (vN es [.s L[k].Path,.i .i64 L[k].Client,.b L[k].Kids]))=some (!decide ((bw L[k].Path=true∧0≤L[k].Client)∧L[k]∉L.take k)):=by
   rw [hmk]
   cases hb:bw L[k].Path with
   |false=>simp
   |true=>
    rw [if_neg (by decide)]
    by_cases hc:L[k].Client<0
    ·rw [if_pos hc,decide_eq_false (fun h=>by have:=h.1.2;omega)];rfl
    ·rw [if_neg hc]
     by_cases hm:L[k]∈L.take k
     ·rw [decide_eq_true hm,decide_eq_false (fun h=>h.2 hm)];rfl
     ·rw [decide_eq_false hm,decide_eq_true ⟨⟨rfl,by omega⟩,hm⟩];rfl
  rw [hw,aM]
  by_cases h:(bw L[k].Path=true∧0≤L[k].Client)∧L[k]∉L.take k
  rotate_left
  ·rw [decide_eq_false h,if_pos (by decide)]
   exact .mk (.inr ⟨rfl,k,cz,fun ⟨_,hh⟩=>h hh⟩)
  ·rw [decide_eq_true h,if_neg (by decide)]
   refine .mk ⟨⟨k+1,by omega,by dsimp only;omega,fun w=> ?_,fun j hj=> ?_⟩,by dsimp only;omega⟩
   ·show vN (xQ es (kyW L[k]) (.b false) (.b true)) (kyW w)=_
    have ht:L.take (k+1)=L.take k++[L[k]]:=by rw [List.take_add_one,List.getElem?_eq_getElem cz];rfl
    rw [ht,KM]
    by_cases he:L[k]=w
    ·rw [←he,FW (by rw [Tz];simp)]
     exact (decide_eq_true (List.mem_append.2 (.inr (List.mem_singleton.2 rfl)))).symm
    ·rw [EU (by rw [Tz];exact decide_eq_false he),←KM,hm w,decide_eq_decide]
     simp only [List.mem_append,List.mem_singleton]
     exact ⟨fun h=> .inl h,fun h=>h.resolve_right fun e=>he e.symm⟩
   ·by_cases Xi:j=k
    ·subst Xi;exact ⟨cz,h⟩
    ·exact lW j (by omega)
 ·rintro r (⟨rfl,h⟩|⟨rfl,k,hk,h⟩)
  ·dsimp only
   have hh:=nodup_iff.1 h
   refine .mk ⟨fun hd=>⟨by have:=of_decide_eq_true hd;omega,hh.1,hh.2⟩,fun hr=>decide_eq_true (by have:=hr.len;omega)⟩
  ·exact .mk ⟨fun h=>(by cases h),fun hr=>absurd (nodup_iff.2 ⟨hr.all,hr.nodup⟩ k hk) h⟩
def IJ (L:List ak) (w:ak):List ak×Int:=
 if bw w.Path=false then (L,13) else if w.Client<0 then (L,1) else if w∈L then (L,0) else if 200≤L.length then (L,9) else (L++[w],0)
theorem FY (L:List ak) (w:ak) (hl:L.length<2^60):di L w=some (decide (w∈L)):=by
 unfold di fG
 have fZ:bK (Loop (du L w) 0) fun r=>(r= .inl ()∧w∉L)∨ ∃k:Nat,r= .inr (k:Int)∧w∈L:=by
  refine bK.count (fun k=>(k:Int)) L.length (fun k=>w∉L.take k) rfl (by simp) (fun k hk hp=> ?_) (fun hp=> ?_)
  ·unfold du
   rw [if_pos (by omega),cg hk,Hh,wrap64 (by omega) (by omega)]
   by_cases h:w=L[k]
   ·rw [decide_eq_true h,if_pos rfl]
    exact .mk (.inr ⟨k,rfl,by rw [h];exact List.getElem_mem hk⟩)
   ·rw [decide_eq_false h,if_neg (by decide)]
    refine .mk ⟨by omega,?_⟩
    rw [List.take_add_one,List.getElem?_eq_getElem hk]
    simp only [Option.toList_some,List.mem_append,List.mem_singleton]
    rintro (h1|h1)
    ·exact hp h1
    ·exact h h1
  ·unfold du
   rw [if_neg (by omega)]
   rw [List.take_length] at hp
   exact .mk (.inl ⟨rfl,hp⟩)
 obtain ⟨r,er,hr⟩:=fZ
 rw [er,aM]
 rcases hr with ⟨rfl,h⟩|⟨k,rfl,h⟩
 ·dsimp only
  rw [aM,decide_eq_false h];rfl
 ·dsimp only
  rw [aM,decide_eq_true h,decide_eq_true (by omega)]
theorem TA (L:List ak) (w:ak) (hl:L.length≤1000):p9 ⟨L⟩ w=some (⟨(IJ L w).1⟩,(IJ L w).2):=by
 unfold p9 IJ
 rw [o7,aM]
 cases hb:bw w.Path with
 |false=>rfl
 |true=>
  rw [if_neg (show¬(!true)=true by decide),if_neg (show¬true=false by decide)]
  by_cases hc:w.Client<0
  ·rw [if_pos hc,if_pos hc]
  rw [if_neg hc,if_neg hc,FY _ _ (show L.length<2^60 by omega),aM]
  by_cases hm:w∈L
  ·rw [decide_eq_true hm,if_pos rfl,if_pos hm]
  rw [decide_eq_false hm,if_neg (by decide),if_neg hm]
  dsimp only
  by_cases h2:200≤L.length
  ·rw [if_pos (by omega),if_pos h2]
  have e0:jo 32 L=some L:=by unfold jo;rw [if_pos (by omega)]
  rw [if_neg (by omega),if_neg h2,e0,aM,if_pos (by simp only [List.length_cons,List.length_nil];omega)]
theorem TB (l:List aC): ∀(L:List ak) (out:List bA),l.foldl yn (L,out)=((lT L l).1,out++(lT L l).2):=by
 induction l with
 |nil=>intro L out;simp [lT]
 |cons c l ih=>
  intro L out
  unfold lT
  rw [List.foldl_cons,List.foldl_cons]
  show l.foldl yn (tJ c L,out++wT c L)=((l.foldl yn (tJ c L,[]++wT c L)).1,out++(l.foldl yn (tJ c L,[]++wT c L)).2)
  rw [ih,ih]
  simp
theorem MO (L:List ak) (c:aC) (l:List aC):lT L (c::l)=((lT (tJ c L) l).1,wT c L++(lT (tJ c L) l).2):=by
 unfold lT
 rw [List.foldl_cons]
 show l.foldl yn (tJ c L,[]++wT c L)=_
 rw [List.nil_append,TB];rfl
end Dn.S
