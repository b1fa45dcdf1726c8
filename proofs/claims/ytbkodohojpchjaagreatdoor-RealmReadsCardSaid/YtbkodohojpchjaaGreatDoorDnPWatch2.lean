import Derived.Test.YtbkodohojpchjaaGreatDoorDnPWatch
/-
  Watches: which tables may be; what they come to. Conditions: none.
-/
open Go Dn
set_option linter.unusedVariables false
set_option linter.unusedSimpArgs false
namespace Dn.S
structure Cr (L:List al):Prop where
 len:L.length≤200
 all: ∀w∈L,bk w.Path=true∧0≤w.Client
 nodup:L.Nodup
def okW (L:List al) (k:Nat):Prop:= ∃hk:k<L.length,(bk L[k].Path=true∧0≤L[k].Client)∧L[k]∉L.take k
theorem nodup_iff {L:List al}:(∀k,k<L.length→okW L k)↔(∀w∈L,bk w.Path=true∧0≤w.Client)∧L.Nodup:=by
 constructor
 ·intro h
  refine ⟨fun w hw=> ?_,?_⟩
  ·obtain ⟨k,hk,rfl⟩:=List.mem_iff_getElem.1 hw
   exact (h k hk).2.1
  ·rw [List.Nodup,List.pairwise_iff_getElem]
   intro i j hi hj NA e
   obtain ⟨_,_,hn⟩:=h j hj
   apply hn
   rw [←e]
   rw [List.mem_take_iff_getElem]
   exact ⟨i,by omega,rfl⟩
 ·rintro ⟨h1,h2⟩ k hk
  refine ⟨hk,h1 _ (List.getElem_mem hk),fun hm=> ?_⟩
  obtain ⟨i,hi,e⟩:=List.mem_take_iff_getElem.1 hm
  rw [List.Nodup,List.pairwise_iff_getElem] at h2
  exact h2 i k (by omega) hk (by omega) e
theorem Su (L:List bJ) (w:bJ) (hl:L.length<2^60):vk L w=some (decide (w∈L)):=by
 unfold vk
 have hA:=pH (body:=ue L w) L.length (fun k=>L[k]? ≠some w) true (fun k hk _=> ?_) ?_
 ·obtain ⟨r,er,hr⟩:=hA
  rw [er,aC]
  rcases hr with ⟨rfl,h⟩|⟨rfl,k,hk,h⟩
  ·dsimp only
   rw [decide_eq_false]
   intro hm
   obtain ⟨k,hk,rfl⟩:=List.mem_iff_getElem.1 hm
   exact h k hk (List.getElem?_eq_getElem hk)
  ·dsimp only
   rw [decide_eq_true]
   have:=Decidable.not_not.1 h
   exact List.mem_of_getElem? this
 ·unfold ue
  rw [if_pos (by omega),bx hk,KE,wrap64 (by omega) (by omega),List.getElem?_eq_getElem hk]
  by_cases h:L[k]=w
  ·rw [decide_eq_true h,if_pos rfl]
   exact ⟨fun hh=>absurd (by rw [h]) hh,fun _=>rfl⟩
  ·rw [decide_eq_false h,if_neg (by decide)]
   exact ⟨fun _=>rfl,fun hh=>absurd (fun e=>h (Option.some.inj e)) hh⟩
 ·unfold ue
  rw [if_neg (by omega)]
theorem Zf {L:List al} {w:al}:GJ w∈L.map GJ↔w∈L:=by
 rw [List.mem_map]
 exact ⟨fun ⟨x,hx,e⟩=>by rw [←Zd.1 e];exact hx,fun h=>⟨w,h,rfl⟩⟩
theorem MJ (L:List al) (hl:L.length≤1000):bq (uf ⟨L.map GJ⟩) fun b=>b=true↔Cr L:=by
 unfold uf
 refine bq.bd (pH L.length (okW L) false (fun k hk _=> ?_) ?_) ?_
 ·unfold sL
  dsimp only
  have hka:k<(L.map GJ).length:=by rw [List.length_map];exact hk
  have e1:(L.map GJ)[k]=GJ L[k]:=List.getElem_map _
  have e2:na (GJ L[k]).Path=some (bk L[k].Path):=xH L[k].Path
  rw [if_pos (by rw [List.length_map];omega),bx hka,e1,e2,aC,wrap64 (by omega) (by omega)]
  have e3:vk (List.drop (Int.toNat 0) (List.take (Int.toNat (k:Int)) (L.map GJ))) (GJ L[k])=some (decide (L[k]∈L.take k)):=by
   rw [show Int.toNat 0=0 from rfl,List.drop_zero,Int.toNat_natCast,←List.map_take,Su _ _ (by rw [List.length_map,List.length_take];omega)]
   congr 1
   rw [decide_eq_decide,Zf]
  have hw:(if (!bk L[k].Path)=true then some true else ix (L.map GJ) (k:Int) fun y1=>if y1.Client<0 then some true else if (0:Int)≤0∧(0:Int)≤(k:Int)∧(k:Int)≤((L.map GJ).length:Int) then ix (L.map GJ) (k:Int) fun y2=>bd (vk (List.drop (Int.toNat 0) (List.take (Int.toNat (k:Int)) (L.map GJ))) y2) fun aY=>some aY else none)=some (!decide ((bk L[k].Path=true∧0≤L[k].Client)∧L[k]∉L.take k)):=by
   cases hb:bk L[k].Path with
   |false=>simp
   |true=>
    rw [if_neg (by decide),bx hka,e1]
    by_cases hc:L[k].Client<0
    ·have hc':(GJ L[k]).Client<0:=hc
     rw [if_pos hc',decide_eq_false (fun h=>by have:=h.1.2;omega)];rfl
    ·have hc': ¬(GJ L[k]).Client<0:=hc
     rw [if_neg hc',if_pos ⟨by omega,by omega,by rw [List.length_map];omega⟩,bx hka,e1,e3,aC]
     by_cases hm:L[k]∈L.take k
     ·rw [decide_eq_true hm,decide_eq_false (fun h=>h.2 hm)];rfl
     ·rw [decide_eq_false hm,decide_eq_true ⟨⟨rfl,by omega⟩,hm⟩];rfl
  rw [hw,aC]
  by_cases h:(bk L[k].Path=true∧0≤L[k].Client)∧L[k]∉L.take k
  ·rw [decide_eq_true h]
   exact ⟨fun _=>rfl,fun hn=>absurd ⟨hk,h⟩ hn⟩
  ·rw [decide_eq_false h]
   exact ⟨fun ⟨_,hh⟩=>absurd hh h,fun _=>rfl⟩
 ·unfold sL
  dsimp only
  rw [if_neg (by rw [List.length_map];omega)]
 ·rintro r (⟨rfl,h⟩|⟨rfl,k,hk,h⟩)
  ·dsimp only
   rw [List.length_map]
   have hh:=nodup_iff.1 h
   refine .mk ⟨fun hd=>⟨by have:=of_decide_eq_true hd;omega,hh.1,hh.2⟩,fun hr=>decide_eq_true (by have:=hr.len;omega)⟩
  ·exact .mk ⟨fun h=>(by cases h),fun hr=>absurd (nodup_iff.2 ⟨hr.all,hr.nodup⟩ k hk) h⟩
def Cs (L:List al) (w:al):List al×Int:=
 if bk w.Path=false then (L,13) else if w.Client<0 then (L,1) else if w∈L then (L,0) else if 200≤L.length then (L,9) else (L++[w],0)
theorem HL (L:List al) (w:al) (hl:L.length<2^60):dz L w=some (decide (w∈L)):=by
 unfold dz fZ
 have fT:bq (Loop (dM L w) 0) fun r=>(r= .inl ()∧w∉L)∨ ∃k:Nat,r= .inr (k:Int)∧w∈L:=by
  refine bq.count (fun k=>(k:Int)) L.length (fun k=>w∉L.take k) rfl (by simp) (fun k hk hp=> ?_) (fun hp=> ?_)
  ·unfold dM
   rw [if_pos (by omega),bx hk,Je,wrap64 (by omega) (by omega)]
   by_cases h:w=L[k]
   ·rw [decide_eq_true h,if_pos rfl]
    exact .mk (.inr ⟨k,rfl,by rw [h];exact List.getElem_mem hk⟩)
   ·rw [decide_eq_false h,if_neg (by decide)]
    refine .mk ⟨by omega,?_⟩
    rw [List.take_add_one,List.getElem?_eq_getElem hk]
    simp only [Option.toList_some,List.mem_append,List.mem_singleton]
    rintro (h1|h1)
    ·exact hp h1
    ·exact h h1
  ·unfold dM
   rw [if_neg (by omega)]
   rw [List.take_length] at hp
   exact .mk (.inl ⟨rfl,hp⟩)
 obtain ⟨r,er,hr⟩:=fT
 rw [er,aC]
 rcases hr with ⟨rfl,h⟩|⟨k,rfl,h⟩
 ·dsimp only
  rw [aC,decide_eq_false h];rfl
 ·dsimp only
  rw [aC,decide_eq_true h,decide_eq_true (by omega)]
theorem Wc (L:List al) (w:al) (hl:L.length≤1000):qG ⟨L⟩ w=some (⟨(Cs L w).1⟩,(Cs L w).2):=by
 unfold qG Cs
 rw [uC,aC]
 cases hb:bk w.Path with
 |false=>rfl
 |true=>
  rw [if_neg (show¬(!true)=true by decide),if_neg (show¬true=false by decide)]
  by_cases hc:w.Client<0
  ·rw [if_pos hc,if_pos hc]
  rw [if_neg hc,if_neg hc,HL _ _ (show L.length<2^60 by omega),aC]
  by_cases hm:w∈L
  ·rw [decide_eq_true hm,if_pos rfl,if_pos hm]
  rw [decide_eq_false hm,if_neg (by decide),if_neg hm]
  dsimp only
  by_cases h2:200≤L.length
  ·rw [if_pos (by omega),if_pos h2]
  have e0:jB 32 L=some L:=by unfold jB;rw [if_pos (by omega)]
  rw [if_neg (by omega),if_neg h2,e0,aC,if_pos (by simp only [List.length_cons,List.length_nil];omega)]
theorem Wd (l:List aF): ∀(L:List al) (out:List bc),l.foldl zu (L,out)=((kC L l).1,out++(kC L l).2):=by
 induction l with
 |nil=>intro L out;simp [kC]
 |cons c l ih=>
  intro L out
  unfold kC
  rw [List.foldl_cons,List.foldl_cons]
  show l.foldl zu (s7 c L,out++wo c L)=((l.foldl zu (s7 c L,[]++wo c L)).1,out++(l.foldl zu (s7 c L,[]++wo c L)).2)
  rw [ih,ih]
  simp
theorem GK (L:List al) (c:aF) (l:List aF):kC L (c::l)=((kC (s7 c L) l).1,wo c L++(kC (s7 c L) l).2):=by
 unfold kC
 rw [List.foldl_cons]
 show l.foldl zu (s7 c L,[]++wo c L)=_
 rw [List.nil_append,Wd];rfl
end Dn.S
