import Derived.Test.YtbkodohojpchjaaGreatDoorDnPWatch
/-
  Watches: which tables may be; what they come to. Conditions: none.
-/
set_option linter.unusedVariables false
set_option linter.unusedSimpArgs false
open List renaming length_map→c8,getElem?_eq_getElem→sh,pairwise_iff_getElem→AI,mem_take_iff_getElem→AS,length_nil→AT,foldl_cons→By,mem_iff_getElem→BY,getElem_mem→IS,length_cons→IT,nil_append→No
open Int renaming toNat→IN
open Option.some renaming inj→OF
open Go Dn
namespace Dn.S
structure FP (L:List aq):Prop where
 len:L.length<=200
 all: ∀w∈L,bn w.Path=true/\0<=w.Client
 nodup:L.Nodup
def okW (L:List aq)(k:Nat):Prop:= ∃hk:k<L.length,(bn L[k].Path=true/\0<=L[k].Client)/\L[k]∉L.take k
theorem nodup_iff {L:List aq}:(∀k,k<L.length->okW L k)↔(∀w∈L,bn w.Path=true/\0<=w.Client)/\L.Nodup:=by
 constructor
 ·intro h;refine ⟨λw hw=> ?_,?_⟩
  ·obtain ⟨k,hk,rfl⟩:=BY.1 hw;exact (h k hk).2.1
  ·rw [List.Nodup,AI];intro i j hi hj Nn e;obtain ⟨_,_,hn⟩:=h j hj;apply hn;rw [<-e];rw [AS];exact ⟨i,by omega,rfl⟩
 ·rintro ⟨h1,h2⟩ k hk;refine ⟨hk,h1 _ (IS hk),λhm=> ?_⟩;obtain ⟨i,hi,e⟩:=AS.1 hm;rw [List.Nodup,AI] at h2;exact h2 i k (by omega) hk (by omega) e
theorem MZ (L:List aL)(w:aL)(hl:L.length<2^60):sF L w=some (decide (w∈L)):=by
 unfold sF;have hA:=rI (body:=wO L w) L.length (λk=>L[k]? ≠some w) true (λk hk _=> ?_) ?_
 ·obtain ⟨r,er,hr⟩:=hA;rw [er,al];rcases hr with ⟨rfl,h⟩|⟨rfl,k,hk,h⟩
  ·dsimp only;rw [decide_eq_false];intro hm;obtain ⟨k,hk,rfl⟩:=BY.1 hm;exact h k hk (sh hk)
  ·dsimp only;rw [decide_eq_true];have:=Decidable.not_not.1 h;exact List.mem_of_getElem? this
 ·unfold wO;rw [if_pos (by omega),aP hk,OQ,wrap64 (by omega) (by omega),sh hk];by_cases h:L[k]=w
  ·rw [decide_eq_true h,if_pos rfl];exact ⟨λhh=>absurd (by rw [h]) hh,λ_=>rfl⟩
  ·rw [decide_eq_false h,if_neg (by decide)];exact ⟨λ_=>rfl,λhh=>absurd (λe=>h (OF e)) hh⟩
 ·unfold wO;rw [if_neg (by omega)]
theorem VT {L:List aq}{w:aq}:ol w∈L.map ol↔w∈L:=by rw [List.mem_map];exact ⟨λ⟨x,hx,e⟩=>by rw [<-afg.1 e];exact hx,λh=>⟨w,h,rfl⟩⟩
theorem Ry (L:List aq)(hl:L.length<=1000):aM (wP ⟨L.map ol⟩) λb=>b=true↔FP L:=by
 unfold wP;refine aM.bd (rI L.length (okW L) false (λk hk _=> ?_) ?_) ?_
 ·unfold vd;dsimp only;have hka:k<(L.map ol).length:=by rw [c8];exact hk
  have e1:(L.map ol)[k]=ol L[k]:=List.getElem_map _;have e2:gM (ol L[k]).Path=some (bn L[k].Path):=mC L[k].Path;rw [if_pos (by rw [c8];omega),aP hka,e1,e2,al,wrap64 (by omega) (by omega)];have e3:sF (List.drop (IN 0) (List.take (IN (k:Int)) (L.map ol))) (ol L[k])=some (decide (L[k]∈L.take k)):=by rw [show IN 0=0 from rfl,List.drop_zero,Int.toNat_natCast,<-List.map_take,MZ _ _ (by rw [c8,List.length_take];omega)];congr 1;rw [decide_eq_decide,VT]
  have hw:(if (!bn L[k].Path)=true then some true else ix (L.map ol) (k:Int) λy1=>if y1.Client<0 then some true else if (0:Int)<=0/\(0:Int)<=(k:Int)/\(k:Int)<=((L.map ol).length:Int) then ix (L.map ol) (k:Int) λy2=>bd (sF (List.drop (IN 0) (List.take (IN (k:Int)) (L.map ol))) y2) λaT=>some aT else none)=some (!decide ((bn L[k].Path=true/\0<=L[k].Client)/\L[k]∉L.take k)):=by
   cases hb:bn L[k].Path with
   |false=>simp
   |true=>
    rw [if_neg (by decide),aP hka,e1];by_cases hc:L[k].Client<0
    ·have hc':(ol L[k]).Client<0:=hc;rw [if_pos hc',decide_eq_false (λh=>by have:=h.1.2;omega)];rfl
    ·have hc': ¬(ol L[k]).Client<0:=hc;rw [if_neg hc',if_pos ⟨by omega,by omega,by rw [c8];omega⟩,aP hka,e1,e3,al];by_cases hm:L[k]∈L.take k
     ·rw [decide_eq_true hm,decide_eq_false (λh=>h.2 hm)];rfl
     ·rw [decide_eq_false hm,decide_eq_true ⟨⟨rfl,by omega⟩,hm⟩];rfl
  rw [hw,al];by_cases h:(bn L[k].Path=true/\0<=L[k].Client)/\L[k]∉L.take k
  ·rw [decide_eq_true h];exact ⟨λ_=>rfl,λhn=>absurd ⟨hk,h⟩ hn⟩
  ·rw [decide_eq_false h];exact ⟨λ⟨_,hh⟩=>absurd hh h,λ_=>rfl⟩
 ·unfold vd;dsimp only;rw [if_neg (by rw [c8];omega)]
 ·rintro r (⟨rfl,h⟩|⟨rfl,k,hk,h⟩)
  ·dsimp only;rw [c8];have hh:=nodup_iff.1 h;refine .mk ⟨λhd=>⟨by have:=of_decide_eq_true hd;omega,hh.1,hh.2⟩,λhr=>decide_eq_true (by have:=hr.len;omega)⟩
  ·exact .mk ⟨λh=>(by cases h),λhr=>absurd (nodup_iff.2 ⟨hr.all,hr.nodup⟩ k hk) h⟩
def rJ (L:List aq)(w:aq):List aq×Int:=if bn w.Path=false then (L,13) else if w.Client<0 then (L,1) else if w∈L then (L,0) else if 200<=L.length then (L,9) else (L++[w],0)
theorem Lr (L:List aq)(w:aq)(hl:L.length<2^60):eu L w=some (decide (w∈L)):=by
 unfold eu iw;have cV:aM (Loop (eM L w) 0) λr=>(r= .inl ()/\w∉L)\/ ∃k:Nat,r= .inr (k:Int)/\w∈L:=by
  refine aM.count (λk=>(k:Int)) L.length (λk=>w∉L.take k) rfl (by simp) (λk hk hp=> ?_) (λhp=> ?_)
  ·unfold eM;rw [if_pos (by omega),aP hk,MY,wrap64 (by omega) (by omega)];by_cases h:w=L[k]
   ·rw [decide_eq_true h,if_pos rfl];exact .mk (.inr ⟨k,rfl,by rw [h];exact IS hk⟩)
   ·rw [decide_eq_false h,if_neg (by decide)];refine .mk ⟨by omega,?_⟩;rw [List.take_add_one,sh hk];simp only [Option.toList_some,List.mem_append,List.mem_singleton];rintro (h1|h1)
    ·exact hp h1
    ·exact h h1
  ·unfold eM;rw [if_neg (by omega)];rw [List.take_length] at hp;exact .mk (.inl ⟨rfl,hp⟩)
 obtain ⟨r,er,hr⟩:=cV;rw [er,al];rcases hr with ⟨rfl,h⟩|⟨k,rfl,h⟩
 ·dsimp only;rw [al,decide_eq_false h];rfl
 ·dsimp only;rw [al,decide_eq_true h,decide_eq_true (by omega)]
theorem ab2 (L:List aq)(w:aq)(hl:L.length<=1000):s5 ⟨L⟩ w=some (⟨(rJ L w).1⟩,(rJ L w).2):=by
 unfold s5 rJ;rw [xt,al];cases hb:bn w.Path with
 |false=>rfl
 |true=>
  rw [if_neg (show¬(!true)=true by decide),if_neg (show¬true=false by decide)];by_cases hc:w.Client<0
  ·rw [if_pos hc,if_pos hc]
  rw [if_neg hc,if_neg hc,Lr _ _ (show L.length<2^60 by omega),al];by_cases hm:w∈L
  ·rw [decide_eq_true hm,if_pos rfl,if_pos hm]
  rw [decide_eq_false hm,if_neg (by decide),if_neg hm];dsimp only;by_cases h2:200<=L.length
  ·rw [if_pos (by omega),if_pos h2]
  have e0:kp 32 L=some L:=by unfold kp;rw [if_pos (by omega)]
  rw [if_neg (by omega),if_neg h2,e0,al,if_pos (by simp only [IT,AT];omega)]
theorem XW (L:List aq)(w:aq)(hl:L.length<=1000):DU ⟨L.map ol⟩ (ol w)=some (⟨(rJ L w).1.map ol⟩,(rJ L w).2):=by
 unfold DU rJ;have e1:gM (ol w).Path=some (bn w.Path):=mC w.Path;rw [e1,al];cases hb:bn w.Path with
 |false=>rfl
 |true=>
  rw [if_neg (show¬(!true)=true by decide),if_neg (show¬true=false by decide)];by_cases hc:w.Client<0
  ·have hc':(ol w).Client<0:=hc;rw [if_pos hc',if_pos hc]
  have hc': ¬(ol w).Client<0:=hc;have e2:sF (L.map ol) (ol w)=some (decide (w∈L)):=by rw [MZ _ _ (by rw [c8];omega)];congr 1;rw [decide_eq_decide,VT]
  rw [if_neg hc',if_neg hc];dsimp only;rw [e2,al];by_cases hm:w∈L
  ·rw [decide_eq_true hm,if_pos rfl,if_pos hm]
  rw [decide_eq_false hm,if_neg (by decide),if_neg hm,c8];by_cases h2:200<=L.length
  ·rw [if_pos (by omega),if_pos h2]
  rw [if_neg (by omega),if_neg h2,if_pos (by simp only [AT];omega),No,if_pos (by simp only [c8,IT,AT];omega)];simp
theorem ab3 (l:List aF): ∀(L:List aq)(out:List bI),l.foldl A6 (L,out)=((gY L l).1,out++(gY L l).2):=by
 induction l with
 |nil=>intro L out;simp [gY]
 |cons c l ih=>intro L out;unfold gY;rw [By,By];show l.foldl A6 (nJ c L,out++pN c L)=((l.foldl A6 (nJ c L,[]++pN c L)).1,out++(l.foldl A6 (nJ c L,[]++pN c L)).2);rw [ih,ih];simp
theorem Kl (L:List aq)(c:aF)(l:List aF):gY L (c::l)=((gY (nJ c L) l).1,pN c L++(gY (nJ c L) l).2):=by unfold gY;rw [By];show l.foldl A6 (nJ c L,[]++pN c L)=_;rw [No,ab3];rfl
end Dn.S
