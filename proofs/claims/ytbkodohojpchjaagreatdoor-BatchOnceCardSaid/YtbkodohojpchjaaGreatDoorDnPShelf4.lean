import Derived.Test.YtbkodohojpchjaaGreatDoorDnPShelf3
/- Shelves: the place of a path. Conditions: none. -/
set_option linter.unusedVariables false
set_option linter.unusedSimpArgs false
open List renaming getElem?_eq_getElem→bN,getElem_mem→sh,getElem?_eq_none→AI
open Nat renaming le_refl→AS,zero_le→AT
open Go Dn
namespace Dn.S
theorem BP {α τ:Type}{L:List α}{t:τ}{cmp:α->τ->Option Int}{g:α->Int}{i0:Nat}(hl:L.length<2^60)(hc: ∀a∈L,cmp a t=some (g a))(hi:i0<=L.length)(sw: ∀k (hk:k<L.length),k<i0->g L[k]<0)(rM: ∀k (hk:k<L.length),i0<=k->0<=g L[k]): bsearch L t cmp=some ((i0:Int),match L[i0]? with|some a=>decide (g a=0)|none=>false):=by
 have ke:Loop (bsL L t cmp) (0,(L.length:Int))=some (i0:Int):=by
  refine bG.eq (bG.loop (λst=> ∃i j:Nat,st=((i:Int),(j:Int))/\i<=i0/\i0<=j/\j<=L.length) (λst=>(st.2-st.1).toNat) ⟨0,L.length,rfl,AT _,hi,AS _⟩ ?_);rintro st ⟨i,j,rfl,hi,hj,Kl⟩;unfold bsL;by_cases cI:i<j
  ·have hm:(i+j)/2<L.length:=by omega
   simp only [show ((i:Int)<(j:Int)) by omega,if_true,show ((0:Int)<=1) by decide,aab (by omega:i+j<2^62),b7 hm,hc _ (sh hm),az];by_cases hlb:(i+j)/2<i0
   ·have hk:=sw _ hm hlb;simp only [hk,if_true,az];rw [wrap64 (by omega) (by omega)];exact .mk ⟨⟨(i+j)/2+1,j,by simp,by omega,hj,Kl⟩,by omega⟩
   ·have hk:=rM _ hm (by omega);have: ¬g L[(i+j)/2]<0:=by omega
    simp only [this,if_false,az];exact .mk ⟨⟨i,(i+j)/2,rfl,hi,by omega,by omega⟩,by omega⟩
  ·simp only [show¬((i:Int)<(j:Int)) by omega,if_false];exact .mk (by show (i:Int)=(i0:Int);omega)
 unfold bsearch;rw [ke];simp only [az];by_cases cI:i0<L.length
 ·simp only [show ((i0:Int)<(L.length:Int)) by omega,if_true,b7 cI,hc _ (sh cI),az,bN cI]
 ·simp only [show¬((i0:Int)<(L.length:Int)) by omega,if_false,az,AI (by omega:L.length<=i0)]
theorem QE (s:aC)(p:List UInt8):eo s p=bsearch s.L p cm:=by unfold eo;show bd (bsearch s.L p cm) (λrA=>some (rA.1,rA.2))=_;cases bsearch s.L p cm<;>rfl
theorem JQ (n:af)(p:List UInt8):cm n p=some (if n.Path=p then 0 else if vX n.Path p then-1 else 1):=by
 unfold cm;rw [aa1,az];by_cases h:n.Path=p
 ·simp [h]
 ·cases vX n.Path p<;>simp [h]
def rI (L:List af):Prop:=(∀n∈L,bX n.Path=true)/\L.Pairwise λa b=>rG (aT a.Path) (aT b.Path)=true
theorem JR {L:List af}(h:rI L)(t:List (List UInt8)): ∃i0,i0<=L.length/\(∀k (hk:k<L.length),k<i0->rG (aT (L[k]).Path) t=true)/\ ∀k (hk:k<L.length),i0<=k->rG (aT (L[k]).Path) t=false:=by
 replace h:=h.2
 induction L with
 |nil=>exact ⟨0,AS _,λk hk=>by simp at hk,λk hk=>by simp at hk⟩
 |cons a l ih=>
  have h':=List.pairwise_cons.1 h;cases ha:rG (aT a.Path) t with
  |true=>
   obtain ⟨p,h1,h2,h3⟩:=ih h'.2;refine ⟨p+1,by simp;omega,λk hk hkp=> ?_,λk hk hkp=> ?_⟩
   ·cases k with
    |zero=>exact ha
    |succ k=>exact h2 k (by simpa using hk) (by omega)
   ·cases k with
    |zero=>omega
    |succ k=>exact h3 k (by simpa using hk) (by omega)
  |false=>
   refine ⟨0,AT _,λk hk hkp=>by omega,λk hk _=> ?_⟩;cases k with
   |zero=>exact ha
   |succ k=>have cI:=h'.1 (l[k]'(by simpa using hk)) (sh _);rw [Bool.eq_false_iff];intro hh;simp only [List.getElem_cons_succ] at hh;have:=MI cI hh;rw [ha] at this;cases this
theorem QF {s:aC}(hs:rI s.L)(hl:s.L.length<2^40){p:List UInt8}(hp:bX p=true): ∃i0:Nat,i0<=s.L.length/\eo s p=some ((i0:Int),decide (0<=EU (s.L.map (·.Path)) p))/\ (0<=EU (s.L.map (·.Path)) p->EU (s.L.map (·.Path)) p=i0)/\(∀k (hk:k<s.L.length),k<i0->rG (aT (s.L[k]).Path) (aT p)=true)/\ ∀k (hk:k<s.L.length),i0<=k->rG (aT (s.L[k]).Path) (aT p)=false:=by
 obtain ⟨i0,h1,h2,h3⟩:=JR hs (aT p);have hah: ∀n∈s.L,vX n.Path p=rG (aT n.Path) (aT p):=λn hn=>by unfold vX;rw [hs.1 n hn,hp];rfl
 have cR: ∀k (hk:k<s.L.length),k<i0->(s.L[k]).Path≠p:=λk hk hk0 he=>by have:=h2 k hk hk0;rw [he,DP] at this;cases this
 have GN:=BP (L:=s.L) (t:=p) (cmp:=cm) (g:=λn=>if n.Path=p then 0 else if vX n.Path p then-1 else 1) (i0:=i0) (by omega) (λn _=>JQ n p) h1 (λk hk hk0=>by
   rw [if_neg (cR k hk hk0),hah _ (sh hk),h2 k hk hk0];decide)
  (λk hk hk0=>by rw [hah _ (sh hk),h3 k hk hk0];split<;>simp)
 have KE:0<=EU (s.L.map (·.Path)) p->EU (s.L.map (·.Path)) p=i0/\ ∃hk:i0<s.L.length,(s.L[i0]).Path=p:=by
  intro h0;have cI:=aa3 h0;rw [List.length_map] at cI;obtain ⟨k,hk,hkp,hkf⟩: ∃k,∃hk:k<s.L.length,(s.L[k]).Path=p/\EU (s.L.map (·.Path)) p=k:=by
   unfold EU at h0⊢;cases hf:(s.L.map (·.Path)).findIdx? (λx=>decide (x=p)) with
   |none=>rw [hf] at h0;simp at h0
   |some k=>have O9:=hf;rw [List.findIdx?_eq_some_iff_getElem] at O9;obtain ⟨hk,hd,_⟩:=O9;exact ⟨k,by simpa using hk,by simpa using hd,rfl⟩
  have hki:k=i0:=by
   rcases Nat.lt_trichotomy k i0 with h|h|h
   ·exact absurd hkp (cR k hk h)
   ·exact h
   ·have hi:i0<s.L.length:=by omega
    have:=List.pairwise_iff_getElem.1 hs.2 i0 k hi hk h;rw [hkp,h3 i0 hi (AS _)] at this;cases this
  subst hki;exact ⟨hkf,hk,hkp⟩
 refine ⟨i0,h1,?_,λh0=>(KE h0).1,h2,h3⟩;rw [QE,GN];congr 2;by_cases h0:0<=EU (s.L.map (·.Path)) p
 ·obtain ⟨_,hk,hkp⟩:=KE h0;rw [bN hk,decide_eq_true h0];simp [hkp]
 ·rw [decide_eq_false h0];by_cases hk:i0<s.L.length
  ·rw [bN hk];have hnp:(s.L[i0]).Path≠p:=by intro he;apply h0;have:EU (s.L.map (·.Path)) p=i0:=aa2 (by simpa using hk) (by simpa using he) (λj hj=>by simpa using cR j (by omega) hj);rw [this];omega
   simp only [hnp,if_false];split<;>rfl
  ·rw [AI (by omega)]
def afT:af:=⟨[],[],0,0⟩
def dh (L:List af)(p:List UInt8):Int×Int:=if bX p then (if 0<=EU (L.map (·.Path)) p then (EU (L.map (·.Path)) p,0) else (0,6)) else (0,13)
theorem find_eq {s:aC}(hs:rI s.L)(hl:s.L.length<2^40)(p:List UInt8):gk s p=some (dh s.L p):=by
 unfold gk dh;rw [wW,az];cases hp:bX p with
 |false=>rfl
 |true=>
  obtain ⟨i0,_,h1,h2,_⟩:=QF hs hl hp;rw [if_neg (by decide),h1,az,if_pos rfl];by_cases h0:0<=EU (s.L.map (·.Path)) p
  ·rw [decide_eq_true h0,if_pos h0,h2 h0];simp
  ·rw [decide_eq_false h0,if_neg h0];simp
def lq (L:List af)(p:List UInt8):af×Int:=if (dh L p).2=0 then ((L[(dh L p).1.toNat]?).getD afT,0) else (afT,(dh L p).2)
theorem Ox {L:List af}{p:List UInt8}(h:(dh L p).2=0):0<=(dh L p).1/\(dh L p).1.toNat<L.length:=by
 unfold dh at h⊢;cases hp:bX p with
 |false=>rw [hp] at h;simp at h
 |true=>
  rw [hp] at h;by_cases h0:0<=EU (L.map (·.Path)) p
  ·simp only [if_true,h0];exact ⟨trivial,by simpa using aa3 h0⟩
  ·simp [h0] at h
theorem get_eq {s:aC}(hs:rI s.L)(hl:s.L.length<2^40)(p:List UInt8):p0 s p=some (lq s.L p):=by
 unfold p0 lq;rw [find_eq hs hl,az];by_cases h:(dh s.L p).2=0
 ·obtain ⟨h1,h2⟩:=Ox h;rw [decide_eq_true h,if_neg (by decide),if_pos h,EQ h1 h2,bN h2];rfl
 ·rw [decide_eq_false h,if_pos (by decide),if_neg h];rfl
end Dn.S
