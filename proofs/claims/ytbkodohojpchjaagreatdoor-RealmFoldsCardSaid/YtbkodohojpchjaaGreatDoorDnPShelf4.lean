import Derived.Test.YtbkodohojpchjaaGreatDoorDnPShelf3
/-
  Shelves: the place of a path. Conditions: none.
-/
set_option linter.unusedVariables false
set_option linter.unusedSimpArgs false
open List renaming getElem?_eq_getElem→c9,getElem_mem→sh,getElem?_eq_none→AI
open Nat renaming le_refl→AS,zero_le→AT
open Go Dn
namespace Dn.S
theorem Ch {α τ:Type}{L:List α}{t:τ}{cmp:α->τ->Option Int}{g:α->Int}{i0:Nat}(hl:L.length<2^60)(hc: ∀a∈L,cmp a t=some (g a))(hi:i0<=L.length)(vZ: ∀k (hk:k<L.length),k<i0->g L[k]<0)(vF: ∀k (hk:k<L.length),i0<=k->0<=g L[k]): bsearch L t cmp=some ((i0:Int),match L[i0]? with|some a=>decide (g a=0)|none=>false):=by
 have cw:Loop (bsL L t cmp) (0,(L.length:Int))=some (i0:Int):=by
  refine aO.eq (aO.loop (λst=> ∃i j:Nat,st=((i:Int),(j:Int))/\i<=i0/\i0<=j/\j<=L.length) (λst=>(st.2-st.1).toNat) ⟨0,L.length,rfl,AT _,hi,AS _⟩ ?_);rintro st ⟨i,j,rfl,hi,hj,KC⟩;unfold bsL;by_cases dY:i<j
  ·have hm:(i+j)/2<L.length:=by omega
   simp only [show ((i:Int)<(j:Int)) by omega,if_true,show ((0:Int)<=1) by decide,aaa (by omega:i+j<2^62),ba hm,hc _ (sh hm),av];by_cases hlb:(i+j)/2<i0
   ·have hk:=vZ _ hm hlb;simp only [hk,if_true,av];rw [wrap64 (by omega) (by omega)];exact .mk ⟨⟨(i+j)/2+1,j,by simp,by omega,hj,KC⟩,by omega⟩
   ·have hk:=vF _ hm (by omega);have: ¬g L[(i+j)/2]<0:=by omega
    simp only [this,if_false,av];exact .mk ⟨⟨i,(i+j)/2,rfl,hi,by omega,by omega⟩,by omega⟩
  ·simp only [show¬((i:Int)<(j:Int)) by omega,if_false];exact .mk (by show (i:Int)=(i0:Int);omega)
 unfold bsearch;rw [cw];simp only [av];by_cases dY:i0<L.length
 ·simp only [show ((i0:Int)<(L.length:Int)) by omega,if_true,ba dY,hc _ (sh dY),av,c9 dY]
 ·simp only [show¬((i0:Int)<(L.length:Int)) by omega,if_false,av,AI (by omega:L.length<=i0)]
theorem Rk (s:aD)(p:List UInt8):eW s p=bsearch s.L p cQ:=by unfold eW;show bd (bsearch s.L p cQ) (λrA=>some (rA.1,rA.2))=_;cases bsearch s.L p cQ<;>rfl
theorem Ki (n:ah)(p:List UInt8):cQ n p=some (if n.Path=p then 0 else if pJ n.Path p then-1 else 1):=by
 unfold cQ;rw [abz,av];by_cases h:n.Path=p
 ·simp [h]
 ·cases pJ n.Path p<;>simp [h]
def od (L:List ah):Prop:=(∀n∈L,bA n.Path=true)/\L.Pairwise λa b=>oc (aH a.Path) (aH b.Path)=true
theorem ED {L:List ah}(h:od L)(t:List (List UInt8)): ∃i0,i0<=L.length/\(∀k (hk:k<L.length),k<i0->oc (aH (L[k]).Path) t=true)/\ ∀k (hk:k<L.length),i0<=k->oc (aH (L[k]).Path) t=false:=by
 replace h:=h.2
 induction L with
 |nil=>exact ⟨0,AS _,λk hk=>by simp at hk,λk hk=>by simp at hk⟩
 |cons a l ih=>
  have h':=List.pairwise_cons.1 h;cases ha:oc (aH a.Path) t with
  |true=>
   obtain ⟨p,h1,h2,h3⟩:=ih h'.2;refine ⟨p+1,by simp;omega,λk hk O9=> ?_,λk hk O9=> ?_⟩
   ·cases k with
    |zero=>exact ha
    |succ k=>exact h2 k (by simpa using hk) (by omega)
   ·cases k with
    |zero=>omega
    |succ k=>exact h3 k (by simpa using hk) (by omega)
  |false=>
   refine ⟨0,AT _,λk hk O9=>by omega,λk hk _=> ?_⟩;cases k with
   |zero=>exact ha
   |succ k=>have dY:=h'.1 (l[k]'(by simpa using hk)) (sh _);rw [Bool.eq_false_iff];intro hh;simp only [List.getElem_cons_succ] at hh;have:=FF dY hh;rw [ha] at this;cases this
theorem Rl {s:aD}(hs:od s.L)(hl:s.L.length<2^40){p:List UInt8}(hp:bA p=true): ∃i0:Nat,i0<=s.L.length/\eW s p=some ((i0:Int),decide (0<=rN (s.L.map (·.Path)) p))/\ (0<=rN (s.L.map (·.Path)) p->rN (s.L.map (·.Path)) p=i0)/\(∀k (hk:k<s.L.length),k<i0->oc (aH (s.L[k]).Path) (aH p)=true)/\ ∀k (hk:k<s.L.length),i0<=k->oc (aH (s.L[k]).Path) (aH p)=false:=by
 obtain ⟨i0,h1,h2,h3⟩:=ED hs (aH p);have hah: ∀n∈s.L,pJ n.Path p=oc (aH n.Path) (aH p):=λn hn=>by unfold pJ;rw [hs.1 n hn,hp];rfl
 have dG: ∀k (hk:k<s.L.length),k<i0->(s.L[k]).Path≠p:=λk hk hk0 he=>by have:=h2 k hk hk0;rw [he,Bw] at this;cases this
 have YY:=Ch (L:=s.L) (t:=p) (cmp:=cQ) (g:=λn=>if n.Path=p then 0 else if pJ n.Path p then-1 else 1) (i0:=i0) (by omega) (λn _=>Ki n p) h1 (λk hk hk0=>by
   rw [if_neg (dG k hk hk0),hah _ (sh hk),h2 k hk hk0];decide)
  (λk hk hk0=>by rw [hah _ (sh hk),h3 k hk hk0];split<;>simp)
 have EY:0<=rN (s.L.map (·.Path)) p->rN (s.L.map (·.Path)) p=i0/\ ∃hk:i0<s.L.length,(s.L[i0]).Path=p:=by
  intro h0;have dY:=OE h0;rw [List.length_map] at dY;obtain ⟨k,hk,O9,hkf⟩: ∃k,∃hk:k<s.L.length,(s.L[k]).Path=p/\rN (s.L.map (·.Path)) p=k:=by
   unfold rN at h0⊢;cases hf:(s.L.map (·.Path)).findIdx? (λx=>decide (x=p)) with
   |none=>rw [hf] at h0;simp at h0
   |some k=>have Up:=hf;rw [List.findIdx?_eq_some_iff_getElem] at Up;obtain ⟨hk,hd,_⟩:=Up;exact ⟨k,by simpa using hk,by simpa using hd,rfl⟩
  have O4:k=i0:=by
   rcases Nat.lt_trichotomy k i0 with h|h|h
   ·exact absurd O9 (dG k hk h)
   ·exact h
   ·have hi:i0<s.L.length:=by omega
    have:=List.pairwise_iff_getElem.1 hs.2 i0 k hi hk h;rw [O9,h3 i0 hi (AS _)] at this;cases this
  subst O4;exact ⟨hkf,hk,O9⟩
 refine ⟨i0,h1,?_,λh0=>(EY h0).1,h2,h3⟩;rw [Rk,YY];congr 2;by_cases h0:0<=rN (s.L.map (·.Path)) p
 ·obtain ⟨_,hk,O9⟩:=EY h0;rw [c9 hk,decide_eq_true h0];simp [O9]
 ·rw [decide_eq_false h0];by_cases hk:i0<s.L.length
  ·rw [c9 hk];have hnp:(s.L[i0]).Path≠p:=by intro he;apply h0;have:rN (s.L.map (·.Path)) p=i0:=Kh (by simpa using hk) (by simpa using he) (λj hj=>by simpa using dG j (by omega) hj);rw [this];omega
   simp only [hnp,if_false];split<;>rfl
  ·rw [AI (by omega)]
def Vx:ah:=⟨[],[],0,0⟩
def cr (L:List ah)(p:List UInt8):Int×Int:=if bA p then (if 0<=rN (L.map (·.Path)) p then (rN (L.map (·.Path)) p,0) else (0,6)) else (0,13)
theorem find_eq {s:aD}(hs:od s.L)(hl:s.L.length<2^40)(p:List UInt8):ig s p=some (cr s.L p):=by
 unfold ig cr;rw [xi,av];cases hp:bA p with
 |false=>rfl
 |true=>
  obtain ⟨i0,_,h1,h2,_⟩:=Rl hs hl hp;rw [if_neg (by decide),h1,av,if_pos rfl];by_cases h0:0<=rN (s.L.map (·.Path)) p
  ·rw [decide_eq_true h0,if_pos h0,h2 h0];simp
  ·rw [decide_eq_false h0,if_neg h0];simp
def en (L:List ah)(p:List UInt8):ah×Int:=if (cr L p).2=0 then ((L[(cr L p).1.toNat]?).getD Vx,0) else (Vx,(cr L p).2)
theorem OH {L:List ah}{p:List UInt8}(h:(cr L p).2=0):0<=(cr L p).1/\(cr L p).1.toNat<L.length:=by
 unfold cr at h⊢;cases hp:bA p with
 |false=>rw [hp] at h;simp at h
 |true=>
  rw [hp] at h;by_cases h0:0<=rN (L.map (·.Path)) p
  ·simp only [if_true,h0];exact ⟨trivial,by simpa using OE h0⟩
  ·simp [h0] at h
theorem get_eq {s:aD}(hs:od s.L)(hl:s.L.length<2^40)(p:List UInt8):ql s p=some (en s.L p):=by
 unfold ql en;rw [find_eq hs hl,av];by_cases h:(cr s.L p).2=0
 ·obtain ⟨h1,h2⟩:=OH h;rw [decide_eq_true h,if_neg (by decide),if_pos h,yJ h1 h2,c9 h2];rfl
 ·rw [decide_eq_false h,if_pos (by decide),if_neg h];rfl
end Dn.S
