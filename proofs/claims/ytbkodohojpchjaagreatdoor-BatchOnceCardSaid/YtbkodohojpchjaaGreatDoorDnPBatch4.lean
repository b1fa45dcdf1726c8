import Derived.Test.YtbkodohojpchjaaGreatDoorDnPRealm7
import Derived.Test.YtbkodohojpchjaaGreatDoorDnPBatch2
/- What waits for a realm, and is then done once. Conditions: none. -/
set_option linter.unusedVariables false
set_option linter.unusedSimpArgs false
open List renaming pairwise_cons→bN,foldl_cons→sh
open Nat renaming le_refl→AI
open Go Dn
namespace Dn.S
def M1 (r:al)(o:aa):Prop:=(fe r.Seen o.Client).2=true->(fe r.Seen o.Client).1.Seq<o.Seq
def vZ (r:al)(o:aa):Prop:=((fe r.Seen o.Client).2=true/\(fe r.Seen o.Client).1.Seq=o.Seq)\/((fe r.Seen o.Client).2=false/\50<=r.Seen.length)
theorem Xr {L:List ae}(c:Int)(x:ae):L.length<=(yQ L c x).length:=by
 unfold yQ;split
 ·rw [List.length_set];exact AI _
 ·unfold GC;simp only [List.length_append,List.length_cons,List.length_take,List.length_drop];omega
theorem Th {r:al}(o:aa):r.Seen.length<=(cK r o).1.Seen.length:=by
 unfold cK;split
 ·exact AI _
 ·exact Xr _ _
theorem abG {r:al}{o:aa}(hm:Cx o=true)(hn:M1 r o):((fe r.Seen o.Client).2=false/\50<=r.Seen.length/\dp r.Seen o=(Cy o 9,true))\/(dp r.Seen o).2=false:=by
 unfold M1 at hn;unfold dp;rw [if_neg (by rw [hm];decide)];cases hl:(fe r.Seen o.Client).2 with
 |true=>right;have:=hn hl;rw [if_pos rfl,if_neg (by omega),if_neg (by omega)]
 |false=>
  rw [if_neg (by decide)];by_cases h5:50<=r.Seen.length
  ·rw [if_pos h5];exact .inl ⟨rfl,h5,rfl⟩
  ·rw [if_neg h5];exact .inr rfl
theorem Q0 {r:al}(h:dQ r){o:aa}(hm:Cx o=true)(hn:M1 r o):(cK r o).2.1.Client=o.Client/\(cK r o).2.1.Seq=o.Seq/\vZ (cK r o).1 o:=by
 cases hk:(dp r.Seen o).2 with
 |true=>
  rcases abG hm hn with ⟨h1,h2,h3⟩|h3
  ·rw [QV h3];exact ⟨rfl,rfl,.inr ⟨h1,h2⟩⟩
  ·rw [h3] at hk;cases hk
 |false=>
  obtain ⟨_,zo,CE,sv⟩:=sH hk;have oT:=re h o;have hd:Az ⟨r,o,(dp r.Seen o).1,[]⟩ (jA r o):=QP (w:=⟨r,o,(dp r.Seen o).1,[]⟩) h.toeA;have Us:(jA r o).x.Client=o.Client:=by rw [hd.eF,zo];rfl
  have hxs:(jA r o).x.Seq=o.Seq:=by rw [hd.seq,zo];rfl
  have e1:(cK r o).1.Seen=yQ r.Seen o.Client (jA r o).x:=by unfold cK;rw [hk,if_neg (by decide)]
  have e2:(cK r o).2.1=(jA r o).x:=by unfold cK;rw [hk,if_neg (by decide)]
  have rX:(jA r o).x∈(cK r o).1.Seen:=by rw [e1];exact (J6 h.inc Us _).2 (.inl rfl)
  have C7:=OE oT.inc rX;rw [Us] at C7;exact ⟨by rw [e2];exact Us,by rw [e2];exact hxs,.inl ⟨by rw [C7],by rw [C7];exact hxs⟩⟩
theorem OH {r:al}{o:aa}(hm:Cx o=true)(hd:vZ r o):(cK r o).1=r:=by
 have hk:(dp r.Seen o).2=true:=by
  unfold dp;rw [if_neg (by rw [hm];decide)];rcases hd with ⟨h1,h2⟩|⟨h1,h2⟩
  ·rw [h1,if_pos rfl,if_pos h2]
  ·rw [h1,if_neg (by decide),if_pos h2]
 unfold cK;rw [if_pos hk]
theorem Ti {l:List aa}{r:al}(h: ∀o∈l,Cx o=true/\vZ r o):MR r l=r:=by
 unfold MR;induction l with
 |nil=>rfl
 |cons o l ih=>rw [sh,OH (h o (by simp)).1 (h o (by simp)).2];exact ih λx hx=>h x (by simp [hx])
theorem vZ.other {r:al}(h:dQ r){o x:aa}(hc:o.Client≠x.Client)(hd:vZ r o):vZ (cK r x).1 o:=by
 have hl:=J7 h x hc;rcases hd with hd|⟨h1,h2⟩
 ·exact .inl (by rw [hl];exact hd)
 ·exact .inr ⟨by rw [hl];exact h1,Nat.le_trans h2 (Th x)⟩
theorem Tj: ∀{l:List aa} {r:al},dQ r-> ∀{o:aa},(∀x∈l,o.Client≠x.Client)->vZ r o->vZ (MR r l) o:=by
 intro l;induction l with
 |nil=>intro r _ o _ h;exact h
 |cons x l ih=>intro r hr o hc h;exact ih (re hr x) (λy hy=>hc y (by simp [hy])) (h.other hr (hc x (by simp)))
structure Li (r:al) (l:List aa):Prop where
 may: ∀o∈l,Cx o=true
 new: ∀o∈l,M1 r o
 pair:l.Pairwise λa b=>a.Client≠b.Client
theorem Li.tail {r:al}(hr:dQ r){o:aa}{l:List aa}(h:Li r (o::l)):Li (cK r o).1 l:=by have hp:=bN.1 h.pair;refine ⟨λx hx=>h.may x (by simp [hx]),λx hx=> ?_,hp.2⟩;unfold M1;rw [J7 hr o (hp.1 x hx).symm];exact h.new x (by simp [hx])
theorem Xs: ∀{l:List aa} {st:al×List ae×List a7},dQ st.1->Li st.1 l-> (∀o∈l,vZ (l.foldl rf st).1 o)/\ ∃R,(l.foldl rf st).2.1=st.2.1++R/\R.length=l.length/\ ∀(k:Nat) (hk:k<l.length) (hR:k<R.length),R[k].Client=l[k].Client/\R[k].Seq=l[k].Seq:=by
 intro l;induction l with
 |nil=>intro st _ _;exact ⟨λo ho=>(by cases ho),[],by simp,rfl,λk hk=>(by simp at hk)⟩
 |cons o l ih=>
  intro st h hw;obtain ⟨a1,a2,a3⟩:=Q0 h (hw.may o (by simp)) (hw.new o (by simp));obtain ⟨i1,R,i2,i3,i4⟩:=ih (st:=rf st o) (re h o) (hw.tail h);rw [sh];have hp:=bN.1 hw.pair;refine ⟨λx hx=> ?_,(cK st.1 o).2.1::R,?_,by simp [i3],λk hk hR=> ?_⟩
  ·rcases List.mem_cons.1 hx with rfl|hx
   ·have hf:=(wZ l (st:=rf st x) (re h x)).1;rw [hf];exact Tj (re h x) (λy hy=>hp.1 y hy) a3
   ·exact i1 x hx
  ·rw [i2];show (st.2.1++[(cK st.1 o).2.1])++R=_;rw [List.append_assoc];rfl
  ·cases k with
   |zero=>exact ⟨a1,a2⟩
   |succ k=>exact i4 k (by simpa using hk) (by simpa using hR)
end Dn.S
