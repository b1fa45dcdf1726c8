import Derived.Test.YtbkodohojpchjaaGreatDoorDnPPath3
/-
  Paths: below, ahead, joined; PathOrder, PathJoins, PathMade. Conditions: none.
-/
set_option linter.unusedVariables false
set_option linter.unusedSimpArgs false
open Go.Op renaming bytesLess→aQ
open Bool renaming and_eq_true→sh,or_eq_true→AT
open List renaming take_succ_cons→AI,length_cons→AS
open List.cons renaming injEq→By
open Go Dn
namespace Dn.S
theorem LC (a:List UInt8):aQ a a=false:=by
 induction a with
 |nil=>rfl
 |cons x a ih=>simp [aQ,ih]
theorem SS {a b c:List UInt8}(h1:aQ a b=true)(h2:aQ b c=true):aQ a c=true:=by
 induction a generalizing b c with
 |nil=>
  cases b with
  |nil=>simp [aQ] at h1
  |cons y b=>cases c with
   |nil=>simp [aQ] at h2
   |cons z c=>rfl
 |cons x a ih=>
  cases b with
  |nil=>simp [aQ] at h1
  |cons y b=>
   cases c with
   |nil=>simp [aQ] at h2
   |cons z c=>
    simp only [aQ,AT,decide_eq_true_eq,sh,beq_iff_eq,UInt8.lt_iff_toNat_lt] at h1 h2⊢;rcases h1 with h1|⟨rfl,h1⟩
    ·rcases h2 with h2|⟨rfl,h2⟩
     ·exact .inl (by omega)
     ·exact .inl h1
    ·rcases h2 with h2|⟨rfl,h2⟩
     ·exact .inl h2
     ·exact .inr ⟨rfl,ih h1 h2⟩
def VX:List (List UInt8)->List (List UInt8)->Bool
 |[],[]=>false
 |[],_::_=>true
 |_::_,[]=>false
 |a::x,b::y=>aQ a b||(decide (a=b)&&VX x y)
def td (a b:List (List UInt8)):Bool:=decide (a.length<b.length)&&decide (a=b.take a.length)
theorem ael {a b c:List (List UInt8)}(h1:VX a b=true)(h2:VX b c=true)(h3:td a c=true):td a b=true:=by
 induction a generalizing b c with
 |nil=>
  cases b with
  |nil=>simp [VX] at h1
  |cons y b=>simp [td]
 |cons x a ih=>
  cases c with
  |nil=>simp [td] at h3
  |cons z c=>
   cases b with
   |nil=>simp [VX] at h1
   |cons y b=>
    have LS:x=z/\td a c=true:=by simp only [td,AS,AI,By,sh,decide_eq_true_eq] at h3;exact ⟨h3.2.1,by simp only [td,sh,decide_eq_true_eq];exact ⟨by omega,h3.2.2⟩⟩
    obtain ⟨rfl,LS⟩:=LS;simp only [VX,AT,decide_eq_true_eq,sh] at h1 h2;have Qx:x=y/\VX a b=true/\VX b c=true:=by
     rcases h1 with h1|⟨rfl,h1⟩
     ·rcases h2 with h2|⟨rfl,h2⟩
      ·have:=SS h1 h2;rw [LC] at this;cases this
      ·rw [LC] at h1;cases h1
     ·rcases h2 with h2|⟨_,h2⟩
      ·rw [LC] at h2;cases h2
      ·exact ⟨rfl,h1,h2⟩
    obtain ⟨rfl,g1,g2⟩:=Qx;have:=ih g1 g2 LS;simp only [td,AS,AI,By,sh,decide_eq_true_eq] at this⊢;exact ⟨by omega,trivial,this.2⟩
end Dn.S
