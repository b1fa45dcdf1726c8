import Derived.Test.YtjblhgpbkfmkoaaDnYT
import Derived.Test.YtjblhgpbkfmkoaaDnD
/-
  Sizes: the functions on typed values. Conditions: none.
-/
open Go Dn
set_option linter.unusedVariables false
set_option linter.unusedSimpArgs false
namespace Dn.S
structure SizeOK (s : SizeSize) : Prop where
  f1 : 1 ≤ s.F
  f5 : s.F ≤ 5
  t0 : 0 ≤ s.T
  tf : s.T ≤ s.F
theorem SizeOK_iff (s : SizeSize) : SizeOK s ↔ (1 ≤ s.F ∧ s.F ≤ 5 ∧ 0 ≤ s.T ∧ s.T ≤ s.F) := ⟨fun ⟨a, b, c, d⟩ => ⟨a, b, c, d⟩, fun ⟨a, b, c, d⟩ => ⟨a, b, c, d⟩⟩
instance (s : SizeSize) : Decidable (SizeOK s) := decidable_of_iff _ (SizeOK_iff s).symm
theorem and4 {a b c d P : Prop} [Decidable a] [Decidable b] [Decidable c] [Decidable d] [Decidable P] (h : P ↔ a ∧ b ∧ c ∧ d) : (if a then if b then if c then some (decide d) else some false else some false else some false) = some (decide P) := by
  by_cases ha : a <;> by_cases hb : b <;> by_cases hc : c <;> by_cases hd : d <;> simp [ha, hb, hc, hd, h]
theorem SizeOK.cases {s : SizeSize} (h : SizeOK s) (P : SizeSize → Prop) (hp : ∀ f : Fin 5, ∀ t : Fin 6, (t : Nat) ≤ (f : Nat) + 1 → P ⟨((f : Nat) : Int) + 1, ((t : Nat) : Int)⟩) : P s := by
  obtain ⟨F, T⟩ := s
  obtain ⟨h1, h2, h3, h4⟩ := h
  simp only at h1 h2 h3 h4
  have := hp ⟨(F - 1).toNat, by omega⟩ ⟨T.toNat, by omega⟩ (by simp only; omega)
  simp only at this
  rw [show (((F - 1).toNat : Nat) : Int) + 1 = F by omega, show ((T.toNat : Nat) : Int) = T by omega] at this
  exact this
theorem sizeN_eq {s : SizeSize} (h : SizeOK s) : tSizeN s = some (3 * s.F + 2 * s.T + 1) := h.cases (fun s => tSizeN s = some (3 * s.F + 2 * s.T + 1)) (by decide +kernel)
theorem sizeProof_eq {s : SizeSize} (h : SizeOK s) : tSizeProof s = some (2 * s.F + s.T + 1) := h.cases (fun s => tSizeProof s = some (2 * s.F + s.T + 1)) (by decide +kernel)
def plS (s : SizeSize) : R07Size := ⟨s.F, s.T⟩
theorem r07Right_eq (s : SizeSize) : tR07Right (plS s) = some (decide (SizeOK s)) := by
  unfold tR07Right plS
  simp only [bd_id]
  exact and4 (SizeOK_iff s)
theorem sizeRight_eq (s : SizeSize) : tSizeRight s = some (decide (SizeOK s)) := by
  have h := r07Right_eq s
  unfold tR07Right plS at h
  unfold tSizeRight
  exact h
def nOf (s : SizeSize) : Int := 3 * s.F + 2 * s.T + 1
theorem r07N_eq {s : SizeSize} (h : SizeOK s) : tR07N (plS s) = some (3 * s.F + 2 * s.T + 1) := by
  obtain ⟨h1, h2, h3, h4⟩ := h
  unfold tR07N plS
  simp only
  rw [wrap64 (x := 3 * s.F) (by omega) (by omega), wrap64 (x := 2 * s.T) (by omega) (by omega), wrap64 (x := 3 * s.F + 2 * s.T) (by omega) (by omega), wrap64 (by omega) (by omega)]
theorem r07Proof_eq {s : SizeSize} (h : SizeOK s) : tR07Proof (plS s) = some (2 * s.F + s.T + 1) := by
  obtain ⟨h1, h2, h3, h4⟩ := h
  unfold tR07Proof plS
  simp only
  rw [wrap64 (x := 2 * s.F) (by omega) (by omega), wrap64 (x := 2 * s.F + s.T) (by omega) (by omega), wrap64 (by omega) (by omega)]
end Dn.S
