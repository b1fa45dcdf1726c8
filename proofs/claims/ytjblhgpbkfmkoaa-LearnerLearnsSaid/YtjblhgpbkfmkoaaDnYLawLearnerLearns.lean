import Derived.Test.YtjblhgpbkfmkoaaDnYE
import Derived.Test.YtjblhgpbkfmkoaaDnC
import Derived.Test.YtjblhgpbkfmkoaaRows
import Derived.ProofKit
import Derived.Test.YtjblhgpbkfmkoaaDnPLearn4
/-
  The law LearnerLearns holds. Conditions: none.
-/
set_option linter.unusedVariables false
set_option linter.unusedSimpArgs false
set_option maxRecDepth 100000
namespace Go.Proofs.Ytjblhgpbkfmkoaa
open Go Go.ChangeShapes Go.WideShapes Go.ChangeAt Go.RowKit Dn Dn.S
theorem rd3 : ∀ {n : Nat} {ms : List MV}, MT Try.prog n 3 ms → ∃ x : Int, ms = [.i .i64 x] ∧ (Lit.int .i64 x).wf = true := by
  intro n ms h
  cases n with
  | zero => exact h.elim
  | succ d =>
    unfold MT at h
    rw [Try.underlying3] at h
    obtain ⟨x, rfl, h⟩ := h
    exact ⟨x, rfl, h⟩
theorem me3 {n : Nat} {m : MV} (h : ME Try.prog (MT Try.prog n) 3 m) : ∃ x : Int, m = (MV.i .i64) x ∧ (Lit.int .i64 x).wf = true := by
  unfold ME at h
  rw [Try.underlying3] at h
  obtain ⟨x, e, w⟩ := rd3 h
  exact ⟨x, by simpa using e, w⟩
def wfSizeSize (x : SizeSize) : Prop := ((Lit.int .i64 x.F).wf = true) ∧ ((Lit.int .i64 x.T).wf = true)
theorem rd23 : ∀ {n : Nat} {ms : List MV}, MT Try.prog n 23 ms → ∃ x : SizeSize, ms = [.i .i64 x.F, .i .i64 x.T] ∧ wfSizeSize x := by
  intro n ms h
  cases n with
  | zero => exact h.elim
  | succ d =>
    unfold MT at h
    rw [Try.underlying23] at h
    change FT (MT Try.prog d) [3, 3] ms at h
    obtain ⟨_, _, rfl, h0, _, _, rfl, h1, rfl⟩ := h
    obtain ⟨x0, rfl, w0⟩ := rd3 h0
    obtain ⟨x1, rfl, w1⟩ := rd3 h1
    exact ⟨⟨x0, x1⟩, by simp, w0, w1⟩
theorem me23 {n : Nat} {m : MV} (h : ME Try.prog (MT Try.prog n) 23 m) : ∃ x : SizeSize, m = encSizeSize x ∧ wfSizeSize x := by
  unfold ME at h
  rw [Try.underlying23] at h
  obtain ⟨cs, rfl, h⟩ := h
  obtain ⟨x, rfl, w⟩ := rd23 h
  exact ⟨x, rfl, w⟩
theorem rd9 : ∀ {n : Nat} {ms : List MV}, MT Try.prog n 9 ms → ∃ x : List UInt8, ms = [.s x] ∧ x.length ≤ Go.maxLen := by
  intro n ms h
  cases n with
  | zero => exact h.elim
  | succ d =>
    unfold MT at h
    rw [Try.underlying9] at h
    obtain ⟨x, rfl, h⟩ := h
    exact ⟨x, rfl, h⟩
theorem me9 {n : Nat} {m : MV} (h : ME Try.prog (MT Try.prog n) 9 m) : ∃ x : List UInt8, m = MV.s x ∧ x.length ≤ Go.maxLen := by
  unfold ME at h
  rw [Try.underlying9] at h
  obtain ⟨x, e, w⟩ := rd9 h
  exact ⟨x, by simpa using e, w⟩
def wfApiAccept (x : ApiAccept) : Prop := ((Lit.int .i64 x.By).wf = true) ∧ ((Lit.int .i64 x.View).wf = true) ∧ (x.Value.length ≤ Go.maxLen)
theorem rd72 : ∀ {n : Nat} {ms : List MV}, MT Try.prog n 72 ms → ∃ x : ApiAccept, ms = [.i .i64 x.By, .i .i64 x.View, .s x.Value] ∧ wfApiAccept x := by
  intro n ms h
  cases n with
  | zero => exact h.elim
  | succ d =>
    unfold MT at h
    rw [Try.underlying72] at h
    change FT (MT Try.prog d) [3, 3, 9] ms at h
    obtain ⟨_, _, rfl, h0, _, _, rfl, h1, _, _, rfl, h2, rfl⟩ := h
    obtain ⟨x0, rfl, w0⟩ := rd3 h0
    obtain ⟨x1, rfl, w1⟩ := rd3 h1
    obtain ⟨x2, rfl, w2⟩ := rd9 h2
    exact ⟨⟨x0, x1, x2⟩, by simp, w0, w1, w2⟩
theorem me72 {n : Nat} {m : MV} (h : ME Try.prog (MT Try.prog n) 72 m) : ∃ x : ApiAccept, m = encApiAccept x ∧ wfApiAccept x := by
  unfold ME at h
  rw [Try.underlying72] at h
  obtain ⟨cs, rfl, h⟩ := h
  obtain ⟨x, rfl, w⟩ := rd72 h
  exact ⟨x, rfl, w⟩
theorem own : ownKnob Try.prog.godebug = none := by kernel_rfl
theorem laidOut : laidOutB Try.prog = true := by kernel_rfl
theorem sound_law : ∀ ms, ParamsOK Try.prog Try.f7.params.toList ms → Sound1 Try.prog cx 7 ms (.b true) := by
  intro ms h
  rw [show Try.f7.params = #[23, 3, 72] from Try.params7] at h
  obtain ⟨m0, _, rfl, ⟨_, h0⟩, m1, _, rfl, ⟨_, h1⟩, m2, _, rfl, ⟨_, h2⟩, h⟩ := h
  have h : _ = [] := h
  subst h
  obtain ⟨x0, rfl, w0⟩ := me23 h0
  obtain ⟨x1, rfl, w1⟩ := me3 h1
  obtain ⟨x2, rfl, w2⟩ := me72 h2
  refine soundL22LearnerLearns.all 7 _ _ ?_
  have he := eL22LearnerLearns x0 x1 x2
  rw [learnerLearns_all x0 x1 x2] at he
  exact he
theorem law_lifted (os : Os) (started : os.Started) (H : Type) (enc : TypeId × Value → H) :
    ReturnsInHanded {} Try.checked os 7 .any (Rows.learnerLearnsSpec.pre6 enc Try.prog Try.f7 Rows.learnerLearnsRow.domain false) (Rows.learnerLearnsSpec.post enc Try.prog Try.f7 false true false false) := by
  refine returnsInHanded_of_change (C := Try.checked) own started (by kernel_rfl) Try.func7
    (ChangeSpec.witness6 (enc := enc) (C := Try.checked) false ⟨#[], #[.agg #[.int .i64 0, .int .i64 0], .int .i64 0, .agg #[.int .i64 0, .int .i64 0, .string ⟨#[]⟩]], []⟩ 7 (by kernel_rfl) (by kernel_rfl) (by kernel_rfl) (by kernel_rfl)) ?_
  intro W base args ds gs before hval0 hW hcnd _
  refine law_calls (c := cx) (tb := 4) Try.func7 (by kernel_rfl) (by kernel_rfl) laidOut ?_ (by kernel_rfl) Try.underlying4 rfl ?_ hval0 hW (by kernel_rfl) sound_law
  · intro t ht
    rw [show Try.f7.params = #[23, 3, 72] from Try.params7] at ht
    rcases List.mem_cons.1 ht with rfl | ht
    · exact ⟨⟨30, by kernel_rfl⟩, by kernel_rfl, of_decide_eq_true (by kernel_rfl)⟩
    rcases List.mem_cons.1 ht with rfl | ht
    · exact ⟨⟨30, by kernel_rfl⟩, by kernel_rfl, of_decide_eq_true (by kernel_rfl)⟩
    rcases List.mem_cons.1 ht with rfl | ht
    · exact ⟨⟨30, by kernel_rfl⟩, by kernel_rfl, of_decide_eq_true (by kernel_rfl)⟩
    cases ht
  · intro ds hd
    rw [show Try.f7.params = #[23, 3, 72] from Try.params7] at hd
    match ds, hd with
    | [_, _, _], _ => rfl
theorem law_holds : Rows.LearnerLearnsSaid :=
  OpenClaim.holds_of_wide 7 Try.f7 rfl rfl rfl rfl rfl rfl rfl ⟨rfl, rfl, rfl, rfl, rfl⟩ rfl rfl rfl rfl rfl (by kernel_rfl) Try.func7 (by kernel_rfl)
    (of_decide_eq_true (by kernel_rfl)) (by unfold Func.isWrapper; first | (rw [if_pos (by decide +kernel)]; kernel_rfl) | (rw [if_neg (by decide +kernel)]; exact ⟨rfl, rfl⟩))
    (fun os started H enc _ => law_lifted os started H enc)
end Go.Proofs.Ytjblhgpbkfmkoaa
