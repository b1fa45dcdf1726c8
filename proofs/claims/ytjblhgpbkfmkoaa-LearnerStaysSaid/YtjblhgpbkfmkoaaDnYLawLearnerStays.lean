import Derived.Test.YtjblhgpbkfmkoaaDnYE
import Derived.Test.YtjblhgpbkfmkoaaDnC
import Derived.Test.YtjblhgpbkfmkoaaRows
import Derived.ProofKit
import Derived.Test.YtjblhgpbkfmkoaaDnPLearn6
/-
  The law LearnerStays holds. Conditions: none.
-/
set_option linter.unusedVariables false
set_option linter.unusedSimpArgs false
set_option maxRecDepth 100000
namespace Go.Proofs.Ytjblhgpbkfmkoaa
open Go Go.ChangeShapes Go.WideShapes Go.ChangeAt Go.RowKit Dn Dn.S
theorem rd3 : ∀ {n : Nat} {ms : List MV}, MT Try.prog n 3 ms → ∃ x : Int, ms = [.i .i64 x] ∧ (Lit.int .i64 x).wf = true := by
  intro n ms h
  cases n with
  | zero => exact h.elim
  | succ d =>
    unfold MT at h
    rw [Try.underlying3] at h
    obtain ⟨x, rfl, h⟩ := h
    exact ⟨x, rfl, h⟩
theorem me3 {n : Nat} {m : MV} (h : ME Try.prog (MT Try.prog n) 3 m) : ∃ x : Int, m = (MV.i .i64) x ∧ (Lit.int .i64 x).wf = true := by
  unfold ME at h
  rw [Try.underlying3] at h
  obtain ⟨x, e, w⟩ := rd3 h
  exact ⟨x, by simpa using e, w⟩
def wfSizeSize (x : SizeSize) : Prop := ((Lit.int .i64 x.F).wf = true) ∧ ((Lit.int .i64 x.T).wf = true)
theorem rd23 : ∀ {n : Nat} {ms : List MV}, MT Try.prog n 23 ms → ∃ x : SizeSize, ms = [.i .i64 x.F, .i .i64 x.T] ∧ wfSizeSize x := by
  intro n ms h
  cases n with
  | zero => exact h.elim
  | succ d =>
    unfold MT at h
    rw [Try.underlying23] at h
    change FT (MT Try.prog d) [3, 3] ms at h
    obtain ⟨_, _, rfl, h0, _, _, rfl, h1, rfl⟩ := h
    obtain ⟨x0, rfl, w0⟩ := rd3 h0
    obtain ⟨x1, rfl, w1⟩ := rd3 h1
    exact ⟨⟨x0, x1⟩, by simp, w0, w1⟩
theorem me23 {n : Nat} {m : MV} (h : ME Try.prog (MT Try.prog n) 23 m) : ∃ x : SizeSize, m = encSizeSize x ∧ wfSizeSize x := by
  unfold ME at h
  rw [Try.underlying23] at h
  obtain ⟨cs, rfl, h⟩ := h
  obtain ⟨x, rfl, w⟩ := rd23 h
  exact ⟨x, rfl, w⟩
theorem rd9 : ∀ {n : Nat} {ms : List MV}, MT Try.prog n 9 ms → ∃ x : List UInt8, ms = [.s x] ∧ x.length ≤ Go.maxLen := by
  intro n ms h
  cases n with
  | zero => exact h.elim
  | succ d =>
    unfold MT at h
    rw [Try.underlying9] at h
    obtain ⟨x, rfl, h⟩ := h
    exact ⟨x, rfl, h⟩
theorem me9 {n : Nat} {m : MV} (h : ME Try.prog (MT Try.prog n) 9 m) : ∃ x : List UInt8, m = MV.s x ∧ x.length ≤ Go.maxLen := by
  unfold ME at h
  rw [Try.underlying9] at h
  obtain ⟨x, e, w⟩ := rd9 h
  exact ⟨x, by simpa using e, w⟩
def wfApiAccept (x : ApiAccept) : Prop := ((Lit.int .i64 x.By).wf = true) ∧ ((Lit.int .i64 x.View).wf = true) ∧ (x.Value.length ≤ Go.maxLen)
theorem rd72 : ∀ {n : Nat} {ms : List MV}, MT Try.prog n 72 ms → ∃ x : ApiAccept, ms = [.i .i64 x.By, .i .i64 x.View, .s x.Value] ∧ wfApiAccept x := by
  intro n ms h
  cases n with
  | zero => exact h.elim
  | succ d =>
    unfold MT at h
    rw [Try.underlying72] at h
    change FT (MT Try.prog d) [3, 3, 9] ms at h
    obtain ⟨_, _, rfl, h0, _, _, rfl, h1, _, _, rfl, h2, rfl⟩ := h
    obtain ⟨x0, rfl, w0⟩ := rd3 h0
    obtain ⟨x1, rfl, w1⟩ := rd3 h1
    obtain ⟨x2, rfl, w2⟩ := rd9 h2
    exact ⟨⟨x0, x1, x2⟩, by simp, w0, w1, w2⟩
theorem me72 {n : Nat} {m : MV} (h : ME Try.prog (MT Try.prog n) 72 m) : ∃ x : ApiAccept, m = encApiAccept x ∧ wfApiAccept x := by
  unfold ME at h
  rw [Try.underlying72] at h
  obtain ⟨cs, rfl, h⟩ := h
  obtain ⟨x, rfl, w⟩ := rd72 h
  exact ⟨x, rfl, w⟩
theorem rd24 : ∀ {n : Nat} {ms : List MV}, MT Try.prog n 24 ms → ∃ x : List ApiAccept, ms = [.list (x.map encApiAccept)] ∧ x.length ≤ Go.maxLen ∧ ∀ y ∈ x, wfApiAccept y := by
  intro n ms h
  cases n with
  | zero => exact h.elim
  | succ d =>
    unfold MT at h
    rw [Try.underlying24] at h
    obtain ⟨xs, rfl, h1, h2⟩ := h
    obtain ⟨L, rfl, h3⟩ := list_of (fun x (hx : ME Try.prog (MT Try.prog d) 72 x) => me72 hx) h2
    exact ⟨L, rfl, by simpa using h1, h3⟩
theorem me24 {n : Nat} {m : MV} (h : ME Try.prog (MT Try.prog n) 24 m) : ∃ x : List ApiAccept, m = (encL encApiAccept) x ∧ x.length ≤ Go.maxLen ∧ ∀ y ∈ x, wfApiAccept y := by
  unfold ME at h
  rw [Try.underlying24] at h
  obtain ⟨x, e, w⟩ := rd24 h
  exact ⟨x, by simpa using e, w⟩
def wfL22Word (x : L22Word) : Prop := ((Lit.int .i64 x.Kind).wf = true) ∧ ((Lit.int .i64 x.By).wf = true) ∧ (wfApiAccept x.A) ∧ (x.P.length ≤ Go.maxLen ∧ ∀ y ∈ x.P, wfApiAccept y)
theorem rd74 : ∀ {n : Nat} {ms : List MV}, MT Try.prog n 74 ms → ∃ x : L22Word, ms = [.i .i64 x.Kind, .i .i64 x.By, .i .i64 x.A.By, .i .i64 x.A.View, .s x.A.Value, .list (x.P.map encApiAccept)] ∧ wfL22Word x := by
  intro n ms h
  cases n with
  | zero => exact h.elim
  | succ d =>
    unfold MT at h
    rw [Try.underlying74] at h
    change FT (MT Try.prog d) [3, 3, 72, 24] ms at h
    obtain ⟨_, _, rfl, h0, _, _, rfl, h1, _, _, rfl, h2, _, _, rfl, h3, rfl⟩ := h
    obtain ⟨x0, rfl, w0⟩ := rd3 h0
    obtain ⟨x1, rfl, w1⟩ := rd3 h1
    obtain ⟨x2, rfl, w2⟩ := rd72 h2
    obtain ⟨x3, rfl, w3⟩ := rd24 h3
    exact ⟨⟨x0, x1, x2, x3⟩, by simp, w0, w1, w2, w3⟩
theorem me74 {n : Nat} {m : MV} (h : ME Try.prog (MT Try.prog n) 74 m) : ∃ x : L22Word, m = encL22Word x ∧ wfL22Word x := by
  unfold ME at h
  rw [Try.underlying74] at h
  obtain ⟨cs, rfl, h⟩ := h
  obtain ⟨x, rfl, w⟩ := rd74 h
  exact ⟨x, rfl, w⟩
theorem rd85 : ∀ {n : Nat} {ms : List MV}, MT Try.prog n 85 ms → ∃ x : List L22Word, ms = [.list (x.map encL22Word)] ∧ x.length ≤ Go.maxLen ∧ ∀ y ∈ x, wfL22Word y := by
  intro n ms h
  cases n with
  | zero => exact h.elim
  | succ d =>
    unfold MT at h
    rw [Try.underlying85] at h
    obtain ⟨xs, rfl, h1, h2⟩ := h
    obtain ⟨L, rfl, h3⟩ := list_of (fun x (hx : ME Try.prog (MT Try.prog d) 74 x) => me74 hx) h2
    exact ⟨L, rfl, by simpa using h1, h3⟩
theorem me85 {n : Nat} {m : MV} (h : ME Try.prog (MT Try.prog n) 85 m) : ∃ x : List L22Word, m = (encL encL22Word) x ∧ x.length ≤ Go.maxLen ∧ ∀ y ∈ x, wfL22Word y := by
  unfold ME at h
  rw [Try.underlying85] at h
  obtain ⟨x, e, w⟩ := rd85 h
  exact ⟨x, by simpa using e, w⟩
theorem own : ownKnob Try.prog.godebug = none := by kernel_rfl
theorem laidOut : laidOutB Try.prog = true := by kernel_rfl
theorem sound_law : ∀ ms, ParamsOK Try.prog Try.f8.params.toList ms → Sound1 Try.prog cx 8 ms (.b true) := by
  intro ms h
  rw [show Try.f8.params = #[23, 85] from Try.params8] at h
  obtain ⟨m0, _, rfl, ⟨_, h0⟩, m1, _, rfl, ⟨_, h1⟩, h⟩ := h
  have h : _ = [] := h
  subst h
  obtain ⟨x0, rfl, w0⟩ := me23 h0
  obtain ⟨x1, rfl, w1⟩ := me85 h1
  refine soundL22LearnerStays.all 8 _ _ ?_
  have he := eL22LearnerStays x0 x1
  rw [learnerStays_all x0 x1] at he
  exact he
theorem law_lifted (os : Os) (started : os.Started) (H : Type) (enc : TypeId × Value → H) :
    ReturnsInHanded {} Try.checked os 8 .any (Rows.learnerStaysSpec.pre6 enc Try.prog Try.f8 Rows.learnerStaysRow.domain false) (Rows.learnerStaysSpec.post enc Try.prog Try.f8 false true false false) := by
  refine returnsInHanded_of_change (C := Try.checked) own started (by kernel_rfl) Try.func8
    (ChangeSpec.witness6 (enc := enc) (C := Try.checked) false ⟨#[], #[.agg #[.int .i64 0, .int .i64 0], .slice none 0 0], []⟩ 8 (by kernel_rfl) (by kernel_rfl) (by kernel_rfl) (by kernel_rfl)) ?_
  intro W base args ds gs before hval0 hW hcnd _
  refine law_calls (c := cx) (tb := 4) Try.func8 (by kernel_rfl) (by kernel_rfl) laidOut ?_ (by kernel_rfl) Try.underlying4 rfl ?_ hval0 hW (by kernel_rfl) sound_law
  · intro t ht
    rw [show Try.f8.params = #[23, 85] from Try.params8] at ht
    rcases List.mem_cons.1 ht with rfl | ht
    · exact ⟨⟨30, by kernel_rfl⟩, by kernel_rfl, of_decide_eq_true (by kernel_rfl)⟩
    rcases List.mem_cons.1 ht with rfl | ht
    · exact ⟨⟨30, by kernel_rfl⟩, by kernel_rfl, of_decide_eq_true (by kernel_rfl)⟩
    cases ht
  · intro ds hd
    rw [show Try.f8.params = #[23, 85] from Try.params8] at hd
    match ds, hd with
    | [_, _], _ => rfl
theorem law_holds : Rows.LearnerStaysSaid :=
  OpenClaim.holds_of_wide 8 Try.f8 rfl rfl rfl rfl rfl rfl rfl ⟨rfl, rfl, rfl, rfl, rfl⟩ rfl rfl rfl rfl rfl (by kernel_rfl) Try.func8 (by kernel_rfl)
    (of_decide_eq_true (by kernel_rfl)) (by unfold Func.isWrapper; first | (rw [if_pos (by decide +kernel)]; kernel_rfl) | (rw [if_neg (by decide +kernel)]; exact ⟨rfl, rfl⟩))
    (fun os started H enc _ => law_lifted os started H enc)
end Go.Proofs.Ytjblhgpbkfmkoaa
