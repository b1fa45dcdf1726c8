import Derived.Test.YtmdniblpkkoeoaaDnWE
import Derived.Test.YtmdniblpkkoeoaaDnB
import Derived.Test.YtmdniblpkkoeoaaRows
import Derived.ProofKit
import Derived.Test.YtmdniblpkkoeoaaDnPWindow5
/-
  The law WindowOrders holds. Conditions: none.
-/
set_option linter.unusedVariables false
set_option linter.unusedSimpArgs false
set_option maxRecDepth 100000
namespace Go.Proofs.Ytmdniblpkkoeoaa
open Go Go.ChangeShapes Go.WideShapes Go.ChangeAt Go.RowKit Dn Dn.S
theorem rd3 : ∀ {n : Nat} {ms : List MV}, MT Try.prog n 3 ms → ∃ x : Int, ms = [.i .i64 x] ∧ (Lit.int .i64 x).wf = true := by
  intro n ms h
  cases n with
  | zero => exact h.elim
  | succ d =>
    unfold MT at h
    rw [Try.underlying3] at h
    obtain ⟨x, rfl, h⟩ := h
    exact ⟨x, rfl, h⟩
theorem me3 {n : Nat} {m : MV} (h : ME Try.prog (MT Try.prog n) 3 m) : ∃ x : Int, m = (MV.i .i64) x ∧ (Lit.int .i64 x).wf = true := by
  unfold ME at h
  rw [Try.underlying3] at h
  obtain ⟨x, e, w⟩ := rd3 h
  exact ⟨x, by simpa using e, w⟩
theorem rd9 : ∀ {n : Nat} {ms : List MV}, MT Try.prog n 9 ms → ∃ x : List UInt8, ms = [.s x] ∧ x.length ≤ Go.maxLen := by
  intro n ms h
  cases n with
  | zero => exact h.elim
  | succ d =>
    unfold MT at h
    rw [Try.underlying9] at h
    obtain ⟨x, rfl, h⟩ := h
    exact ⟨x, rfl, h⟩
theorem me9 {n : Nat} {m : MV} (h : ME Try.prog (MT Try.prog n) 9 m) : ∃ x : List UInt8, m = MV.s x ∧ x.length ≤ Go.maxLen := by
  unfold ME at h
  rw [Try.underlying9] at h
  obtain ⟨x, e, w⟩ := rd9 h
  exact ⟨x, by simpa using e, w⟩
theorem rd4 : ∀ {n : Nat} {ms : List MV}, MT Try.prog n 4 ms → ∃ x : Bool, ms = [.b x] ∧ True := by
  intro n ms h
  cases n with
  | zero => exact h.elim
  | succ d =>
    unfold MT at h
    rw [Try.underlying4] at h
    obtain ⟨x, rfl⟩ := h
    exact ⟨x, rfl, trivial⟩
theorem me4 {n : Nat} {m : MV} (h : ME Try.prog (MT Try.prog n) 4 m) : ∃ x : Bool, m = MV.b x ∧ True := by
  unfold ME at h
  rw [Try.underlying4] at h
  obtain ⟨x, e, w⟩ := rd4 h
  exact ⟨x, by simpa using e, w⟩
def wfL25Word (x : L25Word) : Prop := ((Lit.int .i64 x.Slot).wf = true) ∧ (x.Value.length ≤ Go.maxLen) ∧ (True)
theorem rd32 : ∀ {n : Nat} {ms : List MV}, MT Try.prog n 32 ms → ∃ x : L25Word, ms = [.i .i64 x.Slot, .s x.Value, .b x.Take] ∧ wfL25Word x := by
  intro n ms h
  cases n with
  | zero => exact h.elim
  | succ d =>
    unfold MT at h
    rw [Try.underlying32] at h
    change FT (MT Try.prog d) [3, 9, 4] ms at h
    obtain ⟨_, _, rfl, h0, _, _, rfl, h1, _, _, rfl, h2, rfl⟩ := h
    obtain ⟨x0, rfl, w0⟩ := rd3 h0
    obtain ⟨x1, rfl, w1⟩ := rd9 h1
    obtain ⟨x2, rfl, w2⟩ := rd4 h2
    exact ⟨⟨x0, x1, x2⟩, by simp, w0, w1, w2⟩
theorem me32 {n : Nat} {m : MV} (h : ME Try.prog (MT Try.prog n) 32 m) : ∃ x : L25Word, m = encL25Word x ∧ wfL25Word x := by
  unfold ME at h
  rw [Try.underlying32] at h
  obtain ⟨cs, rfl, h⟩ := h
  obtain ⟨x, rfl, w⟩ := rd32 h
  exact ⟨x, rfl, w⟩
theorem rd22 : ∀ {n : Nat} {ms : List MV}, MT Try.prog n 22 ms → ∃ x : List L25Word, ms = [.list (x.map encL25Word)] ∧ x.length ≤ Go.maxLen ∧ ∀ y ∈ x, wfL25Word y := by
  intro n ms h
  cases n with
  | zero => exact h.elim
  | succ d =>
    unfold MT at h
    rw [Try.underlying22] at h
    obtain ⟨xs, rfl, h1, h2⟩ := h
    obtain ⟨L, rfl, h3⟩ := list_of (fun x (hx : ME Try.prog (MT Try.prog d) 32 x) => me32 hx) h2
    exact ⟨L, rfl, by simpa using h1, h3⟩
theorem me22 {n : Nat} {m : MV} (h : ME Try.prog (MT Try.prog n) 22 m) : ∃ x : List L25Word, m = (encL encL25Word) x ∧ x.length ≤ Go.maxLen ∧ ∀ y ∈ x, wfL25Word y := by
  unfold ME at h
  rw [Try.underlying22] at h
  obtain ⟨x, e, w⟩ := rd22 h
  exact ⟨x, by simpa using e, w⟩
theorem own : ownKnob Try.prog.godebug = none := by kernel_rfl
theorem laidOut : laidOutB Try.prog = true := by kernel_rfl
theorem sound_law : ∀ ms, ParamsOK Try.prog Try.f3.params.toList ms → Sound1 Try.prog cx 3 ms (.b true) := by
  intro ms h
  rw [show Try.f3.params = #[3, 22] from Try.params3] at h
  obtain ⟨m0, _, rfl, ⟨_, h0⟩, m1, _, rfl, ⟨_, h1⟩, h⟩ := h
  have h : _ = [] := h
  subst h
  obtain ⟨x0, rfl, w0⟩ := me3 h0
  obtain ⟨x1, rfl, w1⟩ := me22 h1
  refine soundL25WindowOrders.all 3 _ _ ?_
  have he := eL25WindowOrders x0 x1
  rw [windowOrders_all x0 x1] at he
  exact he
theorem law_lifted (os : Os) (started : os.Started) (H : Type) (enc : TypeId × Value → H) :
    ReturnsInHanded {} Try.checked os 3 .any (Rows.windowOrdersSpec.pre6 enc Try.prog Try.f3 Rows.windowOrdersRow.domain false) (Rows.windowOrdersSpec.post enc Try.prog Try.f3 false true false false) := by
  refine returnsInHanded_of_change (C := Try.checked) own started (by kernel_rfl) Try.func3
    (ChangeSpec.witness6 (enc := enc) (C := Try.checked) false ⟨#[], #[.int .i64 0, .slice none 0 0], []⟩ 3 (by kernel_rfl) (by kernel_rfl) (by kernel_rfl) (by kernel_rfl)) ?_
  intro W base args ds gs before hval0 hW hcnd _
  refine law_calls (c := cx) (tb := 4) Try.func3 (by kernel_rfl) (by kernel_rfl) laidOut ?_ (by kernel_rfl) Try.underlying4 rfl ?_ hval0 hW (by kernel_rfl) sound_law
  · intro t ht
    rw [show Try.f3.params = #[3, 22] from Try.params3] at ht
    rcases List.mem_cons.1 ht with rfl | ht
    · exact ⟨⟨30, by kernel_rfl⟩, by kernel_rfl, of_decide_eq_true (by kernel_rfl)⟩
    rcases List.mem_cons.1 ht with rfl | ht
    · exact ⟨⟨30, by kernel_rfl⟩, by kernel_rfl, of_decide_eq_true (by kernel_rfl)⟩
    cases ht
  · intro ds hd
    rw [show Try.f3.params = #[3, 22] from Try.params3] at hd
    match ds, hd with
    | [_, _], _ => rfl
theorem law_holds : Rows.WindowOrdersSaid :=
  OpenClaim.holds_of_wide 3 Try.f3 rfl rfl rfl rfl rfl rfl rfl ⟨rfl, rfl, rfl, rfl, rfl⟩ rfl rfl rfl rfl rfl (by kernel_rfl) Try.func3 (by kernel_rfl)
    (of_decide_eq_true (by kernel_rfl)) (by unfold Func.isWrapper; first | (rw [if_pos (by decide +kernel)]; kernel_rfl) | (rw [if_neg (by decide +kernel)]; exact ⟨rfl, rfl⟩))
    (fun os started H enc _ => law_lifted os started H enc)
end Go.Proofs.Ytmdniblpkkoeoaa
