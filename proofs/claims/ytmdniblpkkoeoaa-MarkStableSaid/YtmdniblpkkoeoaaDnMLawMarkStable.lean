import Derived.Test.YtmdniblpkkoeoaaDnME
import Derived.Test.YtmdniblpkkoeoaaDnB
import Derived.Test.YtmdniblpkkoeoaaRows
import Derived.ProofKit
import Derived.Test.YtmdniblpkkoeoaaDnPMark4
/-
  The law MarkStable holds. Conditions: none.
-/
set_option linter.unusedVariables false
set_option linter.unusedSimpArgs false
set_option maxRecDepth 100000
namespace Go.Proofs.Ytmdniblpkkoeoaa
open Go Go.ChangeShapes Go.WideShapes Go.ChangeAt Go.RowKit Dn Dn.S
theorem rd3 : ∀ {n : Nat} {ms : List MV}, MT Try.prog n 3 ms → ∃ x : Int, ms = [.i .i64 x] ∧ (Lit.int .i64 x).wf = true := by
  intro n ms h
  cases n with
  | zero => exact h.elim
  | succ d =>
    unfold MT at h
    rw [Try.underlying3] at h
    obtain ⟨x, rfl, h⟩ := h
    exact ⟨x, rfl, h⟩
theorem me3 {n : Nat} {m : MV} (h : ME Try.prog (MT Try.prog n) 3 m) : ∃ x : Int, m = (MV.i .i64) x ∧ (Lit.int .i64 x).wf = true := by
  unfold ME at h
  rw [Try.underlying3] at h
  obtain ⟨x, e, w⟩ := rd3 h
  exact ⟨x, by simpa using e, w⟩
def wfSizeSize (x : SizeSize) : Prop := ((Lit.int .i64 x.F).wf = true) ∧ ((Lit.int .i64 x.T).wf = true)
theorem rd82 : ∀ {n : Nat} {ms : List MV}, MT Try.prog n 82 ms → ∃ x : SizeSize, ms = [.i .i64 x.F, .i .i64 x.T] ∧ wfSizeSize x := by
  intro n ms h
  cases n with
  | zero => exact h.elim
  | succ d =>
    unfold MT at h
    rw [Try.underlying82] at h
    change FT (MT Try.prog d) [3, 3] ms at h
    obtain ⟨_, _, rfl, h0, _, _, rfl, h1, rfl⟩ := h
    obtain ⟨x0, rfl, w0⟩ := rd3 h0
    obtain ⟨x1, rfl, w1⟩ := rd3 h1
    exact ⟨⟨x0, x1⟩, by simp, w0, w1⟩
theorem me82 {n : Nat} {m : MV} (h : ME Try.prog (MT Try.prog n) 82 m) : ∃ x : SizeSize, m = encSizeSize x ∧ wfSizeSize x := by
  unfold ME at h
  rw [Try.underlying82] at h
  obtain ⟨cs, rfl, h⟩ := h
  obtain ⟨x, rfl, w⟩ := rd82 h
  exact ⟨x, rfl, w⟩
theorem rd4 : ∀ {n : Nat} {ms : List MV}, MT Try.prog n 4 ms → ∃ x : Bool, ms = [.b x] ∧ True := by
  intro n ms h
  cases n with
  | zero => exact h.elim
  | succ d =>
    unfold MT at h
    rw [Try.underlying4] at h
    obtain ⟨x, rfl⟩ := h
    exact ⟨x, rfl, trivial⟩
theorem me4 {n : Nat} {m : MV} (h : ME Try.prog (MT Try.prog n) 4 m) : ∃ x : Bool, m = MV.b x ∧ True := by
  unfold ME at h
  rw [Try.underlying4] at h
  obtain ⟨x, e, w⟩ := rd4 h
  exact ⟨x, by simpa using e, w⟩
theorem rd107 : ∀ {n : Nat} {ms : List MV}, MT Try.prog n 107 ms → ∃ x : List Bool, ms = [.list (x.map MV.b)] ∧ x.length ≤ Go.maxLen ∧ ∀ y ∈ x, True := by
  intro n ms h
  cases n with
  | zero => exact h.elim
  | succ d =>
    unfold MT at h
    rw [Try.underlying107] at h
    obtain ⟨xs, rfl, h1, h2⟩ := h
    obtain ⟨L, rfl, h3⟩ := list_of (fun x (hx : ME Try.prog (MT Try.prog d) 4 x) => me4 hx) h2
    exact ⟨L, rfl, by simpa using h1, h3⟩
theorem me107 {n : Nat} {m : MV} (h : ME Try.prog (MT Try.prog n) 107 m) : ∃ x : List Bool, m = (encL MV.b) x ∧ x.length ≤ Go.maxLen ∧ ∀ y ∈ x, True := by
  unfold ME at h
  rw [Try.underlying107] at h
  obtain ⟨x, e, w⟩ := rd107 h
  exact ⟨x, by simpa using e, w⟩
theorem rd84 : ∀ {n : Nat} {ms : List MV}, MT Try.prog n 84 ms → ∃ x : Hash, ms = [.h x] ∧ True := by
  intro n ms h
  cases n with
  | zero => exact h.elim
  | succ d =>
    unfold MT at h
    rw [Try.underlying84] at h
    obtain ⟨x, rfl⟩ := h
    exact ⟨x, rfl, trivial⟩
theorem me84 {n : Nat} {m : MV} (h : ME Try.prog (MT Try.prog n) 84 m) : ∃ x : Hash, m = MV.h x ∧ True := by
  unfold ME at h
  rw [Try.underlying84] at h
  obtain ⟨x, e, w⟩ := rd84 h
  exact ⟨x, by simpa using e, w⟩
def wfMarkMark (x : MarkMark) : Prop := ((Lit.int .i64 x.By).wf = true) ∧ ((Lit.int .i64 x.Slot).wf = true) ∧ (True)
theorem rd88 : ∀ {n : Nat} {ms : List MV}, MT Try.prog n 88 ms → ∃ x : MarkMark, ms = [.i .i64 x.By, .i .i64 x.Slot, .h x.Sum] ∧ wfMarkMark x := by
  intro n ms h
  cases n with
  | zero => exact h.elim
  | succ d =>
    unfold MT at h
    rw [Try.underlying88] at h
    change FT (MT Try.prog d) [3, 3, 84] ms at h
    obtain ⟨_, _, rfl, h0, _, _, rfl, h1, _, _, rfl, h2, rfl⟩ := h
    obtain ⟨x0, rfl, w0⟩ := rd3 h0
    obtain ⟨x1, rfl, w1⟩ := rd3 h1
    obtain ⟨x2, rfl, w2⟩ := rd84 h2
    exact ⟨⟨x0, x1, x2⟩, by simp, w0, w1, w2⟩
theorem me88 {n : Nat} {m : MV} (h : ME Try.prog (MT Try.prog n) 88 m) : ∃ x : MarkMark, m = encMarkMark x ∧ wfMarkMark x := by
  unfold ME at h
  rw [Try.underlying88] at h
  obtain ⟨cs, rfl, h⟩ := h
  obtain ⟨x, rfl, w⟩ := rd88 h
  exact ⟨x, rfl, w⟩
theorem rd83 : ∀ {n : Nat} {ms : List MV}, MT Try.prog n 83 ms → ∃ x : List MarkMark, ms = [.list (x.map encMarkMark)] ∧ x.length ≤ Go.maxLen ∧ ∀ y ∈ x, wfMarkMark y := by
  intro n ms h
  cases n with
  | zero => exact h.elim
  | succ d =>
    unfold MT at h
    rw [Try.underlying83] at h
    obtain ⟨xs, rfl, h1, h2⟩ := h
    obtain ⟨L, rfl, h3⟩ := list_of (fun x (hx : ME Try.prog (MT Try.prog d) 88 x) => me88 hx) h2
    exact ⟨L, rfl, by simpa using h1, h3⟩
theorem me83 {n : Nat} {m : MV} (h : ME Try.prog (MT Try.prog n) 83 m) : ∃ x : List MarkMark, m = (encL encMarkMark) x ∧ x.length ≤ Go.maxLen ∧ ∀ y ∈ x, wfMarkMark y := by
  unfold ME at h
  rw [Try.underlying83] at h
  obtain ⟨x, e, w⟩ := rd83 h
  exact ⟨x, by simpa using e, w⟩
theorem own : ownKnob Try.prog.godebug = none := by kernel_rfl
theorem laidOut : laidOutB Try.prog = true := by kernel_rfl
theorem sound_law : ∀ ms, ParamsOK Try.prog Try.f10.params.toList ms → Sound1 Try.prog cx 10 ms (.b true) := by
  intro ms h
  rw [show Try.f10.params = #[82, 107, 83] from Try.params10] at h
  obtain ⟨m0, _, rfl, ⟨_, h0⟩, m1, _, rfl, ⟨_, h1⟩, m2, _, rfl, ⟨_, h2⟩, h⟩ := h
  have h : _ = [] := h
  subst h
  obtain ⟨x0, rfl, w0⟩ := me82 h0
  obtain ⟨x1, rfl, w1⟩ := me107 h1
  obtain ⟨x2, rfl, w2⟩ := me83 h2
  refine soundL26MarkStable.all 10 _ _ ?_
  have he := eL26MarkStable x0 x1 x2
  rw [markStable_all x0 x1 x2] at he
  exact he
theorem law_lifted (os : Os) (started : os.Started) (H : Type) (enc : TypeId × Value → H) :
    ReturnsInHanded {} Try.checked os 10 .any (Rows.markStableSpec.pre6 enc Try.prog Try.f10 Rows.markStableRow.domain false) (Rows.markStableSpec.post enc Try.prog Try.f10 false true false false) := by
  refine returnsInHanded_of_change (C := Try.checked) own started (by kernel_rfl) Try.func10
    (ChangeSpec.witness6 (enc := enc) (C := Try.checked) false ⟨#[], #[.agg #[.int .i64 0, .int .i64 0], .slice none 0 0, .slice none 0 0], []⟩ 10 (by kernel_rfl) (by kernel_rfl) (by kernel_rfl) (by kernel_rfl)) ?_
  intro W base args ds gs before hval0 hW hcnd _
  refine law_calls (c := cx) (tb := 4) Try.func10 (by kernel_rfl) (by kernel_rfl) laidOut ?_ (by kernel_rfl) Try.underlying4 rfl ?_ hval0 hW (by kernel_rfl) sound_law
  · intro t ht
    rw [show Try.f10.params = #[82, 107, 83] from Try.params10] at ht
    rcases List.mem_cons.1 ht with rfl | ht
    · exact ⟨⟨30, by kernel_rfl⟩, by kernel_rfl, of_decide_eq_true (by kernel_rfl)⟩
    rcases List.mem_cons.1 ht with rfl | ht
    · exact ⟨⟨30, by kernel_rfl⟩, by kernel_rfl, of_decide_eq_true (by kernel_rfl)⟩
    rcases List.mem_cons.1 ht with rfl | ht
    · exact ⟨⟨30, by kernel_rfl⟩, by kernel_rfl, of_decide_eq_true (by kernel_rfl)⟩
    cases ht
  · intro ds hd
    rw [show Try.f10.params = #[82, 107, 83] from Try.params10] at hd
    match ds, hd with
    | [_, _, _], _ => rfl
theorem law_holds : Rows.MarkStableSaid :=
  OpenClaim.holds_of_wide 10 Try.f10 rfl rfl rfl rfl rfl rfl rfl ⟨rfl, rfl, rfl, rfl, rfl⟩ rfl rfl rfl rfl rfl (by kernel_rfl) Try.func10 (by kernel_rfl)
    (of_decide_eq_true (by kernel_rfl)) (by unfold Func.isWrapper; first | (rw [if_pos (by decide +kernel)]; kernel_rfl) | (rw [if_neg (by decide +kernel)]; exact ⟨rfl, rfl⟩))
    (fun os started H enc _ => law_lifted os started H enc)
end Go.Proofs.Ytmdniblpkkoeoaa
