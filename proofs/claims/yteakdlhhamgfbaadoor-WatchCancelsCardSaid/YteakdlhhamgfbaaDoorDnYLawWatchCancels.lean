import Derived.Test.YteakdlhhamgfbaaDoorDnYE
import Derived.Test.YteakdlhhamgfbaaDoorDnC
import Derived.Test.YteakdlhhamgfbaaDoorRows
import Derived.ProofKit
import Derived.Test.YteakdlhhamgfbaaDoorDnPWatch3
import Derived.Test.YteakdlhhamgfbaaDoorDnD
import Derived.Test.YteakdlhhamgfbaaDoorTie
import Derived.Test.YteakdlhhamgfbaaDoorCards
import Derived.SevenTiedAt
/-
  The law WatchCancels holds. Conditions: none.
-/
set_option linter.unusedVariables false
set_option linter.unusedSimpArgs false
set_option maxRecDepth 100000
namespace Go.Proofs.YteakdlhhamgfbaaDoor
open Go Go.ChangeShapes Go.WideShapes Go.ChangeAt Go.RowKit Dn Dn.S
theorem rd9 : ∀ {n : Nat} {ms : List MV}, MT Tryd.prog n 9 ms → ∃ x : List UInt8, ms = [.s x] ∧ x.length ≤ Go.maxLen := by
  intro n ms h
  cases n with
  | zero => exact h.elim
  | succ d =>
    unfold MT at h
    rw [Tryd.underlying9] at h
    obtain ⟨x, rfl, h⟩ := h
    exact ⟨x, rfl, h⟩
theorem me9 {n : Nat} {m : MV} (h : ME Tryd.prog (MT Tryd.prog n) 9 m) : ∃ x : List UInt8, m = MV.s x ∧ x.length ≤ Go.maxLen := by
  unfold ME at h
  rw [Tryd.underlying9] at h
  obtain ⟨x, e, w⟩ := rd9 h
  exact ⟨x, by simpa using e, w⟩
theorem rd3 : ∀ {n : Nat} {ms : List MV}, MT Tryd.prog n 3 ms → ∃ x : Int, ms = [.i .i64 x] ∧ (Lit.int .i64 x).wf = true := by
  intro n ms h
  cases n with
  | zero => exact h.elim
  | succ d =>
    unfold MT at h
    rw [Tryd.underlying3] at h
    obtain ⟨x, rfl, h⟩ := h
    exact ⟨x, rfl, h⟩
theorem me3 {n : Nat} {m : MV} (h : ME Tryd.prog (MT Tryd.prog n) 3 m) : ∃ x : Int, m = (MV.i .i64) x ∧ (Lit.int .i64 x).wf = true := by
  unfold ME at h
  rw [Tryd.underlying3] at h
  obtain ⟨x, e, w⟩ := rd3 h
  exact ⟨x, by simpa using e, w⟩
theorem rd4 : ∀ {n : Nat} {ms : List MV}, MT Tryd.prog n 4 ms → ∃ x : Bool, ms = [.b x] ∧ True := by
  intro n ms h
  cases n with
  | zero => exact h.elim
  | succ d =>
    unfold MT at h
    rw [Tryd.underlying4] at h
    obtain ⟨x, rfl⟩ := h
    exact ⟨x, rfl, trivial⟩
theorem me4 {n : Nat} {m : MV} (h : ME Tryd.prog (MT Tryd.prog n) 4 m) : ∃ x : Bool, m = MV.b x ∧ True := by
  unfold ME at h
  rw [Tryd.underlying4] at h
  obtain ⟨x, e, w⟩ := rd4 h
  exact ⟨x, by simpa using e, w⟩
def wfWatchWatch (x : WatchWatch) : Prop := (x.Path.length ≤ Go.maxLen) ∧ ((Lit.int .i64 x.Client).wf = true) ∧ (True)
theorem rd48 : ∀ {n : Nat} {ms : List MV}, MT Tryd.prog n 48 ms → ∃ x : WatchWatch, ms = [.s x.Path, .i .i64 x.Client, .b x.Kids] ∧ wfWatchWatch x := by
  intro n ms h
  cases n with
  | zero => exact h.elim
  | succ d =>
    unfold MT at h
    rw [Tryd.underlying48] at h
    change FT (MT Tryd.prog d) [9, 3, 4] ms at h
    obtain ⟨_, _, rfl, h0, _, _, rfl, h1, _, _, rfl, h2, rfl⟩ := h
    obtain ⟨x0, rfl, w0⟩ := rd9 h0
    obtain ⟨x1, rfl, w1⟩ := rd3 h1
    obtain ⟨x2, rfl, w2⟩ := rd4 h2
    exact ⟨⟨x0, x1, x2⟩, by simp, w0, w1, w2⟩
theorem me48 {n : Nat} {m : MV} (h : ME Tryd.prog (MT Tryd.prog n) 48 m) : ∃ x : WatchWatch, m = encWatchWatch x ∧ wfWatchWatch x := by
  unfold ME at h
  rw [Tryd.underlying48] at h
  obtain ⟨cs, rfl, h⟩ := h
  obtain ⟨x, rfl, w⟩ := rd48 h
  exact ⟨x, rfl, w⟩
theorem rd33 : ∀ {n : Nat} {ms : List MV}, MT Tryd.prog n 33 ms → ∃ x : List WatchWatch, ms = [.list (x.map encWatchWatch)] ∧ x.length ≤ Go.maxLen ∧ ∀ y ∈ x, wfWatchWatch y := by
  intro n ms h
  cases n with
  | zero => exact h.elim
  | succ d =>
    unfold MT at h
    rw [Tryd.underlying33] at h
    obtain ⟨xs, rfl, h1, h2⟩ := h
    obtain ⟨L, rfl, h3⟩ := list_of (fun x (hx : ME Tryd.prog (MT Tryd.prog d) 48 x) => me48 hx) h2
    exact ⟨L, rfl, by simpa using h1, h3⟩
theorem me33 {n : Nat} {m : MV} (h : ME Tryd.prog (MT Tryd.prog n) 33 m) : ∃ x : List WatchWatch, m = (encL encWatchWatch) x ∧ x.length ≤ Go.maxLen ∧ ∀ y ∈ x, wfWatchWatch y := by
  unfold ME at h
  rw [Tryd.underlying33] at h
  obtain ⟨x, e, w⟩ := rd33 h
  exact ⟨x, by simpa using e, w⟩
def wfWatchTable (x : WatchTable) : Prop := (x.L.length ≤ Go.maxLen ∧ ∀ y ∈ x.L, wfWatchWatch y)
theorem rd35 : ∀ {n : Nat} {ms : List MV}, MT Tryd.prog n 35 ms → ∃ x : WatchTable, ms = [.list (x.L.map encWatchWatch)] ∧ wfWatchTable x := by
  intro n ms h
  cases n with
  | zero => exact h.elim
  | succ d =>
    unfold MT at h
    rw [Tryd.underlying35] at h
    change FT (MT Tryd.prog d) [33] ms at h
    obtain ⟨_, _, rfl, h0, rfl⟩ := h
    obtain ⟨x0, rfl, w0⟩ := rd33 h0
    exact ⟨⟨x0⟩, by simp, w0⟩
theorem me35 {n : Nat} {m : MV} (h : ME Tryd.prog (MT Tryd.prog n) 35 m) : ∃ x : WatchTable, m = encWatchTable x ∧ wfWatchTable x := by
  unfold ME at h
  rw [Tryd.underlying35] at h
  obtain ⟨cs, rfl, h⟩ := h
  obtain ⟨x, rfl, w⟩ := rd35 h
  exact ⟨x, rfl, w⟩
def wfWatchChange (x : WatchChange) : Prop := ((Lit.int .i64 x.Kind).wf = true) ∧ (x.Path.length ≤ Go.maxLen)
theorem rd51 : ∀ {n : Nat} {ms : List MV}, MT Tryd.prog n 51 ms → ∃ x : WatchChange, ms = [.i .i64 x.Kind, .s x.Path] ∧ wfWatchChange x := by
  intro n ms h
  cases n with
  | zero => exact h.elim
  | succ d =>
    unfold MT at h
    rw [Tryd.underlying51] at h
    change FT (MT Tryd.prog d) [3, 9] ms at h
    obtain ⟨_, _, rfl, h0, _, _, rfl, h1, rfl⟩ := h
    obtain ⟨x0, rfl, w0⟩ := rd3 h0
    obtain ⟨x1, rfl, w1⟩ := rd9 h1
    exact ⟨⟨x0, x1⟩, by simp, w0, w1⟩
theorem me51 {n : Nat} {m : MV} (h : ME Tryd.prog (MT Tryd.prog n) 51 m) : ∃ x : WatchChange, m = encWatchChange x ∧ wfWatchChange x := by
  unfold ME at h
  rw [Tryd.underlying51] at h
  obtain ⟨cs, rfl, h⟩ := h
  obtain ⟨x, rfl, w⟩ := rd51 h
  exact ⟨x, rfl, w⟩
theorem rd36 : ∀ {n : Nat} {ms : List MV}, MT Tryd.prog n 36 ms → ∃ x : List WatchChange, ms = [.list (x.map encWatchChange)] ∧ x.length ≤ Go.maxLen ∧ ∀ y ∈ x, wfWatchChange y := by
  intro n ms h
  cases n with
  | zero => exact h.elim
  | succ d =>
    unfold MT at h
    rw [Tryd.underlying36] at h
    obtain ⟨xs, rfl, h1, h2⟩ := h
    obtain ⟨L, rfl, h3⟩ := list_of (fun x (hx : ME Tryd.prog (MT Tryd.prog d) 51 x) => me51 hx) h2
    exact ⟨L, rfl, by simpa using h1, h3⟩
theorem me36 {n : Nat} {m : MV} (h : ME Tryd.prog (MT Tryd.prog n) 36 m) : ∃ x : List WatchChange, m = (encL encWatchChange) x ∧ x.length ≤ Go.maxLen ∧ ∀ y ∈ x, wfWatchChange y := by
  unfold ME at h
  rw [Tryd.underlying36] at h
  obtain ⟨x, e, w⟩ := rd36 h
  exact ⟨x, by simpa using e, w⟩
theorem own : ownKnob Tryd.prog.godebug = none := by kernel_rfl
theorem laidOut : laidOutB Tryd.prog = true := by kernel_rfl
theorem sound_law : ∀ ms, ParamsOK Tryd.prog Tryd.f7.params.toList ms → Sound1 Tryd.prog cx 7 ms (.b true) := by
  intro ms h
  rw [show Tryd.f7.params = #[35, 48, 36] from Tryd.params7] at h
  obtain ⟨m0, _, rfl, ⟨_, h0⟩, m1, _, rfl, ⟨_, h1⟩, m2, _, rfl, ⟨_, h2⟩, h⟩ := h
  have h : _ = [] := h
  subst h
  obtain ⟨x0, rfl, w0⟩ := me35 h0
  obtain ⟨x1, rfl, w1⟩ := me48 h1
  obtain ⟨x2, rfl, w2⟩ := me36 h2
  refine soundL11WatchCancels.all 7 _ _ ?_
  have he := eL11WatchCancels x0 x1 x2
  rw [watchCancels_all x0 x1 x2] at he
  exact he
theorem law_lifted (os : Os) (started : os.Started) (H : Type) (enc : TypeId × Value → H) :
    ReturnsInHanded {} Tryd.checked os 7 .any (fun w args => (Rows.watchCancelsSpec.pre enc Tryd.prog Tryd.f7 Rows.watchCancelsRow.domain false w args ∧ laidMet Tryd.prog Rows.watchCancelsRow.laid w) ∧ sizedMet enc Tryd.prog Tryd.f7 (OpenSpec.ofChange Rows.watchCancelsSpec) false w args) (Rows.watchCancelsSpec.post enc Tryd.prog Tryd.f7 false true false false) := by
  refine returnsInHanded_of_change_and (C := Tryd.checked) (X := fun w _ => laidMet Tryd.prog Rows.watchCancelsRow.laid w) (fun _ _ _ hh h => h.of_heap hh) own started (by kernel_rfl) Tryd.func7
    (ChangeSpec.witness_shaped (enc := enc) (C := Tryd.checked) (os := os) (X := fun w _ => laidMet Tryd.prog Rows.watchCancelsRow.laid w) false (laidW Tryd.prog Rows.watchCancelsRow.laid os #[.agg #[.slice none 0 0], .agg #[.string ⟨#[]⟩, .int .i64 0, .bool false], .slice none 0 0]) #[.agg #[.slice none 0 0], .agg #[.string ⟨#[]⟩, .int .i64 0, .bool false], .slice none 0 0] 8 rfl (World.shaped_of_RefB (by kernel_rfl) (by kernel_rfl)) (by kernel_rfl) (by kernel_rfl) (by kernel_rfl)
      (laidMet_of_run3 8 (by kernel_rfl) (by kernel_rfl) (by kernel_rfl))) ?_
  intro W base args ds gs before hval0 hW hcnd _ _ _
  refine law_calls (c := cx) (tb := 4) Tryd.func7 (by kernel_rfl) (by kernel_rfl) laidOut ?_ (by kernel_rfl) Tryd.underlying4 rfl ?_ hval0 hW (by kernel_rfl) sound_law
  · intro t ht
    rw [show Tryd.f7.params = #[35, 48, 36] from Tryd.params7] at ht
    rcases List.mem_cons.1 ht with rfl | ht
    · exact ⟨⟨30, by kernel_rfl⟩, by kernel_rfl, of_decide_eq_true (by kernel_rfl)⟩
    rcases List.mem_cons.1 ht with rfl | ht
    · exact ⟨⟨30, by kernel_rfl⟩, by kernel_rfl, of_decide_eq_true (by kernel_rfl)⟩
    rcases List.mem_cons.1 ht with rfl | ht
    · exact ⟨⟨30, by kernel_rfl⟩, by kernel_rfl, of_decide_eq_true (by kernel_rfl)⟩
    cases ht
  · intro ds hd
    rw [show Tryd.f7.params = #[35, 48, 36] from Tryd.params7] at hd
    match ds, hd with
    | [_, _, _], _ => rfl
def headNs : List Nat := [104, 97, 114, 110, 101, 115, 115, 32, 101, 48, 101, 100, 50, 52, 55, 54, 100, 98, 100, 98, 52, 49, 52, 55, 54, 97, 102, 101, 48, 48, 53, 99, 100, 102, 57, 57, 100, 97, 50, 55, 55, 57, 54, 100, 98, 53, 56, 55, 98, 54, 98, 53, 98, 56, 52, 57, 99, 53, 100, 51, 48, 100, 48, 53, 98, 97, 102, 56, 49, 101, 56, 99, 32, 99, 117, 116, 32, 97, 116, 32, 99, 111, 110, 115, 105, 115, 116, 111, 114, 121, 47, 99, 111, 110, 115, 105, 115, 116, 111, 114, 121, 108, 97, 119, 48, 56, 46, 80, 97, 116, 104, 84, 101, 108, 108, 115, 32, 99, 111, 110, 115, 105, 115, 116, 111, 114, 121, 47, 99, 111, 110, 115, 105, 115, 116, 111, 114, 121, 108, 97, 119, 48, 56, 46, 80, 97, 116, 104, 79, 114, 100, 101, 114, 32, 99, 111, 110, 115, 105, 115, 116, 111, 114, 121, 47, 99, 111, 110, 115, 105, 115, 116, 111, 114, 121, 108, 97, 119, 49, 49, 46, 87, 97, 116, 99, 104, 79, 110, 99, 101, 32, 99, 111, 110, 115, 105, 115, 116, 111, 114, 121, 47, 99, 111, 110, 115, 105, 115, 116, 111, 114, 121, 108, 97, 119, 49, 49, 46, 87, 97, 116, 99, 104, 84, 117, 114, 110, 115, 32, 99, 111, 110, 115, 105, 115, 116, 111, 114, 121, 47, 99, 111, 110, 115, 105, 115, 116, 111, 114, 121, 108, 97, 119, 49, 49, 46, 87, 97, 116, 99, 104, 67, 97, 110, 99, 101, 108, 115, 32, 99, 111, 110, 115, 105, 115, 116, 111, 114, 121, 47, 99, 111, 110, 115, 105, 115, 116, 111, 114, 121, 108, 97, 119, 48, 56, 46, 80, 97, 116, 104, 84, 119, 111, 32, 99, 111, 110, 115, 105, 115, 116, 111, 114, 121, 47, 99, 111, 110, 115, 105, 115, 116, 111, 114, 121, 108, 97, 119, 49, 49, 46, 87, 97, 116, 99, 104, 80, 105, 101, 99, 101, 115, 32, 99, 111, 110, 115, 105, 115, 116, 111, 114, 121, 47, 99, 111, 110, 115, 105, 115, 116, 111, 114, 121, 108, 97, 119, 48, 56, 46, 80, 97, 116, 104, 74, 111, 105, 110, 115, 32, 99, 111, 110, 115, 105, 115, 116, 111, 114, 121, 47, 99, 111, 110, 115, 105, 115, 116, 111, 114, 121, 108, 97, 119, 48, 56, 46, 80, 97, 116, 104, 77, 97, 100, 101, 32, 99, 111, 110, 115, 105, 115, 116, 111, 114, 121, 47, 99, 111, 110, 115, 105, 115, 116, 111, 114, 121, 108, 97, 119, 49, 49, 46, 87, 97, 116, 99, 104, 77, 97, 121, 32, 99, 111, 110, 115, 105, 115, 116, 111, 114, 121, 47, 99, 111, 110, 115, 105, 115, 116, 111, 114, 121, 108, 97, 119, 48, 57, 46, 83, 104, 101, 108, 102, 77, 97, 121, 32, 99, 111, 110, 115, 105, 115, 116, 111, 114, 121, 47, 99, 111, 110, 115, 105, 115, 116, 111, 114, 121, 108, 97, 119, 48, 57, 46, 83, 104, 101, 108, 102, 65, 115, 107, 115, 32, 99, 111, 110, 115, 105, 115, 116, 111, 114, 121, 47, 99, 111, 110, 115, 105, 115, 116, 111, 114, 121, 108, 97, 119, 48, 57, 46, 83, 104, 101, 108, 102, 68, 114, 111, 112, 115, 32, 99, 111, 110, 115, 105, 115, 116, 111, 114, 121, 47, 99, 111, 110, 115, 105, 115, 116, 111, 114, 121, 108, 97, 119, 48, 57, 46, 83, 104, 101, 108, 102, 75, 105, 100, 115, 32, 99, 111, 110, 115, 105, 115, 116, 111, 114, 121, 47, 99, 111, 110, 115, 105, 115, 116, 111, 114, 121, 108, 97, 119, 48, 57, 46, 83, 104, 101, 108, 102, 74, 117, 115, 116, 32, 99, 111, 110, 115, 105, 115, 116, 111, 114, 121, 47, 99, 111, 110, 115, 105, 115, 116, 111, 114, 121, 108, 97, 119, 48, 57, 46, 83, 104, 101, 108, 102, 67, 104, 97, 110, 103, 101, 115]
def headWs : List (List Nat) := [[97, 116], [99, 111, 110, 115, 105, 115, 116, 111, 114, 121, 47, 99, 111, 110, 115, 105, 115, 116, 111, 114, 121, 108, 97, 119, 48, 56, 46, 80, 97, 116, 104, 84, 101, 108, 108, 115], [99, 111, 110, 115, 105, 115, 116, 111, 114, 121, 47, 99, 111, 110, 115, 105, 115, 116, 111, 114, 121, 108, 97, 119, 48, 56, 46, 80, 97, 116, 104, 79, 114, 100, 101, 114], [99, 111, 110, 115, 105, 115, 116, 111, 114, 121, 47, 99, 111, 110, 115, 105, 115, 116, 111, 114, 121, 108, 97, 119, 49, 49, 46, 87, 97, 116, 99, 104, 79, 110, 99, 101], [99, 111, 110, 115, 105, 115, 116, 111, 114, 121, 47, 99, 111, 110, 115, 105, 115, 116, 111, 114, 121, 108, 97, 119, 49, 49, 46, 87, 97, 116, 99, 104, 84, 117, 114, 110, 115], [99, 111, 110, 115, 105, 115, 116, 111, 114, 121, 47, 99, 111, 110, 115, 105, 115, 116, 111, 114, 121, 108, 97, 119, 49, 49, 46, 87, 97, 116, 99, 104, 67, 97, 110, 99, 101, 108, 115], [99, 111, 110, 115, 105, 115, 116, 111, 114, 121, 47, 99, 111, 110, 115, 105, 115, 116, 111, 114, 121, 108, 97, 119, 48, 56, 46, 80, 97, 116, 104, 84, 119, 111], [99, 111, 110, 115, 105, 115, 116, 111, 114, 121, 47, 99, 111, 110, 115, 105, 115, 116, 111, 114, 121, 108, 97, 119, 49, 49, 46, 87, 97, 116, 99, 104, 80, 105, 101, 99, 101, 115], [99, 111, 110, 115, 105, 115, 116, 111, 114, 121, 47, 99, 111, 110, 115, 105, 115, 116, 111, 114, 121, 108, 97, 119, 48, 56, 46, 80, 97, 116, 104, 74, 111, 105, 110, 115], [99, 111, 110, 115, 105, 115, 116, 111, 114, 121, 47, 99, 111, 110, 115, 105, 115, 116, 111, 114, 121, 108, 97, 119, 48, 56, 46, 80, 97, 116, 104, 77, 97, 100, 101], [99, 111, 110, 115, 105, 115, 116, 111, 114, 121, 47, 99, 111, 110, 115, 105, 115, 116, 111, 114, 121, 108, 97, 119, 49, 49, 46, 87, 97, 116, 99, 104, 77, 97, 121], [99, 111, 110, 115, 105, 115, 116, 111, 114, 121, 47, 99, 111, 110, 115, 105, 115, 116, 111, 114, 121, 108, 97, 119, 48, 57, 46, 83, 104, 101, 108, 102, 77, 97, 121], [99, 111, 110, 115, 105, 115, 116, 111, 114, 121, 47, 99, 111, 110, 115, 105, 115, 116, 111, 114, 121, 108, 97, 119, 48, 57, 46, 83, 104, 101, 108, 102, 65, 115, 107, 115], [99, 111, 110, 115, 105, 115, 116, 111, 114, 121, 47, 99, 111, 110, 115, 105, 115, 116, 111, 114, 121, 108, 97, 119, 48, 57, 46, 83, 104, 101, 108, 102, 68, 114, 111, 112, 115], [99, 111, 110, 115, 105, 115, 116, 111, 114, 121, 47, 99, 111, 110, 115, 105, 115, 116, 111, 114, 121, 108, 97, 119, 48, 57, 46, 83, 104, 101, 108, 102, 75, 105, 100, 115], [99, 111, 110, 115, 105, 115, 116, 111, 114, 121, 47, 99, 111, 110, 115, 105, 115, 116, 111, 114, 121, 108, 97, 119, 48, 57, 46, 83, 104, 101, 108, 102, 74, 117, 115, 116], [99, 111, 110, 115, 105, 115, 116, 111, 114, 121, 47, 99, 111, 110, 115, 105, 115, 116, 111, 114, 121, 108, 97, 119, 48, 57, 46, 83, 104, 101, 108, 102, 67, 104, 97, 110, 103, 101, 115]]
theorem head_ok : Tryd.prog.initOrder = String.ofList (headNs.map Char.ofNat) := by kernel_rfl
theorem words_ok : behindMainWord (wordsSigns (headNs.map Char.ofNat)) = cutW :: headWs.map (·.map Char.ofNat) := by kernel_rfl
theorem head_words : behindMainWord (wordsSigns Tryd.prog.initOrder.toList) = cutW :: headWs.map (·.map Char.ofNat) := by rw [head_list head_ok, words_ok]
theorem strip1 : (stripLifts liftWords (cutW :: headWs.map (·.map Char.ofNat))).1 = [] := by kernel_rfl
theorem strip2 : ((stripLifts liftWords (cutW :: headWs.map (·.map Char.ofNat))).2.head? == some "cut".toList) = true := by kernel_rfl
theorem may_ok : Tryd.prog.mayEnter = true := may_of head_words strip1 strip2 (by kernel_rfl) (by kernel_rfl) (by kernel_rfl)
theorem lifts_ok : (Rows.watchCancelsRow.lifted == Tryd.prog.liftsFinal) = true := lifts_eq (lifts_of head_words strip1) (by kernel_rfl)
theorem make_ok : (Tryd.prog.make == some Rows.watchCancelsRow.make) = true := make_eq (make_of head_words) (by kernel_rfl)
theorem closed_ok : joinedFacts Tryd.prog 7 Tryd.f7 Rows.watchCancelsSpec Rows.watchCancelsRow = true := by
  unfold joinedFacts
  repeat' (with_reducible apply and_true_of)
  all_goals first | (with_reducible exact may_ok) | (with_reducible exact lifts_ok) | (with_reducible exact make_ok) | kernel_rfl
theorem row_holds : Rows.WatchCancelsSaid :=
  OpenClaim.holds_of_wide 7 Tryd.f7 rfl rfl rfl rfl rfl rfl rfl ⟨rfl, rfl, rfl, rfl, rfl⟩ rfl rfl rfl rfl rfl (by kernel_rfl) Tryd.func7 closed_ok
    (of_decide_eq_true (by kernel_rfl)) (by unfold Func.isWrapper; first | (rw [if_pos (by decide +kernel)]; kernel_rfl) | (rw [if_neg (by decide +kernel)]; exact ⟨rfl, rfl⟩))
    (fun os started H enc _ => law_lifted os started H enc)
theorem main_words : wordsSigns (headNs.map Char.ofNat) = [104, 97, 114, 110, 101, 115, 115].map Char.ofNat :: [101, 48, 101, 100, 50, 52, 55, 54, 100, 98, 100, 98, 52, 49, 52, 55, 54, 97, 102, 101, 48, 48, 53, 99, 100, 102, 57, 57, 100, 97, 50, 55, 55, 57, 54, 100, 98, 53, 56, 55, 98, 54, 98, 53, 98, 56, 52, 57, 99, 53, 100, 51, 48, 100, 48, 53, 98, 97, 102, 56, 49, 101, 56, 99].map Char.ofNat :: cutW :: headWs.map (·.map Char.ofNat) := by kernel_rfl
theorem main_ok : Tryd.prog.mainIs = some (true, "e0ed2476dbdb41476afe005cdf99da27796db587b6b5b849c5d30d05baf81e8c".toList) := by
  rw [main_of (P := Tryd.prog) ((congrArg wordsSigns (head_list head_ok)).trans main_words) (by kernel_rfl) (by kernel_rfl)]
  have h : [101, 48, 101, 100, 50, 52, 55, 54, 100, 98, 100, 98, 52, 49, 52, 55, 54, 97, 102, 101, 48, 48, 53, 99, 100, 102, 57, 57, 100, 97, 50, 55, 55, 57, 54, 100, 98, 53, 56, 55, 98, 54, 98, 53, 98, 56, 52, 57, 99, 53, 100, 51, 48, 100, 48, 53, 98, 97, 102, 56, 49, 101, 56, 99].map Char.ofNat = "e0ed2476dbdb41476afe005cdf99da27796db587b6b5b849c5d30d05baf81e8c".toList := by kernel_rfl
  rw [h]
theorem law_holds : Rows.WatchCancelsCardSaid :=
  Claim7.holds_tied_plain_at .later [] [.data, .pinned] true (true, "e0ed2476dbdb41476afe005cdf99da27796db587b6b5b849c5d30d05baf81e8c") false
    row_holds (fun _ h => by cases h) (by kernel_rfl) (fun _ h => by cases h) watchCancels_row_tie rfl ⟨rfl, rfl⟩ main_ok rfl
    (fun f fn hf hfn => by
      obtain rfl : f = 7 := Option.some.inj ((show Tryd.prog.funcNamed Rows.watchCancelsRow.func = some 7 by kernel_rfl).symm.trans hf) |>.symm
      obtain rfl : fn = Tryd.f7 := (Option.some.inj (Tryd.func7.symm.trans hfn)).symm
      exact ⟨by kernel_rfl, fun j t ht => by
        rw [Tryd.params7] at ht
        have hm : t ∈ [35, 48, 36] := by simpa using Array.mem_of_getElem? ht
        have hall : ([35, 48, 36].all fun u => !Tryd.prog.wantsStandIn u) = true := by kernel_rfl
        exact (show Tryd.prog.wantsStandIn t = false by simpa using List.all_eq_true.1 hall t hm)⟩)
    (by kernel_rfl)
end Go.Proofs.YteakdlhhamgfbaaDoor
