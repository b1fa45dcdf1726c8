import Derived.Test.YtjblhgpbkfmkoaaDnYE
import Derived.Test.YtjblhgpbkfmkoaaDnC
import Derived.Test.YtjblhgpbkfmkoaaRows
import Derived.ProofKit
import Derived.Test.YtjblhgpbkfmkoaaDnPAcc2
/-
  The law AcceptorTurns holds. Conditions: none.
-/
set_option linter.unusedVariables false
set_option linter.unusedSimpArgs false
set_option maxRecDepth 100000
namespace Go.Proofs.Ytjblhgpbkfmkoaa
open Go Go.ChangeShapes Go.WideShapes Go.ChangeAt Go.RowKit Dn Dn.S
theorem rd3 : ∀ {n : Nat} {ms : List MV}, MT Try.prog n 3 ms → ∃ x : Int, ms = [.i .i64 x] ∧ (Lit.int .i64 x).wf = true := by
  intro n ms h
  cases n with
  | zero => exact h.elim
  | succ d =>
    unfold MT at h
    rw [Try.underlying3] at h
    obtain ⟨x, rfl, h⟩ := h
    exact ⟨x, rfl, h⟩
theorem me3 {n : Nat} {m : MV} (h : ME Try.prog (MT Try.prog n) 3 m) : ∃ x : Int, m = (MV.i .i64) x ∧ (Lit.int .i64 x).wf = true := by
  unfold ME at h
  rw [Try.underlying3] at h
  obtain ⟨x, e, w⟩ := rd3 h
  exact ⟨x, by simpa using e, w⟩
def wfSizeSize (x : SizeSize) : Prop := ((Lit.int .i64 x.F).wf = true) ∧ ((Lit.int .i64 x.T).wf = true)
theorem rd23 : ∀ {n : Nat} {ms : List MV}, MT Try.prog n 23 ms → ∃ x : SizeSize, ms = [.i .i64 x.F, .i .i64 x.T] ∧ wfSizeSize x := by
  intro n ms h
  cases n with
  | zero => exact h.elim
  | succ d =>
    unfold MT at h
    rw [Try.underlying23] at h
    change FT (MT Try.prog d) [3, 3] ms at h
    obtain ⟨_, _, rfl, h0, _, _, rfl, h1, rfl⟩ := h
    obtain ⟨x0, rfl, w0⟩ := rd3 h0
    obtain ⟨x1, rfl, w1⟩ := rd3 h1
    exact ⟨⟨x0, x1⟩, by simp, w0, w1⟩
theorem me23 {n : Nat} {m : MV} (h : ME Try.prog (MT Try.prog n) 23 m) : ∃ x : SizeSize, m = encSizeSize x ∧ wfSizeSize x := by
  unfold ME at h
  rw [Try.underlying23] at h
  obtain ⟨cs, rfl, h⟩ := h
  obtain ⟨x, rfl, w⟩ := rd23 h
  exact ⟨x, rfl, w⟩
theorem rd4 : ∀ {n : Nat} {ms : List MV}, MT Try.prog n 4 ms → ∃ x : Bool, ms = [.b x] ∧ True := by
  intro n ms h
  cases n with
  | zero => exact h.elim
  | succ d =>
    unfold MT at h
    rw [Try.underlying4] at h
    obtain ⟨x, rfl⟩ := h
    exact ⟨x, rfl, trivial⟩
theorem me4 {n : Nat} {m : MV} (h : ME Try.prog (MT Try.prog n) 4 m) : ∃ x : Bool, m = MV.b x ∧ True := by
  unfold ME at h
  rw [Try.underlying4] at h
  obtain ⟨x, e, w⟩ := rd4 h
  exact ⟨x, by simpa using e, w⟩
theorem rd9 : ∀ {n : Nat} {ms : List MV}, MT Try.prog n 9 ms → ∃ x : List UInt8, ms = [.s x] ∧ x.length ≤ Go.maxLen := by
  intro n ms h
  cases n with
  | zero => exact h.elim
  | succ d =>
    unfold MT at h
    rw [Try.underlying9] at h
    obtain ⟨x, rfl, h⟩ := h
    exact ⟨x, rfl, h⟩
theorem me9 {n : Nat} {m : MV} (h : ME Try.prog (MT Try.prog n) 9 m) : ∃ x : List UInt8, m = MV.s x ∧ x.length ≤ Go.maxLen := by
  unfold ME at h
  rw [Try.underlying9] at h
  obtain ⟨x, e, w⟩ := rd9 h
  exact ⟨x, by simpa using e, w⟩
def wfApiAccept (x : ApiAccept) : Prop := ((Lit.int .i64 x.By).wf = true) ∧ ((Lit.int .i64 x.View).wf = true) ∧ (x.Value.length ≤ Go.maxLen)
theorem rd72 : ∀ {n : Nat} {ms : List MV}, MT Try.prog n 72 ms → ∃ x : ApiAccept, ms = [.i .i64 x.By, .i .i64 x.View, .s x.Value] ∧ wfApiAccept x := by
  intro n ms h
  cases n with
  | zero => exact h.elim
  | succ d =>
    unfold MT at h
    rw [Try.underlying72] at h
    change FT (MT Try.prog d) [3, 3, 9] ms at h
    obtain ⟨_, _, rfl, h0, _, _, rfl, h1, _, _, rfl, h2, rfl⟩ := h
    obtain ⟨x0, rfl, w0⟩ := rd3 h0
    obtain ⟨x1, rfl, w1⟩ := rd3 h1
    obtain ⟨x2, rfl, w2⟩ := rd9 h2
    exact ⟨⟨x0, x1, x2⟩, by simp, w0, w1, w2⟩
theorem me72 {n : Nat} {m : MV} (h : ME Try.prog (MT Try.prog n) 72 m) : ∃ x : ApiAccept, m = encApiAccept x ∧ wfApiAccept x := by
  unfold ME at h
  rw [Try.underlying72] at h
  obtain ⟨cs, rfl, h⟩ := h
  obtain ⟨x, rfl, w⟩ := rd72 h
  exact ⟨x, rfl, w⟩
theorem rd24 : ∀ {n : Nat} {ms : List MV}, MT Try.prog n 24 ms → ∃ x : List ApiAccept, ms = [.list (x.map encApiAccept)] ∧ x.length ≤ Go.maxLen ∧ ∀ y ∈ x, wfApiAccept y := by
  intro n ms h
  cases n with
  | zero => exact h.elim
  | succ d =>
    unfold MT at h
    rw [Try.underlying24] at h
    obtain ⟨xs, rfl, h1, h2⟩ := h
    obtain ⟨L, rfl, h3⟩ := list_of (fun x (hx : ME Try.prog (MT Try.prog d) 72 x) => me72 hx) h2
    exact ⟨L, rfl, by simpa using h1, h3⟩
theorem me24 {n : Nat} {m : MV} (h : ME Try.prog (MT Try.prog n) 24 m) : ∃ x : List ApiAccept, m = (encL encApiAccept) x ∧ x.length ≤ Go.maxLen ∧ ∀ y ∈ x, wfApiAccept y := by
  unfold ME at h
  rw [Try.underlying24] at h
  obtain ⟨x, e, w⟩ := rd24 h
  exact ⟨x, by simpa using e, w⟩
def wfTallyTally (x : TallyTally) : Prop := (x.L.length ≤ Go.maxLen ∧ ∀ y ∈ x.L, wfApiAccept y)
theorem rd26 : ∀ {n : Nat} {ms : List MV}, MT Try.prog n 26 ms → ∃ x : TallyTally, ms = [.list (x.L.map encApiAccept)] ∧ wfTallyTally x := by
  intro n ms h
  cases n with
  | zero => exact h.elim
  | succ d =>
    unfold MT at h
    rw [Try.underlying26] at h
    change FT (MT Try.prog d) [24] ms at h
    obtain ⟨_, _, rfl, h0, rfl⟩ := h
    obtain ⟨x0, rfl, w0⟩ := rd24 h0
    exact ⟨⟨x0⟩, by simp, w0⟩
theorem me26 {n : Nat} {m : MV} (h : ME Try.prog (MT Try.prog n) 26 m) : ∃ x : TallyTally, m = encTallyTally x ∧ wfTallyTally x := by
  unfold ME at h
  rw [Try.underlying26] at h
  obtain ⟨cs, rfl, h⟩ := h
  obtain ⟨x, rfl, w⟩ := rd26 h
  exact ⟨x, rfl, w⟩
def wfAcceptorAcceptor (x : AcceptorAcceptor) : Prop := (wfSizeSize x.S) ∧ ((Lit.int .i64 x.Me).wf = true) ∧ ((Lit.int .i64 x.View).wf = true) ∧ (True) ∧ ((Lit.int .i64 x.At).wf = true) ∧ (x.Value.length ≤ Go.maxLen) ∧ (x.Proof.length ≤ Go.maxLen ∧ ∀ y ∈ x.Proof, wfApiAccept y) ∧ (wfTallyTally x.Votes)
theorem rd28 : ∀ {n : Nat} {ms : List MV}, MT Try.prog n 28 ms → ∃ x : AcceptorAcceptor, ms = [.i .i64 x.S.F, .i .i64 x.S.T, .i .i64 x.Me, .i .i64 x.View, .b x.Has, .i .i64 x.At, .s x.Value, .list (x.Proof.map encApiAccept), .list (x.Votes.L.map encApiAccept)] ∧ wfAcceptorAcceptor x := by
  intro n ms h
  cases n with
  | zero => exact h.elim
  | succ d =>
    unfold MT at h
    rw [Try.underlying28] at h
    change FT (MT Try.prog d) [23, 3, 3, 4, 3, 9, 24, 26] ms at h
    obtain ⟨_, _, rfl, h0, _, _, rfl, h1, _, _, rfl, h2, _, _, rfl, h3, _, _, rfl, h4, _, _, rfl, h5, _, _, rfl, h6, _, _, rfl, h7, rfl⟩ := h
    obtain ⟨x0, rfl, w0⟩ := rd23 h0
    obtain ⟨x1, rfl, w1⟩ := rd3 h1
    obtain ⟨x2, rfl, w2⟩ := rd3 h2
    obtain ⟨x3, rfl, w3⟩ := rd4 h3
    obtain ⟨x4, rfl, w4⟩ := rd3 h4
    obtain ⟨x5, rfl, w5⟩ := rd9 h5
    obtain ⟨x6, rfl, w6⟩ := rd24 h6
    obtain ⟨x7, rfl, w7⟩ := rd26 h7
    exact ⟨⟨x0, x1, x2, x3, x4, x5, x6, x7⟩, by simp, w0, w1, w2, w3, w4, w5, w6, w7⟩
theorem me28 {n : Nat} {m : MV} (h : ME Try.prog (MT Try.prog n) 28 m) : ∃ x : AcceptorAcceptor, m = encAcceptorAcceptor x ∧ wfAcceptorAcceptor x := by
  unfold ME at h
  rw [Try.underlying28] at h
  obtain ⟨cs, rfl, h⟩ := h
  obtain ⟨x, rfl, w⟩ := rd28 h
  exact ⟨x, rfl, w⟩
def wfApiReport (x : ApiReport) : Prop := ((Lit.int .i64 x.By).wf = true) ∧ ((Lit.int .i64 x.For).wf = true) ∧ (True) ∧ ((Lit.int .i64 x.View).wf = true) ∧ (x.Value.length ≤ Go.maxLen) ∧ (x.Proof.length ≤ Go.maxLen ∧ ∀ y ∈ x.Proof, wfApiAccept y)
theorem rd47 : ∀ {n : Nat} {ms : List MV}, MT Try.prog n 47 ms → ∃ x : ApiReport, ms = [.i .i64 x.By, .i .i64 x.For, .b x.Has, .i .i64 x.View, .s x.Value, .list (x.Proof.map encApiAccept)] ∧ wfApiReport x := by
  intro n ms h
  cases n with
  | zero => exact h.elim
  | succ d =>
    unfold MT at h
    rw [Try.underlying47] at h
    change FT (MT Try.prog d) [3, 3, 4, 3, 9, 24] ms at h
    obtain ⟨_, _, rfl, h0, _, _, rfl, h1, _, _, rfl, h2, _, _, rfl, h3, _, _, rfl, h4, _, _, rfl, h5, rfl⟩ := h
    obtain ⟨x0, rfl, w0⟩ := rd3 h0
    obtain ⟨x1, rfl, w1⟩ := rd3 h1
    obtain ⟨x2, rfl, w2⟩ := rd4 h2
    obtain ⟨x3, rfl, w3⟩ := rd3 h3
    obtain ⟨x4, rfl, w4⟩ := rd9 h4
    obtain ⟨x5, rfl, w5⟩ := rd24 h5
    exact ⟨⟨x0, x1, x2, x3, x4, x5⟩, by simp, w0, w1, w2, w3, w4, w5⟩
theorem me47 {n : Nat} {m : MV} (h : ME Try.prog (MT Try.prog n) 47 m) : ∃ x : ApiReport, m = encApiReport x ∧ wfApiReport x := by
  unfold ME at h
  rw [Try.underlying47] at h
  obtain ⟨cs, rfl, h⟩ := h
  obtain ⟨x, rfl, w⟩ := rd47 h
  exact ⟨x, rfl, w⟩
theorem rd89 : ∀ {n : Nat} {ms : List MV}, MT Try.prog n 89 ms → ∃ x : List ApiReport, ms = [.list (x.map encApiReport)] ∧ x.length ≤ Go.maxLen ∧ ∀ y ∈ x, wfApiReport y := by
  intro n ms h
  cases n with
  | zero => exact h.elim
  | succ d =>
    unfold MT at h
    rw [Try.underlying89] at h
    obtain ⟨xs, rfl, h1, h2⟩ := h
    obtain ⟨L, rfl, h3⟩ := list_of (fun x (hx : ME Try.prog (MT Try.prog d) 47 x) => me47 hx) h2
    exact ⟨L, rfl, by simpa using h1, h3⟩
theorem me89 {n : Nat} {m : MV} (h : ME Try.prog (MT Try.prog n) 89 m) : ∃ x : List ApiReport, m = (encL encApiReport) x ∧ x.length ≤ Go.maxLen ∧ ∀ y ∈ x, wfApiReport y := by
  unfold ME at h
  rw [Try.underlying89] at h
  obtain ⟨x, e, w⟩ := rd89 h
  exact ⟨x, by simpa using e, w⟩
def wfL21Call (x : L21Call) : Prop := ((Lit.int .i64 x.View).wf = true) ∧ (x.Value.length ≤ Go.maxLen) ∧ (x.Cert.length ≤ Go.maxLen ∧ ∀ y ∈ x.Cert, wfApiReport y) ∧ (wfApiAccept x.Vote)
theorem rd91 : ∀ {n : Nat} {ms : List MV}, MT Try.prog n 91 ms → ∃ x : L21Call, ms = [.i .i64 x.View, .s x.Value, .list (x.Cert.map encApiReport), .i .i64 x.Vote.By, .i .i64 x.Vote.View, .s x.Vote.Value] ∧ wfL21Call x := by
  intro n ms h
  cases n with
  | zero => exact h.elim
  | succ d =>
    unfold MT at h
    rw [Try.underlying91] at h
    change FT (MT Try.prog d) [3, 9, 89, 72] ms at h
    obtain ⟨_, _, rfl, h0, _, _, rfl, h1, _, _, rfl, h2, _, _, rfl, h3, rfl⟩ := h
    obtain ⟨x0, rfl, w0⟩ := rd3 h0
    obtain ⟨x1, rfl, w1⟩ := rd9 h1
    obtain ⟨x2, rfl, w2⟩ := rd89 h2
    obtain ⟨x3, rfl, w3⟩ := rd72 h3
    exact ⟨⟨x0, x1, x2, x3⟩, by simp, w0, w1, w2, w3⟩
theorem me91 {n : Nat} {m : MV} (h : ME Try.prog (MT Try.prog n) 91 m) : ∃ x : L21Call, m = encL21Call x ∧ wfL21Call x := by
  unfold ME at h
  rw [Try.underlying91] at h
  obtain ⟨cs, rfl, h⟩ := h
  obtain ⟨x, rfl, w⟩ := rd91 h
  exact ⟨x, rfl, w⟩
theorem own : ownKnob Try.prog.godebug = none := by kernel_rfl
theorem laidOut : laidOutB Try.prog = true := by kernel_rfl
theorem sound_law : ∀ ms, ParamsOK Try.prog Try.f9.params.toList ms → Sound1 Try.prog cx 9 ms (.b true) := by
  intro ms h
  rw [show Try.f9.params = #[28, 91] from Try.params9] at h
  obtain ⟨m0, _, rfl, ⟨_, h0⟩, m1, _, rfl, ⟨_, h1⟩, h⟩ := h
  have h : _ = [] := h
  subst h
  obtain ⟨x0, rfl, w0⟩ := me28 h0
  obtain ⟨x1, rfl, w1⟩ := me91 h1
  refine soundL21AcceptorTurns.all 9 _ _ ?_
  have he := eL21AcceptorTurns x0 x1
  rw [acceptorTurns_all x0 x1] at he
  exact he
theorem law_lifted (os : Os) (started : os.Started) (H : Type) (enc : TypeId × Value → H) :
    ReturnsInHanded {} Try.checked os 9 .any (Rows.acceptorTurnsSpec.pre6 enc Try.prog Try.f9 Rows.acceptorTurnsRow.domain false) (Rows.acceptorTurnsSpec.post enc Try.prog Try.f9 false true false false) := by
  refine returnsInHanded_of_change (C := Try.checked) own started (by kernel_rfl) Try.func9
    (ChangeSpec.witness6 (enc := enc) (C := Try.checked) false ⟨#[], #[.agg #[.int .i64 0, .int .i64 0, .int .i64 0, .int .i64 0, .bool false, .int .i64 0, .string ⟨#[]⟩, .slice none 0 0, .slice none 0 0], .agg #[.int .i64 0, .string ⟨#[]⟩, .slice none 0 0, .int .i64 0, .int .i64 0, .string ⟨#[]⟩]], []⟩ 9 (by kernel_rfl) (by kernel_rfl) (by kernel_rfl) (by kernel_rfl)) ?_
  intro W base args ds gs before hval0 hW hcnd _
  refine law_calls (c := cx) (tb := 4) Try.func9 (by kernel_rfl) (by kernel_rfl) laidOut ?_ (by kernel_rfl) Try.underlying4 rfl ?_ hval0 hW (by kernel_rfl) sound_law
  · intro t ht
    rw [show Try.f9.params = #[28, 91] from Try.params9] at ht
    rcases List.mem_cons.1 ht with rfl | ht
    · exact ⟨⟨30, by kernel_rfl⟩, by kernel_rfl, of_decide_eq_true (by kernel_rfl)⟩
    rcases List.mem_cons.1 ht with rfl | ht
    · exact ⟨⟨30, by kernel_rfl⟩, by kernel_rfl, of_decide_eq_true (by kernel_rfl)⟩
    cases ht
  · intro ds hd
    rw [show Try.f9.params = #[28, 91] from Try.params9] at hd
    match ds, hd with
    | [_, _], _ => rfl
theorem law_holds : Rows.AcceptorTurnsSaid :=
  OpenClaim.holds_of_wide 9 Try.f9 rfl rfl rfl rfl rfl rfl rfl ⟨rfl, rfl, rfl, rfl, rfl⟩ rfl rfl rfl rfl rfl (by kernel_rfl) Try.func9 (by kernel_rfl)
    (of_decide_eq_true (by kernel_rfl)) (by unfold Func.isWrapper; first | (rw [if_pos (by decide +kernel)]; kernel_rfl) | (rw [if_neg (by decide +kernel)]; exact ⟨rfl, rfl⟩))
    (fun os started H enc _ => law_lifted os started H enc)
end Go.Proofs.Ytjblhgpbkfmkoaa
