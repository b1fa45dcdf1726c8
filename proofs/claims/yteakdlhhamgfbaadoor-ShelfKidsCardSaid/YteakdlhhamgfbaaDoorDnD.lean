import Derived.Test.YteakdlhhamgfbaaDoorDnC
import Derived.Shelf.Strings.Split
import Derived.Shelf.Strings.SlTrimAscii
import Derived.Shelf.Strings.Runes
import Derived.Lib.IndexBytes
import Derived.LaidLaws
import Derived.Deep.DeepLaidRun
import Derived.Handed
import Derived.JoinedOf
import Derived.KernelRfl
/-
  Functions of package strings as table entries, by the shelf's contracts. Conditions: none.
-/
set_option linter.unusedSimpArgs false
set_option linter.unusedVariables false
namespace Dn
open Go

theorem splitK_eq (c : UInt8) : ∀ l : List UInt8, Lib.splitK [c] 0 (Lib.count l [c]) l = splitL c l := by
  intro l
  induction l with
  | nil => rw [Lib.count_one]; rfl
  | cons b l ih =>
    by_cases hb : b = c
    · subst hb
      have hix : Lib.index (b :: l) [b] = 0 := by rw [Lib.index]; simp [List.isPrefixOf]
      rw [Lib.count_cons_eq, Nat.add_comm, Lib.splitK, hix]
      simp [splitL, ih]
    · rw [Lib.count_cons_ne b c l hb]
      have hp : ([c] : List UInt8).isPrefixOf (b :: l) = false := by simp [List.isPrefixOf, Ne.symm hb]
      have hix : Lib.index (b :: l) [c] = if Lib.index l [c] == -1 then -1 else Lib.index l [c] + 1 := by rw [Lib.index, hp]; simp
      simp only [splitL, hb, if_false]
      rw [← ih]
      cases hk : Lib.count l [c] with
      | zero => rfl
      | succ k =>
        have hne : Lib.index l [c] ≠ -1 := by intro he; rw [Lib.count_miss he] at hk; cases hk
        have hge := Lib.index_ge l [c]
        obtain ⟨j, hj⟩ : ∃ j : Nat, Lib.index l [c] = j := ⟨(Lib.index l [c]).toNat, by omega⟩
        have hne' : (Lib.index l [c] == -1) = false := by simpa using hne
        rw [hne', if_neg (by decide)] at hix
        have hne2 : (Lib.index (b :: l) [c] == -1) = false := by rw [hix, hj]; simp; omega
        rw [Lib.splitK, Lib.splitK, hne', hne2, hix, hj]
        have e1 : ((j : Int) + 1).toNat = j + 1 := by omega
        simp [e1]
theorem splitB_eq (c : UInt8) (s : ByteArray) : (Lib.splitB ⟨#[c]⟩ 0 (Lib.countB s ⟨#[c]⟩) s).map (·.data.toList) = splitL c s.data.toList := by
  rw [Lib.splitB_data]
  exact splitK_eq c _

section
variable {P : Program} {ρ : Go.Shelf.Ren} {c : Ctx}

theorem callOK_of {f : FuncId} {args : Array Value} {w : World} {S : Ending → World → Prop} {R : Value → World → Prop} (he : ∀ args w, (callFunc f args).run P w = .ok (.enter f args) w) (hc : Calls P f args w S) (h : ∀ e w', S e w' → ∃ v, e = .returned v ∧ R v w') :
    CallOK P f args w R := by
  unfold CallOK
  rw [he]
  exact hc.mono h
theorem rep_str {key : Nat → Nat} {φ : Ph} {v : Value} {l : List UInt8} (h : Rep key φ [v] (.s l)) : ∃ b : ByteArray, v = .string b ∧ b.data.toList = l := by
  generalize hv : [v] = vs at h
  cases h
  rename_i b
  exact ⟨b, by simpa using hv, rfl⟩
theorem args_ss {Z : Nat → Prop} {φ : Ph} {w : World} {k : Nat} {vs : List Value} {a b : List UInt8} (hg : c.gives k = false) (h : ArgsIn c Z φ w k vs [.s a, .s b]) : ∃ x y : ByteArray, vs = [.string x, .string y] ∧ x.data.toList = a ∧ y.data.toList = b := by
  simp only [ArgsIn, hg, Bool.false_eq_true, if_false] at h
  obtain ⟨v, u, rfl, ⟨_, h1⟩, v2, u2, rfl, ⟨_, h2⟩, rfl⟩ := h
  obtain ⟨x, rfl, hx⟩ := rep_str h1
  obtain ⟨y, rfl, hy⟩ := rep_str h2
  exact ⟨x, y, rfl, hx, hy⟩
theorem args_si {Z : Nat → Prop} {φ : Ph} {w : World} {k : Nat} {kd : IntKind} {vs : List Value} {a : List UInt8} {n : Int} (hg : c.gives k = false) (h : ArgsIn c Z φ w k vs [.s a, .i kd n]) : ∃ x : ByteArray, vs = [.string x, .int kd n] ∧ x.data.toList = a := by
  simp only [ArgsIn, hg, Bool.false_eq_true, if_false] at h
  obtain ⟨v, u, rfl, ⟨_, h1⟩, v2, u2, rfl, ⟨_, h2⟩, rfl⟩ := h
  obtain ⟨x, rfl, hx⟩ := rep_str h1
  generalize hv : [v2] = vs at h2
  cases h2
  simp at hv
  subst hv
  exact ⟨x, rfl, hx⟩
theorem rest_drew (w : World) (q : Nat) : Rest w (w.drewN q) := ⟨rfl, rfl, rfl, fun _ => rfl⟩

theorem new_none {φ : Ph} {w : World} (hi : Imm φ w) {b : Nat} (hb : w.heap.size ≤ b) (off : Nat) : φ b off = none := by
  cases hp : φ b off with
  | none => rfl
  | some u =>
    have := World.block_lt_of_cell? w _ (hi _ _ _ hp)
    simp at this
    omega
theorem trim_ok (L : Go.Proofs.Lays.n160 P ρ) (h116 : (P.info? (ρ.t 116)).map (fun i => (i.zero, i.size)) = some (some (.agg (Array.replicate 256 (.bool false))), 256)) (hg : c.gives (c.key (ρ.f 160)) = false) {ms : List MV} {r : MV} (h : trimF ms = some r) :
    Sound1 P c (ρ.f 160) ms r := by
  unfold trimF at h
  split at h
  · rename_i a b
    cases hb : (Nat.ble 1 a.length && Nat.ble a.length (2 ^ 46)) && (Nat.ble 2 b.length && (Nat.ble b.length 1000 && b.all fun x => decide (x.toNat < 128))) with
    | false => rw [hb] at h; cases h
    | true =>
      rw [hb] at h
      simp only [cond_true, Option.some.injEq] at h
      subst h
      simp only [Bool.and_eq_true] at hb
      obtain ⟨⟨h1, h2⟩, h3, h4, h5⟩ := hb
      have h1 := Nat.le_of_ble_eq_true h1
      have h2 := Nat.le_of_ble_eq_true h2
      have h3 := Nat.le_of_ble_eq_true h3
      have h4 := Nat.le_of_ble_eq_true h4
      intro φ w Z vs hz ha hi
      obtain ⟨x, y, rfl, rfl, rfl⟩ := args_ss hg ha
      refine callOK_of (Go.Proofs.enters_of L.f160 (by kernel_rfl) rfl) (Go.Proofs.Any.strings_Trim_set L (Go.zero_of_info h116).1 (Go.zero_of_info h116).2 x y w (by rw [Lib.size_eq]; exact h3) (by rw [Lib.size_eq]; omega) (by rw [Lib.size_eq]; omega) (by rw [Lib.size_eq]; omega) (Go.Proofs.ascii_of_all h5)) ?_
      rintro e w' ⟨rfl, q, rfl⟩
      refine ⟨_, rfl, φ, ?_, ?_, ?_⟩
      · have g1 := Grow.alloc w (Lib.setCells y.data.toList) (ρ.t 116)
        have g2 := Grow.alloc (w.alloc (.cells (Lib.setCells y.data.toList) (ρ.t 116))) (Lib.setCells y.data.toList) (ρ.t 116)
        have g := g1.trans' g2
        exact ⟨.refl φ, fun b _ hl => g.old b hl, fun _ _ _ => rfl, g.size, g.rest.trans (rest_drew _ q)⟩
      · intro b o v hv
        have g1 := Grow.alloc w (Lib.setCells y.data.toList) (ρ.t 116)
        have g2 := Grow.alloc (w.alloc (.cells (Lib.setCells y.data.toList) (ρ.t 116))) (Lib.setCells y.data.toList) (ρ.t 116)
        exact (g1.trans' g2).cell (hi b o v hv)
      · exact ⟨rfl, by have := Rep.s (key := c.key) (φ := φ) (⟨(Lib.trimS x.data.toList y.data.toList).toArray⟩ : ByteArray); simpa using this⟩
  · cases h
theorem hasRune_ok (L : Go.Proofs.Lays.n151 P ρ) (hg : c.gives (c.key (ρ.f 151)) = false) {ms : List MV} {r : MV} (h : hasRuneF ms = some r) : Sound1 P c (ρ.f 151) ms r := by
  unfold hasRuneF at h
  split at h
  · rename_i a n
    cases hb : decide (0 ≤ n ∧ n < 128) with
    | false => rw [hb] at h; cases h
    | true =>
      rw [hb] at h
      simp only [cond_true, Option.some.injEq] at h
      subst h
      obtain ⟨h1, h2⟩ := of_decide_eq_true hb
      intro φ w Z vs hz ha hi
      obtain ⟨x, rfl, rfl⟩ := args_si hg ha
      refine callOK_of (Go.Proofs.enters_of L.f151 (by kernel_rfl) rfl) (Go.Proofs.Any.strings_ContainsRune_ascii L x n w h1 h2) ?_
      rintro e w' ⟨rfl, rfl⟩
      exact ⟨_, rfl, φ, .refl _ _ _, hi, rfl, .b _⟩
  · cases h

open Go.Proofs Go.Shelf Go.RowKit in
theorem split_one (L : Go.Proofs.Lays.n146 P ρ) (hi9 : (P.info? (ρ.t 9)).map (fun i => (i.zero, i.size, i.bytes)) = some (some (.string ByteArray.empty), 1, 16)) (s : ByteArray) (b : UInt8) (w : World) (hs : s.size < 4294967281) :
    Calls P (ρ.f 146) #[.string s, .string ⟨#[b]⟩] w fun e w' =>
      e = .returned (.slice (some ⟨w.heap.size, 0, none⟩) (Lib.countB s ⟨#[b]⟩ + 1) (Lib.countB s ⟨#[b]⟩ + 1)) ∧ w' = w.alloc (.cells ((Lib.splitB ⟨#[b]⟩ 0 (Lib.countB s ⟨#[b]⟩) s).map Value.string).toArray (ρ.t 9)) := by
  have h1 : 1 ≤ (⟨#[b]⟩ : ByteArray).size := Nat.le_refl _
  have hle := Lib.countB_le ⟨#[b]⟩ h1 s.size s (Nat.le_refl _)
  have hlen := Lib.splitB_all ⟨#[b]⟩ h1 0 _ s rfl
  have hC : Calls P (ρ.f 138) #[.string s, .string ⟨#[b]⟩] w fun e w' => e = .returned (.int .i64 (Lib.countB s ⟨#[b]⟩)) ∧ w' = w := by
    refine (Any.strings_Count_one { L with } s b w).mono fun e w' ⟨he, hw⟩ => ⟨?_, hw⟩
    rw [he]
    show _ = Ending.returned (Value.int .i64 ((Lib.count s.data.toList [b] : Nat) : Int))
    rw [Lib.count_one]
    rfl
  have c := Any.strings_genSplit_core { L with } hi9 s ⟨#[b]⟩ 0 (-1) (Lib.countB s ⟨#[b]⟩ + 1) w hs h1 (Nat.zero_le _)
    (fun x q hx => (Any.strings_Index_one { L with } x b _).mono fun e w' ⟨he, hw⟩ => ⟨by rw [he]; show _ = Ending.returned (Value.int .i64 (Lib.index x.data.toList [b])); rw [Lib.index_one], hw⟩)
    hC (by decide) (by decide) (by rw [if_pos (by decide)]; omega)
  rw [Nat.add_sub_cancel, hlen] at c
  have e2 : Lib.cellsOf (Lib.splitB ⟨#[b]⟩ 0 (Lib.countB s ⟨#[b]⟩) s) (Lib.countB s ⟨#[b]⟩ + 1) = ((Lib.splitB ⟨#[b]⟩ 0 (Lib.countB s ⟨#[b]⟩) s).map Value.string).toArray := by rw [← hlen]; exact Lib.cellsOf_full _
  rw [e2] at c
  clear hC hlen hle e2
  have t3 := L.t3; have t9 := L.t9; have t31 := L.t31
  have a3 := L.a3; have a9 := L.a9; have a31 := L.a31
  have z3 := L.z3; have v3 := L.v3; have z9 := L.z9; have v9 := L.v9; have z31 := L.z31; have v31 := L.v31
  have e221 : ∀ args w, (callFunc (ρ.f 221) args).run P w = .ok (.enter (ρ.f 221) args) w := enters_of L.f221 (by kernel_rfl) rfl
  go_enter L.f146, Body.n146_ntmps ρ
  go_wp2_with (go_at_fn (ρ.f 221); refine c.mono ?_; rintro e w' ⟨rfl, hw⟩; rw [hw])
  go_ret
  exact ⟨rfl, rfl⟩
theorem strs_elems {key : Nat → Nat} {φ : Ph} : ∀ l : List ByteArray, ElemsRep key φ 1 (l.map Value.string) (l.map fun b => MV.s b.data.toList)
  | [] => rfl
  | b :: l => ⟨[.string b], _, rfl, rfl, .s b, strs_elems l⟩
theorem split_ok {I : TI} (L : Go.Proofs.Lays.n146 P ρ) (hi9 : (P.info? (ρ.t 9)).map (fun i => (i.zero, i.size, i.bytes)) = some (some (.string ByteArray.empty), 1, 16)) (hg : c.gives (c.key (ρ.f 146)) = false)
    (hty : c.fty (c.key (ρ.f 146)) = ρ.t 9) (hI : c.tv (ρ.t 9) = some I) (hI1 : I.size = 1) {ms : List MV} {r : MV} (h : splitF ms = some r) : Sound1 P c (ρ.f 146) ms r := by
  unfold splitF at h
  split at h
  · rename_i a b
    cases hb : Nat.ble a.length 4294967280 with
    | false => rw [hb] at h; cases h
    | true =>
      rw [hb] at h
      simp only [cond_true, Option.some.injEq] at h
      subst h
      have hb := Nat.le_of_ble_eq_true hb
      intro φ w Z vs hz ha hi
      obtain ⟨x, y, rfl, rfl, hy⟩ := args_ss hg ha
      have hy' : y = ⟨#[b]⟩ := by
        cases y with
        | mk d => congr 1; apply Array.toList_inj.1; exact hy
      subst hy'
      have hs : x.size < 4294967281 := by rw [Lib.size_eq]; omega
      refine callOK_of (Go.Proofs.enters_of L.f146 (by kernel_rfl) rfl) (split_one L hi9 x b w hs) ?_
      rintro e w' ⟨rfl, rfl⟩
      have h1 : 1 ≤ (⟨#[b]⟩ : ByteArray).size := Nat.le_refl _
      have hle := Lib.countB_le ⟨#[b]⟩ h1 x.size x (Nat.le_refl _)
      have hlen := Lib.splitB_all ⟨#[b]⟩ h1 0 _ x rfl
      have heq := splitB_eq b x
      have g1 := Grow.alloc w ((Lib.splitB ⟨#[b]⟩ 0 (Lib.countB x ⟨#[b]⟩) x).map Value.string).toArray (ρ.t 9)
      obtain ⟨hti, hc⟩ := tv_some hI
      refine ⟨_, rfl, φ, g1.trans (Z := Zone.plain Z) hz φ, fun b' o v hv => g1.cell (hi b' o v hv), ?_⟩
      show FamOK _ _ _ _ _ ⟨c.fty (c.key (ρ.f 146)), false, _⟩
      rw [hty]
      generalize hpc : Lib.splitB ⟨#[b]⟩ 0 (Lib.countB x ⟨#[b]⟩) x = pcs at *
      rw [← heq, List.map_map]
      refine ⟨I, pcs.map Value.string, hti, hc, ?_, by rw [hI1]; exact strs_elems pcs, ?_⟩
      · rw [hI1]
        refine ⟨by simp, .inr ⟨w.heap.size, Lib.countB x ⟨#[b]⟩ + 1, _, by simp [hlen], Nat.zero_le _, heap_alloc_new w _, by simp [hlen], by unfold Go.maxLen; rw [Lib.size_eq] at hle; omega, by simp [hlen], ?_⟩⟩
        simp [List.take_of_length_le]
      · intro blk hblk
        simp [Value.ownBlock] at hblk
        subst hblk
        exact ⟨hz _ (Nat.le_refl _), fun off u hu => (by have hu : φ w.heap.size off = some u := hu; rw [new_none hi (Nat.le_refl _)] at hu; cases hu), fun hc => False.elim hc⟩
  · cases h
end
end Dn
/-
  Reasoning about functions on typed values. Conditions: none.
-/
set_option linter.unusedVariables false
namespace Dn
open Go
section
variable {α R : Type}
theorem ix_nat {l : List α} {k : Nat} (h : k < l.length) (K : α → Option R) : ix l (k : Int) K = K l[k] := by
  simp [ix, h]
theorem ix_int {l : List α} {i : Int} (h0 : 0 ≤ i) (h : i.toNat < l.length) (K : α → Option R) : ix l i K = K l[i.toNat] := by
  simp [ix, h, h0]
theorem ix_zero {l : List α} (h : 0 < l.length) (K : α → Option R) : ix l 0 K = K l[0] := by simp [ix, h]
theorem if_t {c : Prop} [Decidable c] (h : c) (x y : α) : (if c then x else y) = x := if_pos h
theorem bd_some' {A : Type} {x : Option A} {a : A} (h : x = some a) (K : A → Option R) : bd x K = K a := by rw [h]; rfl
theorem bd_if {A : Type} (c : Prop) [Decidable c] (x y : Option A) (K : A → Option R) : bd (if c then x else y) K = if c then bd x K else bd y K := by split <;> rfl
@[simp] theorem bd_id {A : Type} (x : Option A) : bd x (fun a => some a) = x := by cases x <;> rfl
theorem bd_ix {A : Type} (l : List α) (i : Int) (k : α → Option A) (K : A → Option R) : bd (ix l i k) K = ix l i fun a => bd (k a) K := by
  unfold ix; split <;> rfl
theorem bd_bd {A B : Type} (x : Option A) (k : A → Option B) (K : B → Option R) : bd (bd x k) K = bd x fun a => bd (k a) K := by cases x <;> rfl
end
/-- it gives something that .. -/
def Gives {A : Type} (x : Option A) (Q : A → Prop) : Prop := ∃ a, x = some a ∧ Q a
section
variable {A B α σ ρ : Type}
theorem Gives.mk {a : A} {Q : A → Prop} (h : Q a) : Gives (some a) Q := ⟨a, rfl, h⟩
theorem Gives.of {x : Option A} {a : A} {Q : A → Prop} (e : x = some a) (h : Q a) : Gives x Q := ⟨a, e, h⟩
theorem Gives.bd {x : Option A} {K : A → Option B} {P : A → Prop} {Q : B → Prop} (h : Gives x P) (hk : ∀ a, P a → Gives (K a) Q) : Gives (bd x K) Q := by
  obtain ⟨a, rfl, hp⟩ := h; exact hk a hp
theorem Gives.ite {c : Prop} [Decidable c] {x y : Option A} {Q : A → Prop} (h1 : c → Gives x Q) (h2 : ¬ c → Gives y Q) : Gives (if c then x else y) Q := by
  split
  · exact h1 ‹_›
  · exact h2 ‹_›
theorem Gives.req {c : Prop} [Decidable c] {x : Option A} {Q : A → Prop} (h : c) (h1 : Gives x Q) : Gives (if c then x else none) Q := by rw [if_pos h]; exact h1
theorem Gives.imp {x : Option A} {P Q : A → Prop} (h : Gives x P) (hpq : ∀ a, P a → Q a) : Gives x Q := by
  obtain ⟨a, e, hp⟩ := h; exact ⟨a, e, hpq a hp⟩
theorem Gives.ix {l : List α} {k : Nat} {K : α → Option A} {Q : A → Prop} (h : k < l.length) (hk : Gives (K l[k]) Q) : Gives (ix l (k : Int) K) Q := by rw [ix_nat h]; exact hk
theorem Gives.eq {x : Option A} {a : A} (h : Gives x (· = a)) : x = some a := by obtain ⟨b, e, rfl⟩ := h; exact e

variable {body : σ → Option (Sum σ ρ)}
/-- a loop, by what holds at its head and what falls -/
theorem Gives.loop (I : σ → Prop) (μ : σ → Nat) {Q : ρ → Prop} {s : σ} (hs : I s) (h : ∀ s, I s → Gives (body s) fun x => match x with | .inl s' => I s' ∧ μ s' < μ s | .inr r => Q r) : Gives (Loop body s) Q := by
  refine Loop_inv I μ Q (fun s hs => ?_) hs
  obtain ⟨x, e, hx⟩ := h s hs
  cases x with
  | inl s' => exact .inl ⟨s', e, hx⟩
  | inr r => exact .inr ⟨r, e, hx⟩
/-- a loop whose states are known: the k-th, up to the n-th, at which it ends -/
theorem Gives.count (S : Nat → σ) (n : Nat) {Q : ρ → Prop} (P : Nat → Prop) {s : σ} (e : s = S 0) (h0 : P 0) (h : ∀ k, k < n → P k → Gives (body (S k)) fun x => match x with | .inl s' => s' = S (k + 1) ∧ P (k + 1) | .inr r => Q r)
    (he : P n → Gives (body (S n)) fun x => match x with | .inl _ => False | .inr r => Q r) : Gives (Loop body s) Q := by
  subst e
  refine Loop_nat S n Q P h0 (fun k hk hp => ?_) (fun hp => ?_)
  · obtain ⟨x, e, hx⟩ := h k hk hp
    cases x with
    | inl s' => obtain ⟨rfl, hx⟩ := hx; exact .inl ⟨e, hx⟩
    | inr r => exact .inr ⟨r, e, hx⟩
  · obtain ⟨x, e, hx⟩ := he hp
    cases x with
    | inl s' => exact hx.elim
    | inr r => exact ⟨r, e, hx⟩
/-- a list, looked through from its head on: state b, element a; or it ends early -/
def scan {α β ρ : Type} (f : Nat → β → α → Sum β ρ) (fin : β → ρ) : List α → Nat → β → ρ
  | [], _, b => fin b
  | a :: l, k, b => match f k b a with
    | .inl b' => scan f fin l (k + 1) b'
    | .inr r => r
/-- a loop that looks through a list -/
theorem Loop_scan {β : Type} (L : List α) (S : β → Int → σ) (I : Nat → β → Prop) (f : Nat → β → α → Sum β ρ) (fin : β → ρ) {b0 : β} {s : σ} (e0 : s = S b0 0) (h0 : I 0 b0)
    (h : ∀ k b (hk : k < L.length), I k b → body (S b (k : Int)) = some (match f k b L[k] with | .inl b' => .inl (S b' ((k + 1 : Nat) : Int)) | .inr r => .inr r) ∧ ∀ b', f k b L[k] = .inl b' → I (k + 1) b')
    (he : ∀ b, I L.length b → body (S b (L.length : Int)) = some (.inr (fin b))) : Loop body s = some (scan f fin L 0 b0) := by
  subst e0
  have key : ∀ d k b, k + d = L.length → I k b → ∃ n, iter body n (S b (k : Int)) = some (scan f fin (L.drop k) k b) := by
    intro d
    induction d with
    | zero =>
      intro k b hk hi
      have : k = L.length := by omega
      subst this
      exact ⟨1, by simp [iter, he b hi, scan]⟩
    | succ d ih =>
      intro k b hk hi
      have hkl : k < L.length := by omega
      obtain ⟨h1, h2⟩ := h k b hkl hi
      rw [List.drop_eq_getElem_cons hkl]
      simp only [scan]
      cases hf : f k b L[k] with
      | inl b' =>
        obtain ⟨n, hn⟩ := ih (k + 1) b' (by omega) (h2 b' hf)
        refine ⟨n + 1, ?_⟩
        simp only [iter, h1, hf]
        exact hn
      | inr r => exact ⟨1, by simp only [iter, h1, hf]⟩
  obtain ⟨n, hn⟩ := key L.length 0 b0 (by omega) h0
  rw [List.drop_zero] at hn
  exact Loop_of_iter hn
end
theorem wrap64 {x : Int} (h1 : -9223372036854775808 ≤ x) (h2 : x ≤ 9223372036854775807) : IntKind.wrap .i64 x = x := wrap_id h1 h2
/-- numbers of a kind, and of no more than a slice can be long -/
def InI (n : Int) : Prop := -9223372036854775808 ≤ n ∧ n ≤ 9223372036854775807
end Dn
/-
  Functions of the library, on typed values. Conditions: none.
-/
set_option linter.unusedVariables false
namespace Dn
open Go
def cmp3 (x y : Int) : Int := if x < y then -1 else if y < x then 1 else 0
/-- so many stand ahead of a number -/
def lbK {α : Type} (key : α → Int) (L : List α) (s : Int) : Nat := L.countP (fun e => decide (key e < s))
def hasK {α : Type} (key : α → Int) (L : List α) (s : Int) : Bool := L.any fun e => decide (key e = s)
def IncK {α : Type} (key : α → Int) (L : List α) : Prop := L.Pairwise fun a b => key a < key b
section
variable {α τ : Type} {key : α → Int}
theorem lbK_eq {L : List α} {s : Int} {p : Nat} (hp : p ≤ L.length) (h1 : ∀ k (hk : k < L.length), k < p → key L[k] < s) (h2 : ∀ k (hk : k < L.length), p ≤ k → s ≤ key L[k]) : lbK key L s = p := by
  have h3 : (L.take p).countP (fun e => decide (key e < s)) = (L.take p).length := by
    rw [List.countP_eq_length]
    intro a ha
    obtain ⟨k, hk, rfl⟩ := List.mem_iff_getElem.1 ha
    have hk2 : k < p := by rw [List.length_take] at hk; omega
    rw [List.getElem_take]
    exact decide_eq_true (h1 k (by omega) hk2)
  have h4 : (L.drop p).countP (fun e => decide (key e < s)) = 0 := by
    rw [List.countP_eq_zero]
    intro a ha
    obtain ⟨k, hk, rfl⟩ := List.mem_iff_getElem.1 ha
    rw [List.length_drop] at hk
    rw [List.getElem_drop]
    have := h2 (p + k) (by omega) (by omega)
    simp; omega
  have h5 : lbK key L s = (L.take p ++ L.drop p).countP (fun e => decide (key e < s)) := by rw [List.take_append_drop]; rfl
  rw [h5, List.countP_append, h3, h4, List.length_take]
  omega
theorem IncK.lt {L : List α} (hs : IncK key L) {i j : Nat} (hj : j < L.length) (h : i < j) : key (L[i]'(by omega)) < key L[j] := List.pairwise_iff_getElem.1 hs i j (by omega) hj h
theorem IncK.le {L : List α} (hs : IncK key L) {i j : Nat} (hj : j < L.length) (h : i ≤ j) : key (L[i]'(by omega)) ≤ key L[j] := by
  rcases Nat.lt_or_eq_of_le h with h | h
  · exact Int.le_of_lt (hs.lt hj h)
  · subst h; exact Int.le_refl _
theorem lbK_le (L : List α) (s : Int) : lbK key L s ≤ L.length := List.countP_le_length
/-- what stands where a number is, or would be -/
theorem IncK.lb {L : List α} (hs : IncK key L) (s : Int) : (∀ k (hk : k < L.length), k < lbK key L s → key L[k] < s) ∧ (∀ k (hk : k < L.length), lbK key L s ≤ k → s ≤ key L[k]) := by
  have : ∃ p, p ≤ L.length ∧ (∀ k (hk : k < L.length), k < p → key L[k] < s) ∧ (∀ k (hk : k < L.length), p ≤ k → s ≤ key L[k]) := by
    induction L with
    | nil => exact ⟨0, Nat.le_refl _, fun k hk => by simp at hk, fun k hk => by simp at hk⟩
    | cons a l ih =>
      have hs' := List.pairwise_cons.1 hs
      by_cases ha : key a < s
      · obtain ⟨p, h1, h2, h3⟩ := ih hs'.2
        refine ⟨p + 1, by simp; omega, fun k hk hkp => ?_, fun k hk hkp => ?_⟩
        · cases k with
          | zero => exact ha
          | succ k => exact h2 k (by simpa using hk) (by omega)
        · cases k with
          | zero => omega
          | succ k => exact h3 k (by simpa using hk) (by omega)
      · refine ⟨0, Nat.zero_le _, fun k hk hkp => by omega, fun k hk _ => ?_⟩
        cases k with
        | zero => simp; omega
        | succ k =>
          have := hs'.1 (l[k]'(by simpa using hk)) (List.getElem_mem _)
          simp only [List.getElem_cons_succ]; omega
  obtain ⟨p, h1, h2, h3⟩ := this
  rw [lbK_eq h1 h2 h3]
  exact ⟨h2, h3⟩
theorem IncK.has {L : List α} (hs : IncK key L) (s : Int) : hasK key L s = true ↔ ∃ h : lbK key L s < L.length, key L[lbK key L s] = s := by
  obtain ⟨h1, h2⟩ := hs.lb s
  unfold hasK
  rw [List.any_eq_true]
  constructor
  · rintro ⟨x, hx, he⟩
    obtain ⟨k, hk, rfl⟩ := List.mem_iff_getElem.1 hx
    have he : key L[k] = s := by simpa using he
    have hge : lbK key L s ≤ k := by
      refine Nat.le_of_not_lt fun hlt => ?_
      have := h1 k hk hlt; omega
    have hl : lbK key L s < L.length := by omega
    refine ⟨hl, ?_⟩
    have := h2 _ hl (Nat.le_refl _)
    have := hs.le hk hge
    omega
  · rintro ⟨h, he⟩
    exact ⟨_, List.getElem_mem h, decide_eq_true he⟩
theorem hasK_iff {L : List α} {s : Int} : hasK key L s = true ↔ ∃ x ∈ L, key x = s := by simp [hasK]
noncomputable def bsL (x : List α) (target : τ) (cmp : α → τ → Option Int) (st : Int × Int) : Option ((Int × Int) ⊕ Int) :=
  if st.1 < st.2 then
  if (0 : Int) ≤ 1 then
  ix x (IntKind.wrap .i64 (Int.fdiv (IntKind.wrap .u64 (IntKind.wrap .i64 (st.1 + st.2))) (2 ^ min (Int.toNat 1) (IntKind.bits .u64)))) fun y =>
  bd (cmp y target) fun rA =>
  bd (
    if rA < 0 then
    some (IntKind.wrap .i64 ((IntKind.wrap .i64 (Int.fdiv (IntKind.wrap .u64 (IntKind.wrap .i64 (st.1 + st.2))) (2 ^ min (Int.toNat 1) (IntKind.bits .u64)))) + 1), st.2)
    else
    some (st.1, IntKind.wrap .i64 (Int.fdiv (IntKind.wrap .u64 (IntKind.wrap .i64 (st.1 + st.2))) (2 ^ min (Int.toNat 1) (IntKind.bits .u64)))) : Option (Int × Int)) fun w1 =>
  some (.inl (w1.1, w1.2))
  else none
  else
  some (.inr st.1)
noncomputable def bsearch (x : List α) (target : τ) (cmp : α → τ → Option Int) : Option (Int × Bool) :=
  bd (Loop (bsL x target cmp) (0, (x.length : Int))) fun w =>
  bd (
    if w < (x.length : Int) then
    ix x w fun y1 =>
    bd (cmp y1 target) fun rA1 =>
    some (w, decide (rA1 = 0))
    else
    some (w, false) : Option (Int × Bool)) fun w2 =>
  some (w2.1, w2.2)
/-- a search in what is in order -/
theorem bsearch_eq {L : List α} {s : Int} {cmp : α → Int → Option Int} (hs : IncK key L) (hl : L.length < 2 ^ 60) (hc : ∀ a, cmp a s = some (cmp3 (key a) s)) : bsearch L s cmp = some ((lbK key L s : Int), hasK key L s) := by
  obtain ⟨hb1, hb2⟩ := hs.lb s
  have hle := lbK_le (key := key) L s
  have hloop : Loop (bsL L s cmp) (0, (L.length : Int)) = some (lbK key L s : Int) := by
    refine Gives.eq (Gives.loop (fun st => ∃ i j : Nat, st = ((i : Int), (j : Int)) ∧ i ≤ lbK key L s ∧ lbK key L s ≤ j ∧ j ≤ L.length) (fun st => (st.2 - st.1).toNat) ⟨0, L.length, rfl, Nat.zero_le _, hle, Nat.le_refl _⟩ ?_)
    rintro st ⟨i, j, rfl, hi, hj, hjl⟩
    unfold bsL
    by_cases hlt : i < j
    · have hm : (i + j) / 2 < L.length := by omega
      simp only [show ((i : Int) < (j : Int)) by omega, if_true, show ((0 : Int) ≤ 1) by decide, mid_eq (by omega : i + j < 2 ^ 62), ix_nat hm, hc, bd_s]
      by_cases hlb : (i + j) / 2 < lbK key L s
      · have hk := hb1 _ hm hlb
        have : cmp3 (key L[(i + j) / 2]) s = -1 := by simp [cmp3, hk]
        simp only [this, show ((-1 : Int) < 0) by decide, if_true, bd_s]
        rw [wrap64 (by omega) (by omega)]
        exact .mk ⟨⟨(i + j) / 2 + 1, j, by simp, by omega, hj, hjl⟩, by omega⟩
      · have hk := hb2 _ hm (by omega)
        have : ¬ cmp3 (key L[(i + j) / 2]) s < 0 := by unfold cmp3; rw [if_neg (by omega)]; split <;> omega
        simp only [this, if_false, bd_s]
        exact .mk ⟨⟨i, (i + j) / 2, rfl, hi, by omega, by omega⟩, by omega⟩
    · simp only [show ¬ ((i : Int) < (j : Int)) by omega, if_false]
      exact .mk (by show (i : Int) = (lbK key L s : Int); omega)
  unfold bsearch
  rw [hloop]
  simp only [bd_s]
  by_cases hlt : lbK key L s < L.length
  · simp only [show ((lbK key L s : Int) < (L.length : Int)) by omega, if_true, ix_nat hlt, hc, bd_s]
    have h3 := hb2 _ hlt (Nat.le_refl _)
    have : decide (cmp3 (key L[lbK key L s]) s = 0) = hasK key L s := by
      unfold cmp3
      rw [if_neg (by omega)]
      by_cases he : key L[lbK key L s] = s
      · rw [if_neg (by omega), decide_eq_true rfl, (hs.has s).2 ⟨hlt, he⟩]
      · rw [if_pos (by omega), decide_eq_false (by decide)]
        symm; rw [Bool.eq_false_iff]
        intro hh
        obtain ⟨_, hh⟩ := (hs.has s).1 hh
        exact he hh
    rw [this]
  · simp only [show ¬ ((lbK key L s : Int) < (L.length : Int)) by omega, if_false, bd_s]
    have : hasK key L s = false := by
      rw [Bool.eq_false_iff]
      intro hh
      obtain ⟨hh, _⟩ := (hs.has s).1 hh
      exact hlt hh
    rw [this]
/-- a list with one more put in its place -/
def insK (key : α → Int) (L : List α) (a : α) : List α := L.take (lbK key L (key a)) ++ [a] ++ L.drop (lbK key L (key a))
theorem tInsert_lb {L : List α} {a : α} {by' : Nat} (hb : (L.length + 1) * by' ≤ 2 ^ 46) : tInsert by' L (lbK key L (key a) : Int) [a] = some (insK key L a) := by
  unfold tInsert
  rw [if_pos]
  · rfl
  · exact ⟨by omega, by simpa using lbK_le L _, by simp, by simpa using hb⟩
theorem tClone_eq {L : List α} {by' : Nat} (h : L.length * by' ≤ 2 ^ 46) : tClone by' L = some L := if_pos h
/-- where something is like an equality, looked for place by place -/
noncomputable def eqL [DecidableEq α] (a b : List α) (st : Int) : Option (Int ⊕ (Unit ⊕ Bool)) :=
  if st < (a.length : Int) then
  ix a st fun y =>
  ix b st fun y1 =>
  if !decide (y = y1) then
  some (.inr (.inr false))
  else
  some (.inl (IntKind.wrap .i64 (st + 1)))
  else
  some (.inr (.inl ()))
theorem eqL_loop [DecidableEq α] {a b : List α} (hl : a.length = b.length) (hn : a.length < 2 ^ 60) : ∃ r, Loop (eqL a b) 0 = some r ∧ (r = .inl () ∧ a = b ∨ r = .inr false ∧ a ≠ b) := by
  refine Gives.count (fun k => (k : Int)) a.length (fun k => a.take k = b.take k) rfl rfl (fun k hk hp => ?_) (fun hp => ?_)
  · have hkb : k < b.length := by omega
    unfold eqL
    simp only [show ((k : Int) < (a.length : Int)) by omega, if_true, ix_nat hk, ix_nat hkb]
    by_cases he : a[k] = b[k]
    · simp only [he, decide_true, Bool.not_true, Bool.false_eq_true, if_false]
      rw [wrap64 (by omega) (by omega)]
      refine .mk ⟨by omega, ?_⟩
      rw [List.take_add_one, List.take_add_one, hp, List.getElem?_eq_getElem hk, List.getElem?_eq_getElem hkb, he]
    · simp only [he, decide_false, Bool.not_false, if_true]
      exact .mk (.inr ⟨rfl, fun hab => he (by subst hab; rfl)⟩)
  · unfold eqL
    simp only [show ¬ ((a.length : Int) < (a.length : Int)) by omega, if_false]
    refine .mk (.inl ⟨rfl, ?_⟩)
    have h1 : a.take a.length = a := List.take_length
    have h2 : b.take a.length = b := by rw [hl]; exact List.take_length
    rw [← h1, hp, h2]
end
section
variable {α ρ : Type}
theorem map_take_succ {β : Type} (f : α → β) {L : List α} {k : Nat} (hk : k < L.length) : (L.take (k + 1)).map f = (L.take k).map f ++ [f L[k]] := by
  rw [← List.take_append_getElem hk, List.map_append]; rfl
theorem take_succ {L : List α} {k : Nat} (hk : k < L.length) : L.take (k + 1) = L.take k ++ [L[k]] := (List.take_append_getElem hk).symm
/-- a loop that looks whether all is well, and leaves at the first that is not -/
theorem Loop_all {body : Int → Option (Int ⊕ (Unit ⊕ ρ))} (n : Nat) (p : Nat → Prop) (c : ρ) (h : ∀ k, k < n → (∀ j, j < k → p j) → (p k → body (k : Int) = some (.inl ((k + 1 : Nat) : Int))) ∧ (¬ p k → body (k : Int) = some (.inr (.inr c))))
    (he : body (n : Int) = some (.inr (.inl ()))) : Gives (Loop body 0) fun r => (r = .inl () ∧ ∀ k, k < n → p k) ∨ (r = .inr c ∧ ∃ k, k < n ∧ ¬ p k) := by
  refine Gives.count (fun k => (k : Int)) n (fun k => ∀ j, j < k → p j) rfl (fun j hj => by omega) (fun k hk hp => ?_) (fun hp => ?_)
  · by_cases hpk : p k
    · refine .of ((h k hk hp).1 hpk) ⟨rfl, fun j hj => ?_⟩
      by_cases hjk : j = k
      · subst hjk; exact hpk
      · exact hp j (by omega)
    · exact .of ((h k hk hp).2 hpk) (.inr ⟨rfl, k, hk, hpk⟩)
  · exact .of he (.inl ⟨rfl, hp⟩)
/-- a loop that looks whether something is there -/
theorem Loop_any {ρ' : Type} {body : Bool × Int → Option ((Bool × Int) ⊕ ρ')} (n : Nat) (p : Nat → Bool) (fin : Bool → ρ') (h : ∀ k b, k < n → body (b, (k : Int)) = some (.inl (b || p k, ((k + 1 : Nat) : Int)))) (he : ∀ b, body (b, (n : Int)) = some (.inr (fin b))) : Loop body (false, 0) = some (fin ((List.range n).any p)) := by
  refine Gives.eq (Gives.count (fun k => ((List.range k).any p, (k : Int))) n (fun _ => True) (by simp) trivial (fun k hk _ => ?_) (fun _ => ?_))
  · refine .of (h k _ hk) ⟨?_, trivial⟩
    rw [List.range_succ, List.any_append]; simp
  · exact .of (he _) rfl
theorem any_range {L : List α} {q : α → Bool} : (List.range L.length).any (fun k => (L[k]?).any q) = L.any q := by
  rw [Bool.eq_iff_iff, List.any_eq_true, List.any_eq_true]
  constructor
  · rintro ⟨k, hk, h⟩
    rw [List.mem_range] at hk
    rw [List.getElem?_eq_getElem hk] at h
    exact ⟨_, List.getElem_mem hk, h⟩
  · rintro ⟨a, ha, h⟩
    obtain ⟨k, hk, rfl⟩ := List.mem_iff_getElem.1 ha
    refine ⟨k, List.mem_range.2 hk, ?_⟩
    rw [List.getElem?_eq_getElem hk]; exact h
theorem Loop_same [DecidableEq α] {a b : List α} {body : Int → Option (Int ⊕ (Unit ⊕ Bool))} (hl : a.length = b.length) (h : ∀ k (ha : k < a.length) (hb : k < b.length), body (k : Int) = some (if a[k] = b[k] then .inl ((k + 1 : Nat) : Int) else .inr (.inr false)))
    (he : body (a.length : Int) = some (.inr (.inl ()))) : Loop body 0 = some (if a = b then .inl () else .inr false) := by
  obtain ⟨r, e, hr⟩ := Loop_all (body := body) a.length (fun k => a[k]? = b[k]?) false (fun k hk _ => by
    have hkb : k < b.length := by omega
    rw [List.getElem?_eq_getElem hk, List.getElem?_eq_getElem hkb, h k hk hkb]
    constructor
    · intro hh; rw [if_pos (by simpa using hh)]
    · intro hh; rw [if_neg (by simpa using hh)]) he
  rw [e]
  rcases hr with ⟨rfl, hall⟩ | ⟨rfl, k, hk, hne⟩
  · rw [if_pos]
    refine List.ext_getElem? fun k => ?_
    by_cases hk : k < a.length
    · exact hall k hk
    · rw [List.getElem?_eq_none (by omega), List.getElem?_eq_none (by omega)]
  · rw [if_neg]
    intro hab; subst hab; exact hne rfl
end
end Dn
/-
  Runs with a bound on their rounds. Conditions: none.
-/
set_option linter.unusedVariables false
namespace Dn
open Go
def LoopC {σ R : Type} (n : Nat) (body : σ → Option (Sum σ R)) (s : σ) : Option R := iter body n s
/-- what the one gives, the other gives -/
def Le {A : Type} (x y : Option A) : Prop := ∀ a, x = some a → y = some a
section
variable {A B σ ρ α : Type}
theorem Le.rfl' (x : Option A) : Le x x := fun _ h => h
theorem Le.bd {x x' : Option A} {K K' : A → Option B} (h : Le x x') (hk : ∀ a, Le (K a) (K' a)) : Le (bd x K) (bd x' K') := by
  intro b hb
  cases hx : x with
  | none => rw [hx] at hb; cases hb
  | some a => rw [hx] at hb; rw [h a hx]; exact hk a b hb
theorem Le.ite {c : Prop} [Decidable c] {x y x' y' : Option A} (h1 : Le x x') (h2 : Le y y') : Le (if c then x else y) (if c then x' else y') := by
  split
  · exact h1
  · exact h2
theorem Le.ix {l : List α} {i : Int} {K K' : α → Option A} (h : ∀ a, Le (K a) (K' a)) : Le (ix l i K) (ix l i K') := by
  unfold Dn.ix
  split
  · exact h _
  · exact Le.rfl' _
theorem Le.iter {K K' : σ → Option (Sum σ ρ)} (h : ∀ s, Le (K s) (K' s)) (n : Nat) (s : σ) : Le (iter K n s) (iter K' n s) := by
  induction n generalizing s with
  | zero => exact Le.rfl' _
  | succ n ih =>
    intro r hr
    simp only [Dn.iter] at hr ⊢
    cases hk : K s with
    | none => rw [hk] at hr; cases hr
    | some x =>
      rw [hk] at hr
      rw [h s x hk]
      cases x with
      | inl s' => exact ih s' r hr
      | inr r' => exact hr
theorem Le.loop {n : Nat} {K K' : σ → Option (Sum σ ρ)} {s : σ} (h : ∀ s, Le (K s) (K' s)) : Le (LoopC n K s) (Loop K' s) := fun r hr => Loop_of_iter (Le.iter h n s r hr)
theorem Le.sum {P Q : Type} {x : P ⊕ Q} {f f' : P → Option A} {g g' : Q → Option A} (h1 : ∀ p, Le (f p) (f' p)) (h2 : ∀ q, Le (g q) (g' q)) : Le (match x with | .inl p => f p | .inr q => g q) (match x with | .inl p => f' p | .inr q => g' q) := by
  cases x
  · exact h1 _
  · exact h2 _
end
end Dn
/-
  A state in which variables of packages have given data. Conditions: none.
-/
set_option linter.unusedVariables false
set_option linter.unusedSimpArgs false
namespace Dn
open Go
def cellsD : Nat → DataW Unit → List Value
  | n + 1, .agg ds => ds.flatMap (cellsD n)
  | _, .lit (.int k v) => [.int k v]
  | _, _ => []
def setCellsO (cs : Array Value) : Obj → Obj
  | .cells _ t z => .cells cs t z
  | o => o
def laidHeap (P : Program) : List (String × DataW Unit) → Array Obj → Array Obj
  | [], h => h
  | x :: r, h => match P.globalNamed x.1 with
    | some g => laidHeap P r (h.modify g (setCellsO (cellsD 4 x.2).toArray))
    | none => laidHeap P r h
noncomputable def laidW (P : Program) (l : List (String × DataW Unit)) (os : Os) (args : Array Value) : World :=
  { World.holding P os ⟨#[], args, []⟩ with heap := laidHeap P l (World.holding P os ⟨#[], args, []⟩).heap }
theorem and_true_of {a b : Bool} (h1 : a = true) (h2 : b = true) : (a && b) = true := by rw [h1, h2]; rfl
/-! ### a program whose head says where it is cut -/
def cutW : List Char := [99, 117, 116].map Char.ofNat
theorem hd_ok : "cut".toList = cutW := by kernel_rfl
theorem hd_gc : (cutW == "gc".toList) = false := by kernel_rfl
theorem hd_spec : (cutW == "spec".toList) = false := by kernel_rfl
theorem hd_cut : (cutW == "cut".toList) = true := by kernel_rfl
theorem hd_carried : (cutW == "carried".toList) = false := by kernel_rfl
theorem hd_neq : (cutW != "carried".toList) = true := by kernel_rfl
section
variable {P : Program} {L : List (List Char)} {ns : List Nat}
theorem head_list (h : P.initOrder = String.ofList (ns.map Char.ofNat)) : P.initOrder.toList = ns.map Char.ofNat := by rw [h, String.toList_ofList]
theorem main_of {h s : List Char} (e : wordsSigns P.initOrder.toList = h :: s :: L) (h1 : isSumSigns s = true) (h2 : (h == "harness".toList) = true) : P.mainIs = some (true, s) := by
  unfold Program.mainIs
  rw [e]
  simp only [h1, h2, Bool.not_true, Bool.false_eq_true, if_false, if_true]
theorem make_of (e : behindMainWord (wordsSigns P.initOrder.toList) = cutW :: L) : P.make = some .cut := by
  unfold Program.make
  rw [e]
  simp only [hd_gc, hd_spec, hd_cut, Bool.or_false, Bool.false_eq_true, if_false, Bool.true_or, if_true]
theorem may_of (e : behindMainWord (wordsSigns P.initOrder.toList) = cutW :: L) (h1 : (stripLifts liftWords (cutW :: L)).1 = []) (h2 : ((stripLifts liftWords (cutW :: L)).2.head? == some "cut".toList) = true)
    (h3 : P.doorFits [] = true) (h4 : P.laysLater = false) (h5 : P.bearsReflect = false) : P.mayEnter = true := by
  unfold Program.mayEnter
  rw [e]
  simp only [h1, h2, h3, h4, h5, List.contains_nil, Bool.false_or, Bool.not_false, Bool.true_and, Bool.and_true, Bool.or_true]
theorem lifts_of (e : behindMainWord (wordsSigns P.initOrder.toList) = cutW :: L) (h1 : (stripLifts liftWords (cutW :: L)).1 = []) : P.liftsFinal = false := by
  unfold Program.liftsFinal Program.headLifts
  rw [e]
  have h0 : ((cutW :: L).head? == some "carried".toList) = false := by
    simp only [List.head?_cons]
    have := hd_carried
    simpa using this
  simp only [h0, h1, Bool.false_and, Bool.false_or]
  split <;> rfl
theorem make_eq {c : OpenClaim} (h : P.make = some .cut) (hc : c.make = .cut) : (P.make == some c.make) = true := by rw [h, hc]; rfl
theorem lifts_eq {c : OpenClaim} (h : P.liftsFinal = false) (hc : c.lifted = false) : (c.lifted == P.liftsFinal) = true := by rw [h, hc]; rfl
end
end Dn
