import Derived.Test.YtjblhgpbkfmkoaaDnYD
/-
  Typed and plain functions agree. Conditions: none.
-/
open Go Dn
set_option linter.unusedVariables false
set_option linter.unusedSimpArgs false
set_option maxRecDepth 100000
namespace Dn.S
@[reducible] def v0 (r : Int × (List UInt8) × Bool) : List MV := [.i .i64 r.1, .s r.2.1, .b r.2.2]
theorem soII {A B : Type} {g : B → A} {T : Option B} {k0 k1 : IntKind} {x0 : Int} {x1 : Int} {K : Int → Int → Option A} (h : Sm g (K x0 x1) T) : Sm g (oII k0 k1 [.i k0 x0, .i k1 x1] K) T := st_gC (st_gI (st_gC (st_gI (st_gN h))))
theorem soIIBISL {A B : Type} {g : B → A} {T : Option B} {k0 k1 k3 : IntKind} {x0 : Int} {x1 : Int} {x2 : Bool} {x3 : Int} {x4 : List UInt8} {x5 : List MV} {K : Int → Int → Bool → Int → List UInt8 → List MV → Option A} (h : Sm g (K x0 x1 x2 x3 x4 x5) T) : Sm g (oIIBISL k0 k1 k3 [.i k0 x0, .i k1 x1, .b x2, .i k3 x3, .s x4, .list x5] K) T := st_gC (st_gI (st_gC (st_gI (st_gC (st_gB (st_gC (st_gI (st_gC (st_gS (st_gC (st_gL (st_gN h))))))))))))
theorem soIIIIBISLL {A B : Type} {g : B → A} {T : Option B} {k0 k1 k2 k3 k5 : IntKind} {x0 : Int} {x1 : Int} {x2 : Int} {x3 : Int} {x4 : Bool} {x5 : Int} {x6 : List UInt8} {x7 : List MV} {x8 : List MV} {K : Int → Int → Int → Int → Bool → Int → List UInt8 → List MV → List MV → Option A} (h : Sm g (K x0 x1 x2 x3 x4 x5 x6 x7 x8) T) : Sm g (oIIIIBISLL k0 k1 k2 k3 k5 [.i k0 x0, .i k1 x1, .i k2 x2, .i k3 x3, .b x4, .i k5 x5, .s x6, .list x7, .list x8] K) T := st_gC (st_gI (st_gC (st_gI (st_gC (st_gI (st_gC (st_gI (st_gC (st_gB (st_gC (st_gI (st_gC (st_gS (st_gC (st_gL (st_gC (st_gL (st_gN h))))))))))))))))))
theorem soIIS {A B : Type} {g : B → A} {T : Option B} {k0 k1 : IntKind} {x0 : Int} {x1 : Int} {x2 : List UInt8} {K : Int → Int → List UInt8 → Option A} (h : Sm g (K x0 x1 x2) T) : Sm g (oIIS k0 k1 [.i k0 x0, .i k1 x1, .s x2] K) T := st_gC (st_gI (st_gC (st_gI (st_gC (st_gS (st_gN h))))))
theorem soISB {A B : Type} {g : B → A} {T : Option B} {k0 : IntKind} {x0 : Int} {x1 : List UInt8} {x2 : Bool} {K : Int → List UInt8 → Bool → Option A} (h : Sm g (K x0 x1 x2) T) : Sm g (oISB k0 [.i k0 x0, .s x1, .b x2] K) T := st_gC (st_gI (st_gC (st_gS (st_gC (st_gB (st_gN h))))))
theorem eL21Votes (lA : List ApiAccept) : Sm MV.b (dL21Votes (.list (lA.map encApiAccept))) (tL21Votes lA) := by
  unfold dL21Votes tL21Votes
  refine st_gL ?_
  refine st_bd (st_loop (fun r => [.i .i64 r]) (Sum.elim (fun r => (2, [])) (fun r => (1, [.b r]))) (rfl) fun st => ?_) fun w => ?_
  · unfold tL21VotesL1
    refine st_gC (st_gI (st_gN (st_len (n := lA.length) (by simp only [List.length_map, List.length_cons, List.length_nil]) ?_)))
    refine st_if ?_ ?_
    · refine st_bd (f := fun r => [.b r]) ?_ fun w1 => ?_
      · refine st_if ?_ ?_
        · exact st_some (rfl)
        · refine st_idx (f := encApiAccept) (rfl) fun y => ?_
          refine st_gA (soIIS ?_)
          exact st_some (rfl)
      · refine st_gC (st_gB (st_gN ?_))
        refine st_ifb ?_ ?_
        · exact st_some (rfl)
        · exact st_some (rfl)
    · exact st_some (rfl)
  · rcases w with p1 | p2
    · refine st_ifT rfl (st_gN ?_)
      exact st_some (rfl)
    · refine st_ifF rfl (st_tt rfl (st_gC (st_gB (st_gN ?_))))
      exact st_some (rfl)
theorem eL21Few (a : AcceptorAcceptor) : Sm MV.b (dL21Few (encAcceptorAcceptor a)) (tL21Few a) := by
  unfold dL21Few tL21Few
  refine st_gA (soIIIIBISLL ?_)
  refine st_bd (f := fun r => [.b r]) ?_ fun w => ?_
  · refine st_if ?_ ?_
    · refine st_bd (eL21Votes a.Proof) fun rA => ?_
      refine st_gB ?_
      refine st_ifb ?_ ?_
      · refine st_bd (eL21Votes a.Votes.L) fun rA1 => ?_
        refine st_gB ?_
        exact st_some (rfl)
      · exact st_some (rfl)
    · exact st_some (rfl)
  · refine st_gC (st_gB (st_gN ?_))
    exact st_some (rfl)
theorem eSizeSizePair (sA : SizeSize) : Sm (fun x : Nat × Nat => MV.raw (.complex .f64 x.1 x.2)) (dSizeSizePair (encSizeSize sA)) (tSizeSizePair sA) := by
  unfold dSizeSizePair tSizeSizePair
  refine st_gA (soII ?_)
  exact st_some (rfl)
theorem eSizeSizeOf (sA : SizeSize) (times : Nat × Nat) : Sm (MV.i .i64) (dSizeSizeOf (encSizeSize sA) (.raw (.complex .f64 times.1 times.2))) (tSizeSizeOf sA times) := by
  unfold dSizeSizeOf tSizeSizeOf
  refine st_gA (soII (st_gRr ?_))
  refine st_bd (eSizeSizePair sA) fun rA => ?_
  refine st_gRr (st_gCx (st_gCx ?_))
  refine st_same fun f => ?_
  refine st_gCx (st_gCx ?_)
  refine st_same fun f1 => ?_
  refine st_same fun f2 => ?_
  refine st_same fun n => ?_
  refine st_chk ?_
  exact st_some (rfl)
theorem eSizeN (sA : SizeSize) : Sm (MV.i .i64) (dSizeN (encSizeSize sA)) (tSizeN sA) := by
  unfold dSizeN tSizeN
  refine st_gA (soII ?_)
  refine st_bd (eSizeSizeOf sA (4613937818241073152, 4611686018427387904)) fun rA => ?_
  refine st_gI ?_
  exact st_some (rfl)
theorem eSizeRight (sA : SizeSize) : Sm MV.b (dSizeRight (encSizeSize sA)) (tSizeRight sA) := by
  unfold dSizeRight tSizeRight
  refine st_gA (soII ?_)
  refine st_bd (f := fun r => [.b r]) ?_ fun w => ?_
  · refine st_if ?_ ?_
    · refine st_if ?_ ?_
      · refine st_if ?_ ?_
        · exact st_some (rfl)
        · exact st_some (rfl)
      · exact st_some (rfl)
    · exact st_some (rfl)
  · refine st_gC (st_gB (st_gN ?_))
    exact st_some (rfl)
theorem eAcceptorNew (sA : SizeSize) (me : Int) : Sm (fun r => .tup [encAcceptorAcceptor r.1, .i .i64 r.2]) (dAcceptorNew (encSizeSize sA) (.i .i64 me)) (tAcceptorNew sA me) := by
  unfold dAcceptorNew tAcceptorNew
  refine st_gA (soII (st_gI ?_))
  refine st_bd (f := fun r => [.b r]) ?_ fun w => ?_
  · refine st_bd (eSizeRight sA) fun rA => ?_
    refine st_gB ?_
    refine st_ifb ?_ ?_
    · exact st_some (rfl)
    · refine st_if ?_ ?_
      · exact st_some (rfl)
      · refine st_bd (eSizeN sA) fun rA1 => ?_
        refine st_gI ?_
        exact st_some (rfl)
  · refine st_gC (st_gB (st_gN ?_))
    refine st_ifb ?_ ?_
    · exact st_some (rfl)
    · exact st_some (rfl)
theorem eAcceptorTell (a : AcceptorAcceptor) : Sm encApiReport (dAcceptorTell (encAcceptorAcceptor a)) (tAcceptorTell a) := by
  unfold dAcceptorTell tAcceptorTell
  refine st_gA (soIIIIBISLL ?_)
  exact st_some (rfl)
theorem eAcceptorEnter (a : AcceptorAcceptor) (view : Int) : Sm (fun r => .tup [encAcceptorAcceptor r.1, encApiReport r.2.1, .b r.2.2]) (dAcceptorEnter (encAcceptorAcceptor a) (.i .i64 view)) (tAcceptorEnter a view) := by
  unfold dAcceptorEnter tAcceptorEnter
  refine st_gA (soIIIIBISLL (st_gI ?_))
  refine st_bd (f := fun r => [.b r]) ?_ fun w => ?_
  · refine st_if ?_ ?_
    · exact st_some (rfl)
    · exact st_some (rfl)
  · refine st_gC (st_gB (st_gN ?_))
    refine st_ifb ?_ ?_
    · exact st_some (rfl)
    · refine st_bd (eAcceptorTell (⟨a.S, a.Me, view, a.Has, a.At, a.Value, a.Proof, (⟨([] : List ApiAccept)⟩ : TallyTally)⟩ : AcceptorAcceptor)) fun rA => ?_
      refine st_gA (soIIBISL ?_)
      exact st_some (rfl)
theorem eSizeMost (sA : SizeSize) : Sm (MV.i .i64) (dSizeMost (encSizeSize sA)) (tSizeMost sA) := by
  unfold dSizeMost tSizeMost
  refine st_gA (soII ?_)
  refine st_bd (eSizeSizeOf sA (4611686018427387904, 4611686018427387904)) fun rA => ?_
  refine st_gI ?_
  exact st_some (rfl)
theorem eSizeProof (sA : SizeSize) : Sm (MV.i .i64) (dSizeProof (encSizeSize sA)) (tSizeProof sA) := by
  unfold dSizeProof tSizeProof
  refine st_gA (soII ?_)
  refine st_bd (eSizeSizeOf sA (4611686018427387904, 4607182418800017408)) fun rA => ?_
  refine st_gI ?_
  exact st_some (rfl)
theorem eTallyMay (a : ApiAccept) : Sm MV.b (dTallyMay (encApiAccept a)) (tTallyMay a) := by
  unfold dTallyMay tTallyMay
  refine st_gA (soIIS ?_)
  refine st_bd (f := fun r => [.b r]) ?_ fun w => ?_
  · refine st_if ?_ ?_
    · refine st_if ?_ ?_
      · refine st_if ?_ ?_
        · exact st_some (rfl)
        · exact st_some (rfl)
      · exact st_some (rfl)
    · exact st_some (rfl)
  · refine st_gC (st_gB (st_gN ?_))
    exact st_some (rfl)
theorem eTallyRight (t : TallyTally) : Sm MV.b (dTallyRight (encTallyTally t)) (tTallyRight t) := by
  unfold dTallyRight tTallyRight
  refine st_gA (st_gC (st_gL (st_gN (st_len (n := t.L.length) (by simp only [List.length_map, List.length_cons, List.length_nil]) ?_))))
  refine st_bd (st_loop (fun r => [.i .i64 r]) (Sum.elim (fun r => (2, [])) (fun r => (1, [.b r]))) (rfl) fun st => ?_) fun w => ?_
  · unfold tTallyRightL1
    refine st_gC (st_gI (st_gN ?_))
    refine st_if ?_ ?_
    · refine st_idx (f := encApiAccept) (rfl) fun y => ?_
      refine st_gA (soIIS ?_)
      refine st_bd (f := fun r => [.b r]) ?_ fun w1 => ?_
      · refine st_bd (eTallyMay y) fun rA => ?_
        refine st_gB ?_
        refine st_ifb ?_ ?_
        · exact st_some (rfl)
        · refine st_if ?_ ?_
          · refine st_idx (f := encApiAccept) (rfl) fun y1 => ?_
            refine st_gA (soIIS ?_)
            exact st_some (rfl)
          · exact st_some (rfl)
      · refine st_gC (st_gB (st_gN ?_))
        refine st_ifb ?_ ?_
        · exact st_some (rfl)
        · exact st_some (rfl)
    · exact st_some (rfl)
  · rcases w with p1 | p2
    · refine st_ifT rfl (st_gN ?_)
      exact st_some (rfl)
    · refine st_ifF rfl (st_tt rfl (st_gC (st_gB (st_gN ?_))))
      exact st_some (rfl)
theorem eTallyVoters (t : TallyTally) (view : Int) (value : List UInt8) : Sm (encL encApiAccept) (dTallyVoters (encTallyTally t) (.i .i64 view) (.s value)) (tTallyVoters t view value) := by
  unfold dTallyVoters tTallyVoters
  refine st_gA (st_gC (st_gL (st_gN (st_gI (st_gS (st_len (n := t.L.length) (by simp only [List.length_map, List.length_cons, List.length_nil]) ?_))))))
  refine st_bd (st_loop (fun r => [.list (r.1.map encApiAccept), .i .i64 r.2]) (fun r => (2, [.list (r.map encApiAccept)])) (rfl) fun st => ?_) fun w => ?_
  · unfold tTallyVotersL1
    refine st_gC (st_gL (st_gC (st_gI (st_gN ?_))))
    refine st_if ?_ ?_
    · refine st_idx (f := encApiAccept) (rfl) fun y => ?_
      refine st_gA (soIIS ?_)
      refine st_bd (f := fun r => [.b r]) ?_ fun w1 => ?_
      · refine st_if ?_ ?_
        · exact st_some (rfl)
        · exact st_some (rfl)
      · refine st_gC (st_gB (st_gN ?_))
        refine st_bd (f := (fun r => (0, [.list (r.map encApiAccept)]))) ?_ fun w2 => ?_
        · refine st_ifb ?_ ?_
          · refine st_len (n := st.1.length) (by simp only [List.length_map, List.length_cons, List.length_nil]) (st_len (n := ([y] : List ApiAccept).length) (by simp only [List.length_map, List.length_cons, List.length_nil]) (st_chk ?_))
            exact st_some (by simp)
          · exact st_some (rfl)
        · refine st_tt rfl (st_gC (st_gL (st_gN ?_)))
          exact st_some (rfl)
    · exact st_some (rfl)
  · refine st_tt rfl (st_gC (st_gL (st_gN ?_)))
    exact st_some (rfl)
theorem eTallyCount (t : TallyTally) (view : Int) (value : List UInt8) : Sm (MV.i .i64) (dTallyCount (encTallyTally t) (.i .i64 view) (.s value)) (tTallyCount t view value) := by
  unfold dTallyCount tTallyCount
  refine st_gA (st_gC (st_gL (st_gN (st_gI (st_gS ?_)))))
  refine st_bd (eTallyVoters t view value) fun rA => ?_
  refine st_gL (st_len (n := rA.length) (by simp only [List.length_map, List.length_cons, List.length_nil]) ?_)
  exact st_some (rfl)
theorem eProofRight (sA : SizeSize) (p : List ApiAccept) : Sm MV.b (dProofRight (encSizeSize sA) (.list (p.map encApiAccept))) (tProofRight sA p) := by
  unfold dProofRight tProofRight
  refine st_gA (soII (st_gL ?_))
  refine st_bd (f := fun r => [.b r]) ?_ fun w => ?_
  · refine st_bd (eSizeRight sA) fun rA => ?_
    refine st_gB ?_
    refine st_ifb ?_ ?_
    · exact st_some (rfl)
    · refine st_len (n := p.length) (by simp only [List.length_map, List.length_cons, List.length_nil]) ?_
      refine st_bd (eSizeProof sA) fun rA1 => ?_
      refine st_gI ?_
      refine st_ifb ?_ ?_
      · exact st_some (rfl)
      · refine st_bd (eTallyRight (⟨p⟩ : TallyTally)) fun rA2 => ?_
        refine st_gB ?_
        exact st_some (rfl)
  · refine st_gC (st_gB (st_gN ?_))
    refine st_ifb ?_ ?_
    · exact st_some (rfl)
    · refine st_bd (f := fun r => [.b r]) ?_ fun w1 => ?_
      · refine st_len (n := p.length) (by simp only [List.length_map, List.length_cons, List.length_nil]) ?_
        refine st_idx (f := encApiAccept) (rfl) fun y => ?_
        refine st_gA (soIIS ?_)
        refine st_bd (eSizeN sA) fun rA3 => ?_
        refine st_gI ?_
        refine st_if ?_ ?_
        · refine st_idx (f := encApiAccept) (rfl) fun y1 => ?_
          refine st_gA (soIIS ?_)
          refine st_idx (f := encApiAccept) (rfl) fun y2 => ?_
          refine st_gA (soIIS (st_len (n := p.length) (by simp only [List.length_map, List.length_cons, List.length_nil]) ?_))
          refine st_bd (eTallyCount (⟨p⟩ : TallyTally) y1.View y2.Value) fun rA4 => ?_
          refine st_gI ?_
          exact st_some (rfl)
        · exact st_some (rfl)
      · refine st_gC (st_gB (st_gN ?_))
        exact st_some (rfl)
theorem eProofOf (p : List ApiAccept) : Sm (fun r => .tup (v0 r)) (dProofOf (.list (p.map encApiAccept))) (tProofOf p) := by
  unfold dProofOf tProofOf
  refine st_gL (st_len (n := p.length) (by simp only [List.length_map, List.length_cons, List.length_nil]) ?_)
  refine st_if ?_ ?_
  · exact st_some (rfl)
  · refine st_idx (f := encApiAccept) (rfl) fun y => ?_
    refine st_gA (soIIS ?_)
    refine st_idx (f := encApiAccept) (rfl) fun y1 => ?_
    refine st_gA (soIIS ?_)
    exact st_some (rfl)
theorem eReportProved (rA : ApiReport) : Sm (MV.i .i64) (dReportProved (encApiReport rA)) (tReportProved rA) := by
  unfold dReportProved tReportProved
  refine st_gA (soIIBISL ?_)
  refine st_bd (eProofOf rA.Proof) fun rA1 => ?_
  refine st_gT (soISB ?_)
  refine st_ifb ?_ ?_
  · exact st_some (rfl)
  · exact st_some (rfl)
theorem eReportMay (a : SizeSize) (a1 : ApiReport) : Sm MV.b (dReportMay (encSizeSize a) (encApiReport a1)) (tReportMay a a1) := by
  unfold dReportMay tReportMay
  refine st_gA (soII (st_gA (soIIBISL ?_)))
  refine st_bd (f := fun r => [.b r]) ?_ fun w => ?_
  · refine st_bd (eSizeRight a) fun rA => ?_
    refine st_gB ?_
    refine st_ifb ?_ ?_
    · exact st_some (rfl)
    · refine st_if ?_ ?_
      · exact st_some (rfl)
      · refine st_bd (eSizeN a) fun rA1 => ?_
        refine st_gI ?_
        refine st_if ?_ ?_
        · exact st_some (rfl)
        · refine st_if ?_ ?_
          · exact st_some (rfl)
          · exact st_some (rfl)
  · refine st_gC (st_gB (st_gN ?_))
    refine st_ifb ?_ ?_
    · exact st_some (rfl)
    · refine st_bd (f := fun r => [.b r]) ?_ fun w1 => ?_
      · refine st_ifb ?_ ?_
        · refine st_ifb ?_ ?_
          · exact st_some (rfl)
          · exact st_some (rfl)
        · exact st_some (rfl)
      · refine st_gC (st_gB (st_gN ?_))
        refine st_ifb ?_ ?_
        · exact st_some (rfl)
        · refine st_bd (f := fun r => [.b r]) ?_ fun w2 => ?_
          · refine st_ifb ?_ ?_
            · refine st_if ?_ ?_
              · exact st_some (rfl)
              · refine st_if ?_ ?_
                · exact st_some (rfl)
                · exact st_some (rfl)
            · exact st_some (rfl)
          · refine st_gC (st_gB (st_gN ?_))
            refine st_ifb ?_ ?_
            · exact st_some (rfl)
            · refine st_bd (f := fun r => [.b r]) ?_ fun w3 => ?_
              · refine st_len (n := a1.Proof.length) (by simp only [List.length_map, List.length_cons, List.length_nil]) ?_
                refine st_if ?_ ?_
                · exact st_some (rfl)
                · refine st_bd (eProofRight a a1.Proof) fun rA2 => ?_
                  refine st_gB ?_
                  refine st_ifb ?_ ?_
                  · refine st_bd (eReportProved a1) fun rA3 => ?_
                    refine st_gI ?_
                    exact st_some (rfl)
                  · exact st_some (rfl)
              · refine st_gC (st_gB (st_gN ?_))
                exact st_some (rfl)
theorem eReportRight (sA : SizeSize) (view : Int) (lA : List ApiReport) : Sm MV.b (dReportRight (encSizeSize sA) (.i .i64 view) (.list (lA.map encApiReport))) (tReportRight sA view lA) := by
  unfold dReportRight tReportRight
  refine st_gA (soII (st_gI (st_gL ?_)))
  refine st_bd (f := fun r => [.b r]) ?_ fun w => ?_
  · refine st_bd (eSizeRight sA) fun rA => ?_
    refine st_gB ?_
    refine st_ifb ?_ ?_
    · exact st_some (rfl)
    · refine st_len (n := lA.length) (by simp only [List.length_map, List.length_cons, List.length_nil]) ?_
      refine st_bd (eSizeMost sA) fun rA1 => ?_
      refine st_gI ?_
      exact st_some (rfl)
  · refine st_gC (st_gB (st_gN ?_))
    refine st_ifb ?_ ?_
    · exact st_some (rfl)
    · refine st_len (n := lA.length) (by simp only [List.length_map, List.length_cons, List.length_nil]) ?_
      refine st_bd (st_loop (fun r => [.i .i64 r.1, .i .i64 r.2]) (Sum.elim (fun r => (2, [])) (fun r => (1, [.b r]))) (rfl) fun st => ?_) fun w1 => ?_
      · unfold tReportRightL1
        refine soII ?_
        refine st_if ?_ ?_
        · refine st_idx (f := encApiReport) (rfl) fun y => ?_
          refine st_gA (soIIBISL ?_)
          refine st_bd (f := fun r => [.b r]) ?_ fun w2 => ?_
          · refine st_bd (eReportMay sA y) fun rA2 => ?_
            refine st_gB ?_
            refine st_ifb ?_ ?_
            · exact st_some (rfl)
            · refine st_ifb ?_ ?_
              · exact st_some (rfl)
              · exact st_some (rfl)
          · refine st_gC (st_gB (st_gN ?_))
            refine st_ifb ?_ ?_
            · exact st_some (rfl)
            · exact st_some (rfl)
        · exact st_some (rfl)
      · rcases w1 with p1 | p2
        · refine st_ifT rfl (st_gN ?_)
          exact st_some (rfl)
        · refine st_ifF rfl (st_tt rfl (st_gC (st_gB (st_gN ?_))))
          exact st_some (rfl)
theorem eSizeVouch (sA : SizeSize) : Sm (MV.i .i64) (dSizeVouch (encSizeSize sA)) (tSizeVouch sA) := by
  unfold dSizeVouch tSizeVouch
  refine st_gA (soII ?_)
  refine st_bd (eSizeSizeOf sA (4607182418800017408, 4607182418800017408)) fun rA => ?_
  refine st_gI ?_
  exact st_some (rfl)
theorem eReportBinds (a : SizeSize) (a1 : List ApiReport) : Sm (fun r => .tup [.s r.1, .b r.2]) (dReportBinds (encSizeSize a) (.list (a1.map encApiReport))) (tReportBinds a a1) := by
  unfold dReportBinds tReportBinds
  refine st_gA (soII (st_gL (st_len (n := a1.length) (by simp only [List.length_map, List.length_cons, List.length_nil]) ?_)))
  refine st_bd (st_loop (fun r => [.i .i64 r.1, .s r.2.1, .i .i64 r.2.2]) (fun r => (2, [.i .i64 r.1, .s r.2])) (rfl) fun st => ?_) fun w => ?_
  · unfold tReportBindsL1
    refine st_gC (st_gI (st_gC (st_gS (st_gC (st_gI (st_gN ?_))))))
    refine st_if ?_ ?_
    · refine st_idx (f := encApiReport) (rfl) fun y => ?_
      refine st_gA (soIIBISL ?_)
      refine st_bd (eReportProved y) fun rA => ?_
      refine st_gI ?_
      refine st_bd (f := (fun r => (0, [.i .i64 r.1, .s r.2]))) ?_ fun w1 => ?_
      · refine st_if ?_ ?_
        · refine st_idx (f := encApiAccept) (rfl) fun y1 => ?_
          refine st_gA (soIIS ?_)
          exact st_some (rfl)
        · exact st_some (rfl)
      · refine st_tt rfl (st_gC (st_gI (st_gC (st_gS (st_gN ?_)))))
        exact st_some (rfl)
    · exact st_some (rfl)
  · refine st_tt rfl (st_gC (st_gI (st_gC (st_gS (st_gN (st_len (n := a1.length) (by simp only [List.length_map, List.length_cons, List.length_nil]) ?_))))))
    refine st_bd (st_loop (fun r => [.list r.1, .i .i64 r.2]) (fun r => (4, [.list r])) (rfl) fun st1 => ?_) fun w2 => ?_
    · unfold tReportBindsL2
      refine st_gC (st_gL (st_gC (st_gI (st_gN ?_))))
      refine st_if ?_ ?_
      · refine st_idx (f := encApiReport) (rfl) fun y2 => ?_
        refine st_gA (soIIBISL ?_)
        refine st_bd (f := fun r => [.b r]) ?_ fun w3 => ?_
        · refine st_ifb ?_ ?_
          · exact st_some (rfl)
          · exact st_some (rfl)
        · refine st_gC (st_gB (st_gN ?_))
          refine st_bd (f := (fun r => (0, [.list r]))) ?_ fun w4 => ?_
          · refine st_ifb ?_ ?_
            · exact st_some (rfl)
            · exact st_some (rfl)
          · refine st_tt rfl (st_gC (st_gL (st_gN ?_)))
            exact st_some (rfl)
      · exact st_some (rfl)
    · refine st_tt rfl (st_gC (st_gL (st_gN ?_)))
      refine st_bd (st_range (e := id) (f := (Sum.elim (fun r => (6, [])) (fun r => (1, [.s r.1, .b r.2])))) (List.map_id _).symm ?_ fun m29 => ?_) fun w5 => ?_
      · exact st_some (rfl)
      · unfold tReportBindsL3
        refine st_ent fun key n => ?_
        refine st_bd (eSizeVouch a) fun rA1 => ?_
        refine st_gI ?_
        refine st_if ?_ ?_
        · exact st_some (rfl)
        · exact st_some rfl
      · rcases w5 with p5 | p6
        · refine st_ifT rfl (st_gN ?_)
          exact st_some (rfl)
        · refine st_ifF rfl (st_tt rfl (st_gC (st_gS (st_gC (st_gB (st_gN ?_))))))
          exact st_some (rfl)
theorem eReportVouches (sA : SizeSize) (view : Int) (lA : List ApiReport) (value : List UInt8) : Sm MV.b (dReportVouches (encSizeSize sA) (.i .i64 view) (.list (lA.map encApiReport)) (.s value)) (tReportVouches sA view lA value) := by
  unfold dReportVouches tReportVouches
  refine st_gA (soII (st_gI (st_gL (st_gS ?_))))
  refine st_bd (eReportRight sA view lA) fun rA => ?_
  refine st_gB ?_
  refine st_ifb ?_ ?_
  · exact st_some (rfl)
  · refine st_bd (eReportBinds sA lA) fun rA1 => ?_
    refine st_gT (st_gC (st_gS (st_gC (st_gB (st_gN ?_)))))
    refine st_bd (f := fun r => [.b r]) ?_ fun w => ?_
    · refine st_ifb ?_ ?_
      · exact st_some (rfl)
      · exact st_some (rfl)
    · refine st_gC (st_gB (st_gN ?_))
      exact st_some (rfl)
theorem eAcceptorPropose (a : AcceptorAcceptor) (view : Int) (value : List UInt8) (cert : List ApiReport) : Sm (fun r => .tup [encAcceptorAcceptor r.1, encApiAccept r.2.1, .b r.2.2]) (dAcceptorPropose (encAcceptorAcceptor a) (.i .i64 view) (.s value) (.list (cert.map encApiReport))) (tAcceptorPropose a view value cert) := by
  unfold dAcceptorPropose tAcceptorPropose
  refine st_gA (soIIIIBISLL (st_gI (st_gS (st_gL ?_))))
  refine st_bd (f := fun r => [.b r]) ?_ fun w => ?_
  · refine st_ifb ?_ ?_
    · exact st_some (rfl)
    · refine st_ifb ?_ ?_
      · refine st_if ?_ ?_
        · exact st_some (rfl)
        · exact st_some (rfl)
      · exact st_some (rfl)
  · refine st_gC (st_gB (st_gN ?_))
    refine st_ifb ?_ ?_
    · exact st_some (rfl)
    · refine st_bd (f := fun r => [.b r]) ?_ fun w1 => ?_
      · refine st_if ?_ ?_
        · refine st_len (n := cert.length) (by simp only [List.length_map, List.length_cons, List.length_nil]) ?_
          exact st_some (rfl)
        · exact st_some (rfl)
      · refine st_gC (st_gB (st_gN ?_))
        refine st_bd (f := (Sum.elim (fun r => (1, [.i .i64 r.1, .i .i64 r.2.1, .i .i64 r.2.2.1, .i .i64 r.2.2.2.1, .b r.2.2.2.2.1, .i .i64 r.2.2.2.2.2.1, .s r.2.2.2.2.2.2.1, .list (r.2.2.2.2.2.2.2.1.map encApiAccept), .list (r.2.2.2.2.2.2.2.2.1.map encApiAccept), .i .i64 r.2.2.2.2.2.2.2.2.2.1, .i .i64 r.2.2.2.2.2.2.2.2.2.2.1, .s r.2.2.2.2.2.2.2.2.2.2.2.1, .b r.2.2.2.2.2.2.2.2.2.2.2.2])) (fun r => (0, [.i .i64 r.1, .i .i64 r.2.1, .i .i64 r.2.2.1, .i .i64 r.2.2.2.1, .b r.2.2.2.2.1, .i .i64 r.2.2.2.2.2.1, .s r.2.2.2.2.2.2.1, .list (r.2.2.2.2.2.2.2.1.map encApiAccept), .list (r.2.2.2.2.2.2.2.2.1.map encApiAccept), .i .i64 r.2.2.2.2.2.2.2.2.2.1, .i .i64 r.2.2.2.2.2.2.2.2.2.2.1, .s r.2.2.2.2.2.2.2.2.2.2.2])))) ?_ fun w2 => ?_
        · refine st_ifb ?_ ?_
          · exact st_some (rfl)
          · refine st_bd (eReportVouches a.S view cert value) fun rA => ?_
            refine st_gB ?_
            refine st_ifb ?_ ?_
            · exact st_some (rfl)
            · exact st_some (rfl)
        · rcases w2 with p1 | p2
          · refine st_ifT rfl (st_gC (st_gI (st_gC (st_gI (st_gC (st_gI (st_gC (st_gI (st_gC (st_gB (st_gC ?_)))))))))))
            refine st_gI (st_gC (st_gS (st_gC (st_gL (st_gC (st_gL (st_gC (st_gI (soISB ?_)))))))))
            exact st_some (rfl)
          · refine st_ifF rfl (st_tt rfl (st_gC (st_gI (st_gC (st_gI (st_gC (st_gI (st_gC (st_gI (st_gC (st_gB ?_)))))))))))
            refine st_gC (st_gI (st_gC (st_gS (st_gC (st_gL (st_gC (st_gL (soIIS ?_))))))))
            exact st_some (rfl)
theorem eL21Alive : Sm MV.b (dL21Alive) (tL21Alive) := by
  unfold dL21Alive tL21Alive
  refine st_bd (eAcceptorNew (⟨1, 0⟩ : SizeSize) 2) fun rA => ?_
  refine st_gT (st_gC (st_gA (soIIIIBISLL (st_gC (st_gI (st_gN ?_))))))
  refine st_bd (eAcceptorPropose rA.1 0 ([120] : List UInt8) ([] : List ApiReport)) fun rA1 => ?_
  refine st_gT (st_gC (st_gA (soIIIIBISLL (st_gC (st_gA (soIIS (st_gC (st_gB (st_gN ?_)))))))))
  refine st_bd (eAcceptorPropose rA1.1 0 ([121] : List UInt8) ([] : List ApiReport)) fun rA2 => ?_
  refine st_gT (st_gC (st_gA (soIIIIBISLL (st_gC (st_gA (soIIS (st_gC (st_gB (st_gN ?_)))))))))
  refine st_bd (eAcceptorEnter rA1.1 3) fun rA3 => ?_
  refine st_gT (st_gC (st_gA (soIIIIBISLL (st_gC (st_gA (soIIBISL (st_gC (st_gB (st_gN ?_)))))))))
  refine st_bd (f := fun r => [.b r]) ?_ fun w => ?_
  · refine st_if ?_ ?_
    · refine st_ifb ?_ ?_
      · refine st_ifb ?_ ?_
        · refine st_ifb ?_ ?_
          · refine st_if ?_ ?_
            · refine st_if ?_ ?_
              · refine st_if ?_ ?_
                · refine st_if ?_ ?_
                  · exact st_some (rfl)
                  · exact st_some (rfl)
                · exact st_some (rfl)
              · exact st_some (rfl)
            · exact st_some (rfl)
          · exact st_some (rfl)
        · exact st_some (rfl)
      · exact st_some (rfl)
    · exact st_some (rfl)
  · refine st_gC (st_gB (st_gN ?_))
    exact st_some (rfl)
theorem eR07Right (sA : R07Size) : Sm MV.b (dR07Right (encR07Size sA)) (tR07Right sA) := by
  unfold dR07Right tR07Right
  refine st_gA (soII ?_)
  refine st_bd (f := fun r => [.b r]) ?_ fun w => ?_
  · refine st_if ?_ ?_
    · refine st_if ?_ ?_
      · refine st_if ?_ ?_
        · exact st_some (rfl)
        · exact st_some (rfl)
      · exact st_some (rfl)
    · exact st_some (rfl)
  · refine st_gC (st_gB (st_gN ?_))
    exact st_some (rfl)
theorem eR07N (sA : R07Size) : Sm (MV.i .i64) (dR07N (encR07Size sA)) (tR07N sA) := by
  unfold dR07N tR07N
  refine st_gA (soII ?_)
  exact st_some (rfl)
theorem eR21New (sA : R07Size) (me : Int) : Sm (fun r => .tup [encR21Acceptor r.1, .i .i64 r.2]) (dR21New (encR07Size sA) (.i .i64 me)) (tR21New sA me) := by
  unfold dR21New tR21New
  refine st_gA (soII (st_gI ?_))
  refine st_bd (f := fun r => [.b r]) ?_ fun w => ?_
  · refine st_bd (eR07Right sA) fun rA => ?_
    refine st_gB ?_
    refine st_ifb ?_ ?_
    · exact st_some (rfl)
    · refine st_if ?_ ?_
      · exact st_some (rfl)
      · refine st_bd (eR07N sA) fun rA1 => ?_
        refine st_gI ?_
        exact st_some (rfl)
  · refine st_gC (st_gB (st_gN ?_))
    refine st_ifb ?_ ?_
    · exact st_some (rfl)
    · exact st_some (rfl)
theorem eL21Sized (sA : SizeSize) : Sm encR07Size (dL21Sized (encSizeSize sA)) (tL21Sized sA) := by
  unfold dL21Sized tL21Sized
  refine st_gA (soII ?_)
  exact st_some (rfl)
theorem eR18Same (a : List ApiAccept) (b : List ApiAccept) : Sm MV.b (dR18Same (.list (a.map encApiAccept)) (.list (b.map encApiAccept))) (tR18Same a b) := by
  unfold dR18Same tR18Same
  refine st_gL (st_gL (st_len (n := a.length) (by simp only [List.length_map, List.length_cons, List.length_nil]) (st_len (n := b.length) (by simp only [List.length_map, List.length_cons, List.length_nil]) ?_)))
  refine st_ifb ?_ ?_
  · exact st_some (rfl)
  · refine st_bd (st_loop (fun r => [.i .i64 r]) (Sum.elim (fun r => (2, [])) (fun r => (1, [.b r]))) (rfl) fun st => ?_) fun w => ?_
    · unfold tR18SameL1
      refine st_gC (st_gI (st_gN (st_len (n := a.length) (by simp only [List.length_map, List.length_cons, List.length_nil]) ?_)))
      refine st_if ?_ ?_
      · refine st_idx (f := encApiAccept) (rfl) fun y => ?_
        refine st_gA (soIIS ?_)
        refine st_idx (f := encApiAccept) (rfl) fun y1 => ?_
        refine st_gA (soIIS ?_)
        refine st_ifb ?_ ?_
        · exact st_some (rfl)
        · exact st_some (rfl)
      · exact st_some (rfl)
    · rcases w with p1 | p2
      · refine st_ifT rfl (st_gN ?_)
        exact st_some (rfl)
      · refine st_ifF rfl (st_tt rfl (st_gC (st_gB (st_gN ?_))))
        exact st_some (rfl)
theorem eR21Same (a : R21Acceptor) (b : R21Acceptor) : Sm MV.b (dR21Same (encR21Acceptor a) (encR21Acceptor b)) (tR21Same a b) := by
  unfold dR21Same tR21Same
  refine st_gA (soIIIIBISLL (st_gA (soIIIIBISLL ?_)))
  refine st_bd (f := fun r => [.b r]) ?_ fun w => ?_
  · refine st_ifb ?_ ?_
    · refine st_if ?_ ?_
      · refine st_if ?_ ?_
        · refine st_if ?_ ?_
          · refine st_if ?_ ?_
            · exact st_some (rfl)
            · exact st_some (rfl)
          · exact st_some (rfl)
        · exact st_some (rfl)
      · exact st_some (rfl)
    · exact st_some (rfl)
  · refine st_gC (st_gB (st_gN ?_))
    refine st_bd (f := fun r => [.b r]) ?_ fun w1 => ?_
    · refine st_ifb ?_ ?_
      · refine st_bd (eR18Same a.Proof b.Proof) fun rA => ?_
        refine st_gB ?_
        refine st_ifb ?_ ?_
        · refine st_bd (eR18Same a.Votes.L b.Votes.L) fun rA1 => ?_
          refine st_gB ?_
          exact st_some (rfl)
        · exact st_some (rfl)
      · exact st_some (rfl)
    · refine st_gC (st_gB (st_gN ?_))
      exact st_some (rfl)
theorem eL21Plain (a : AcceptorAcceptor) : Sm encR21Acceptor (dL21Plain (encAcceptorAcceptor a)) (tL21Plain a) := by
  unfold dL21Plain tL21Plain
  refine st_gA (soIIIIBISLL ?_)
  refine st_bd (eL21Sized a.S) fun rA => ?_
  refine st_gA (soII ?_)
  exact st_some (rfl)
theorem eR18May (a : ApiAccept) : Sm MV.b (dR18May (encApiAccept a)) (tR18May a) := by
  unfold dR18May tR18May
  refine st_gA (soIIS ?_)
  refine st_bd (f := fun r => [.b r]) ?_ fun w => ?_
  · refine st_if ?_ ?_
    · refine st_if ?_ ?_
      · refine st_if ?_ ?_
        · exact st_some (rfl)
        · exact st_some (rfl)
      · exact st_some (rfl)
    · exact st_some (rfl)
  · refine st_gC (st_gB (st_gN ?_))
    exact st_some (rfl)
theorem eR18Right (t : R18Tally) : Sm MV.b (dR18Right (encR18Tally t)) (tR18Right t) := by
  unfold dR18Right tR18Right
  refine st_gA (st_gC (st_gL (st_gN ?_)))
  refine st_bd (st_loop (fun r => [.i .i64 r]) (Sum.elim (fun r => (2, [])) (fun r => (1, [.b r]))) (rfl) fun st => ?_) fun w => ?_
  · unfold tR18RightL1
    refine st_gC (st_gI (st_gN (st_len (n := t.L.length) (by simp only [List.length_map, List.length_cons, List.length_nil]) ?_)))
    refine st_if ?_ ?_
    · refine st_bd (f := fun r => [.b r]) ?_ fun w1 => ?_
      · refine st_idx (f := encApiAccept) (rfl) fun y => ?_
        refine st_gA (soIIS ?_)
        refine st_bd (eR18May y) fun rA => ?_
        refine st_gB ?_
        refine st_ifb ?_ ?_
        · exact st_some (rfl)
        · refine st_if ?_ ?_
          · refine st_idx (f := encApiAccept) (rfl) fun y1 => ?_
            refine st_gA (soIIS ?_)
            refine st_idx (f := encApiAccept) (rfl) fun y2 => ?_
            refine st_gA (soIIS ?_)
            exact st_some (rfl)
          · exact st_some (rfl)
      · refine st_gC (st_gB (st_gN ?_))
        refine st_ifb ?_ ?_
        · exact st_some (rfl)
        · exact st_some (rfl)
    · exact st_some (rfl)
  · rcases w with p1 | p2
    · refine st_ifT rfl (st_gN ?_)
      exact st_some (rfl)
    · refine st_ifF rfl (st_tt rfl (st_gC (st_gB (st_gN ?_))))
      exact st_some (rfl)
theorem eR07Proof (sA : R07Size) : Sm (MV.i .i64) (dR07Proof (encR07Size sA)) (tR07Proof sA) := by
  unfold dR07Proof tR07Proof
  refine st_gA (soII ?_)
  exact st_some (rfl)
theorem eR19Right (a : R07Size) (a1 : List ApiAccept) : Sm MV.b (dR19Right (encR07Size a) (.list (a1.map encApiAccept))) (tR19Right a a1) := by
  unfold dR19Right tR19Right
  refine st_gA (soII (st_gL ?_))
  refine st_bd (f := fun r => [.b r]) ?_ fun w => ?_
  · refine st_bd (eR07Right a) fun rA => ?_
    refine st_gB ?_
    refine st_ifb ?_ ?_
    · exact st_some (rfl)
    · refine st_len (n := a1.length) (by simp only [List.length_map, List.length_cons, List.length_nil]) ?_
      refine st_bd (eR07Proof a) fun rA1 => ?_
      refine st_gI ?_
      exact st_some (rfl)
  · refine st_gC (st_gB (st_gN ?_))
    refine st_ifb ?_ ?_
    · exact st_some (rfl)
    · refine st_bd (st_loop (fun r => [.i .i64 r]) (Sum.elim (fun r => (2, [])) (fun r => (1, [.b r]))) (rfl) fun st => ?_) fun w1 => ?_
      · unfold tR19RightL1
        refine st_gC (st_gI (st_gN (st_len (n := a1.length) (by simp only [List.length_map, List.length_cons, List.length_nil]) ?_)))
        refine st_if ?_ ?_
        · refine st_idx (f := encApiAccept) (rfl) fun y => ?_
          refine st_gA (soIIS ?_)
          refine st_bd (f := fun r => [.b r]) ?_ fun w2 => ?_
          · refine st_bd (eR18May y) fun rA2 => ?_
            refine st_gB ?_
            refine st_ifb ?_ ?_
            · exact st_some (rfl)
            · refine st_bd (eR07N a) fun rA3 => ?_
              refine st_gI ?_
              refine st_if ?_ ?_
              · exact st_some (rfl)
              · refine st_idx (f := encApiAccept) (rfl) fun y1 => ?_
                refine st_gA (soIIS ?_)
                refine st_ifb ?_ ?_
                · exact st_some (rfl)
                · refine st_idx (f := encApiAccept) (rfl) fun y2 => ?_
                  refine st_gA (soIIS ?_)
                  refine st_ifb ?_ ?_
                  · exact st_some (rfl)
                  · refine st_if ?_ ?_
                    · refine st_idx (f := encApiAccept) (rfl) fun y3 => ?_
                      refine st_gA (soIIS ?_)
                      exact st_some (rfl)
                    · exact st_some (rfl)
          · refine st_gC (st_gB (st_gN ?_))
            refine st_ifb ?_ ?_
            · exact st_some (rfl)
            · exact st_some (rfl)
        · exact st_some (rfl)
      · rcases w1 with p1 | p2
        · refine st_ifT rfl (st_gN ?_)
          exact st_some (rfl)
        · refine st_ifF rfl (st_tt rfl (st_gC (st_gB (st_gN ?_))))
          exact st_some (rfl)
theorem eR21Right (a : R21Acceptor) : Sm MV.b (dR21Right (encR21Acceptor a)) (tR21Right a) := by
  unfold dR21Right tR21Right
  refine st_gA (soIIIIBISLL ?_)
  refine st_bd (eR21New a.S a.Me) fun rA => ?_
  refine st_gT (st_gC (st_gA (soIIIIBISLL (st_gC (st_gI (st_gN ?_))))))
  refine st_bd (f := fun r => [.b r]) ?_ fun w => ?_
  · refine st_ifb ?_ ?_
    · exact st_some (rfl)
    · refine st_if ?_ ?_
      · exact st_some (rfl)
      · refine st_if ?_ ?_
        · exact st_some (rfl)
        · refine st_bd (eR18Right a.Votes) fun rA1 => ?_
          refine st_gB ?_
          exact st_some (rfl)
  · refine st_gC (st_gB (st_gN ?_))
    refine st_ifb ?_ ?_
    · exact st_some (rfl)
    · refine st_bd (f := fun r => [.b r]) ?_ fun w1 => ?_
      · refine st_ifb ?_ ?_
        · refine st_if ?_ ?_
          · exact st_some (rfl)
          · refine st_if ?_ ?_
            · exact st_some (rfl)
            · refine st_if ?_ ?_
              · exact st_some (rfl)
              · refine st_ifb ?_ ?_
                · refine st_ifb ?_ ?_
                  · exact st_some (rfl)
                  · exact st_some (rfl)
                · exact st_some (rfl)
        · refine st_ifb ?_ ?_
          · refine st_ifb ?_ ?_
            · exact st_some (rfl)
            · exact st_some (rfl)
          · exact st_some (rfl)
      · refine st_gC (st_gB (st_gN ?_))
        refine st_ifb ?_ ?_
        · exact st_some (rfl)
        · refine st_bd (f := fun r => [.b r]) ?_ fun w2 => ?_
          · refine st_len (n := a.Proof.length) (by simp only [List.length_map, List.length_cons, List.length_nil]) ?_
            refine st_if ?_ ?_
            · refine st_bd (eR19Right a.S a.Proof) fun rA2 => ?_
              refine st_gB ?_
              refine st_ifb ?_ ?_
              · exact st_some (rfl)
              · refine st_idx (f := encApiAccept) (rfl) fun y => ?_
                refine st_gA (soIIS ?_)
                exact st_some (rfl)
            · exact st_some (rfl)
          · refine st_gC (st_gB (st_gN ?_))
            refine st_ifb ?_ ?_
            · exact st_some (rfl)
            · refine st_bd (st_loop (fun r => [.i .i64 r]) (Sum.elim (fun r => (2, [])) (fun r => (1, [.b r]))) (rfl) fun st => ?_) fun w3 => ?_
              · unfold tR21RightL1
                refine st_gC (st_gI (st_gN (st_len (n := a.Votes.L.length) (by simp only [List.length_map, List.length_cons, List.length_nil]) ?_)))
                refine st_if ?_ ?_
                · refine st_bd (f := fun r => [.b r]) ?_ fun w4 => ?_
                  · refine st_idx (f := encApiAccept) (rfl) fun y1 => ?_
                    refine st_gA (soIIS ?_)
                    refine st_bd (eR07N a.S) fun rA3 => ?_
                    refine st_gI ?_
                    refine st_if ?_ ?_
                    · exact st_some (rfl)
                    · refine st_idx (f := encApiAccept) (rfl) fun y2 => ?_
                      refine st_gA (soIIS ?_)
                      exact st_some (rfl)
                  · refine st_gC (st_gB (st_gN ?_))
                    refine st_ifb ?_ ?_
                    · exact st_some (rfl)
                    · exact st_some (rfl)
                · exact st_some (rfl)
              · rcases w3 with p1 | p2
                · refine st_ifT rfl (st_gN ?_)
                  exact st_some (rfl)
                · refine st_ifF rfl (st_tt rfl (st_gC (st_gB (st_gN ?_))))
                  exact st_some (rfl)
theorem eR20One (a : ApiReport) (b : ApiReport) : Sm MV.b (dR20One (encApiReport a) (encApiReport b)) (tR20One a b) := by
  unfold dR20One tR20One
  refine st_gA (soIIBISL (st_gA (soIIBISL ?_)))
  refine st_bd (f := fun r => [.b r]) ?_ fun w => ?_
  · refine st_if ?_ ?_
    · refine st_if ?_ ?_
      · refine st_if ?_ ?_
        · refine st_if ?_ ?_
          · refine st_if ?_ ?_
            · refine st_bd (eR18Same a.Proof b.Proof) fun rA => ?_
              refine st_gB ?_
              exact st_some (rfl)
            · exact st_some (rfl)
          · exact st_some (rfl)
        · exact st_some (rfl)
      · exact st_some (rfl)
    · exact st_some (rfl)
  · refine st_gC (st_gB (st_gN ?_))
    exact st_some (rfl)
theorem eR21Tell (a : R21Acceptor) : Sm encApiReport (dR21Tell (encR21Acceptor a)) (tR21Tell a) := by
  unfold dR21Tell tR21Tell
  refine st_gA (soIIIIBISLL ?_)
  exact st_some (rfl)
theorem eCmpIsNaNInt (x : Int) : Sm MV.b (dCmpIsNaNInt (.i .i64 x)) (tCmpIsNaNInt x) := by
  unfold dCmpIsNaNInt tCmpIsNaNInt
  refine st_gI ?_
  exact st_some (rfl)
theorem eCmpCompareInt (x : Int) (y : Int) : Sm (MV.i .i64) (dCmpCompareInt (.i .i64 x) (.i .i64 y)) (tCmpCompareInt x y) := by
  unfold dCmpCompareInt tCmpCompareInt
  refine st_gI (st_gI ?_)
  refine st_bd (eCmpIsNaNInt x) fun rA => ?_
  refine st_gB ?_
  refine st_bd (eCmpIsNaNInt y) fun rA1 => ?_
  refine st_gB ?_
  refine st_ifb ?_ ?_
  · refine st_ifb ?_ ?_
    · exact st_some (rfl)
    · exact st_some (rfl)
  · refine st_ifb ?_ ?_
    · exact st_some (rfl)
    · refine st_if ?_ ?_
      · exact st_some (rfl)
      · refine st_if ?_ ?_
        · exact st_some (rfl)
        · exact st_some (rfl)
theorem eTallyAddF1 (x : ApiAccept) (byA : Int) : Sm (MV.i .i64) (dTallyAddF1 (encApiAccept x) (.i .i64 byA)) (tTallyAddF1 x byA) := by
  unfold dTallyAddF1 tTallyAddF1
  refine st_gA (soIIS (st_gI ?_))
  refine st_bd (eCmpCompareInt x.By byA) fun rA => ?_
  refine st_gI ?_
  exact st_some (rfl)
theorem eSlicesBinarySearchFuncApiAcceptInt (x : List ApiAccept) (target : Int) (cmp : ApiAccept → Int → Option Int) {fn2 : Nat} {cap2 : List MV} (hgcmp : gv fn2 = false) (hccmpSlicesBinarySearchFuncApiAcceptInt : ∀ (u0 : ApiAccept) (u1 : Int), Sm (MV.i .i64) (preSlicesBinarySearchFuncApiAcceptInt fn2 ([encApiAccept u0, .i .i64 u1] ++ cap2)) (cmp u0 u1)) : Sm (fun r => .tup [.i .i64 r.1, .b r.2]) (dSlicesBinarySearchFuncApiAcceptInt (.list (x.map encApiAccept)) (.i .i64 target) (.func fn2 cap2)) (tSlicesBinarySearchFuncApiAcceptInt x target cmp) := by
  unfold dSlicesBinarySearchFuncApiAcceptInt tSlicesBinarySearchFuncApiAcceptInt
  refine st_gL (st_gI (st_gRf (st_len (n := x.length) (by simp only [List.length_map, List.length_cons, List.length_nil]) ?_)))
  refine st_bd (st_loop (fun r => [.i .i64 r.1, .i .i64 r.2]) (fun r => (2, [.i .i64 r])) (rfl) fun st => ?_) fun w => ?_
  · unfold tSlicesBinarySearchFuncApiAcceptIntL1
    refine soII ?_
    refine st_if ?_ ?_
    · refine st_chk ?_
      refine st_idx (f := encApiAccept) (rfl) fun y => ?_
      refine st_gA (soIIS (st_gFn (st_tt (by rw [hgcmp]; rfl) ?_)))
      refine st_bd (hccmpSlicesBinarySearchFuncApiAcceptInt y target) fun rA => ?_
      refine st_gI ?_
      refine st_bd (f := (fun r => (0, [.i .i64 r.1, .i .i64 r.2]))) ?_ fun w1 => ?_
      · refine st_if ?_ ?_
        · exact st_some (rfl)
        · exact st_some (rfl)
      · refine st_tt rfl (soII ?_)
        exact st_some (rfl)
    · exact st_some (rfl)
  · refine st_tt rfl (st_gC (st_gI (st_gN ?_)))
    refine st_bd (f := fun r => [.i .i64 r.1, .b r.2]) ?_ fun w2 => ?_
    · refine st_if ?_ ?_
      · refine st_idx (f := encApiAccept) (rfl) fun y1 => ?_
        refine st_gA (soIIS (st_gFn (st_tt (by rw [hgcmp]; rfl) ?_)))
        refine st_bd (hccmpSlicesBinarySearchFuncApiAcceptInt y1 target) fun rA1 => ?_
        refine st_gI ?_
        exact st_some (rfl)
      · exact st_some (rfl)
    · refine st_gC (st_gI (st_gC (st_gB (st_gN ?_))))
      exact st_some (rfl)
theorem eTallyAdd (t : TallyTally) (a : ApiAccept) : Sm (fun r => .tup [encTallyTally r.1, .b r.2]) (dTallyAdd (encTallyTally t) (encApiAccept a)) (tTallyAdd t a) := by
  unfold dTallyAdd tTallyAdd
  refine st_gA (st_gC (st_gL (st_gN (st_gA (soIIS ?_)))))
  refine st_bd (eTallyMay a) fun rA => ?_
  refine st_gB ?_
  refine st_ifb ?_ ?_
  · exact st_some (rfl)
  · refine st_bd (eSlicesBinarySearchFuncApiAcceptInt t.L a.By tTallyAddF1 (fn2 := 115) (cap2 := []) rfl (fun u2 u3 => Sm.at (atSlicesBinarySearchFuncApiAcceptIntTallyAddF1 _ _) (eTallyAddF1 u2 u3))) fun rA1 => ?_
    refine st_gT (st_gC (st_gI (st_gC (st_gB (st_gN ?_)))))
    refine st_bd (f := fun r => [.b r]) ?_ fun w => ?_
    · refine st_ifb ?_ ?_
      · refine st_idx (f := encApiAccept) (rfl) fun y => ?_
        refine st_gA (soIIS ?_)
        exact st_some (rfl)
      · exact st_some (rfl)
    · refine st_gC (st_gB (st_gN ?_))
      refine st_ifb ?_ ?_
      · exact st_some (rfl)
      · refine st_bd (e_clone (size := 3) (f := encApiAccept) (fun _ => rfl) t.L) fun rA2 => ?_
        refine st_gF ?_
        refine st_bd (f := (fun r => (0, [.list (r.map encApiAccept)]))) ?_ fun w1 => ?_
        · refine st_ifb ?_ ?_
          · refine st_idx (f := encApiAccept) (rfl) fun y1 => ?_
            refine st_gA (soIIS ?_)
            exact st_some (by simp)
          · refine st_bd (e_insert (f := encApiAccept) rA2 rA1.1 ([a] : List ApiAccept)) fun rA3 => ?_
            refine st_gF ?_
            exact st_some (rfl)
        · refine st_tt rfl (st_gC (st_gL (st_gN ?_)))
          exact st_some (rfl)
theorem eTallyBest (a : TallyTally) (a1 : Int) : Sm (fun r => .tup (v0 r)) (dTallyBest (encTallyTally a) (.i .i64 a1)) (tTallyBest a a1) := by
  unfold dTallyBest tTallyBest
  refine st_gA (st_gC (st_gL (st_gN (st_gI (st_len (n := a.L.length) (by simp only [List.length_map, List.length_cons, List.length_nil]) ?_)))))
  refine st_bd (st_loop (fun r => [.list r.1, .i .i64 r.2]) (fun r => (2, [.list r])) (rfl) fun st => ?_) fun w => ?_
  · unfold tTallyBestL1
    refine st_gC (st_gL (st_gC (st_gI (st_gN ?_))))
    refine st_if ?_ ?_
    · refine st_idx (f := encApiAccept) (rfl) fun y => ?_
      refine st_gA (soIIS (st_chk ?_))
      exact st_some (rfl)
    · exact st_some (rfl)
  · refine st_tt rfl (st_gC (st_gL (st_gN (st_len (n := a.L.length) (by simp only [List.length_map, List.length_cons, List.length_nil]) ?_))))
    refine st_bd (st_loop (fun r => [.i .i64 r.1, .s r.2.1, .b r.2.2.1, .i .i64 r.2.2.2]) (fun r => (4, (v0 r))) (rfl) fun st1 => ?_) fun w1 => ?_
    · unfold tTallyBestL2
      refine st_gC (st_gI (st_gC (st_gS (st_gC (st_gB (st_gC (st_gI (st_gN ?_))))))))
      refine st_if ?_ ?_
      · refine st_idx (f := encApiAccept) (rfl) fun y1 => ?_
        refine st_gA (soIIS ?_)
        refine st_bd (f := fun r => [.b r]) ?_ fun w2 => ?_
        · refine st_if ?_ ?_
          · refine st_if ?_ ?_
            · exact st_some (rfl)
            · exact st_some (rfl)
          · exact st_some (rfl)
        · refine st_gC (st_gB (st_gN ?_))
          refine st_bd (f := (fun r => (0, (v0 r)))) ?_ fun w3 => ?_
          · refine st_ifb ?_ ?_
            · exact st_some (rfl)
            · exact st_some (rfl)
          · refine st_tt rfl (soISB ?_)
            exact st_some (rfl)
      · exact st_some (rfl)
    · refine st_tt rfl (soISB ?_)
      refine st_ifb ?_ ?_
      · exact st_some (rfl)
      · exact st_some (rfl)
theorem eR18Add (a : R18Tally) (a1 : ApiAccept) : Sm (fun r => .tup [encR18Tally r.1, .b r.2]) (dR18Add (encR18Tally a) (encApiAccept a1)) (tR18Add a a1) := by
  unfold dR18Add tR18Add
  refine st_gA (st_gC (st_gL (st_gN (st_gA (soIIS ?_)))))
  refine st_bd (eR18May a1) fun rA => ?_
  refine st_gB ?_
  refine st_ifb ?_ ?_
  · exact st_some (rfl)
  · refine st_bd (st_loop (fun r => [.list (r.1.map encApiAccept), .list (r.2.1.map encApiAccept), .b r.2.2.1, .i .i64 r.2.2.2]) (Sum.elim (fun r => (2, [.list (r.1.map encApiAccept), .list (r.2.1.map encApiAccept), .b r.2.2])) (fun r => (1, [.list (r.1.map encApiAccept), .b r.2]))) (rfl) fun st => ?_) fun w => ?_
    · unfold tR18AddL1
      refine st_gC (st_gL (st_gC (st_gL (st_gC (st_gB (st_gC (st_gI (st_gN (st_len (n := a.L.length) (by simp only [List.length_map, List.length_cons, List.length_nil]) ?_)))))))))
      refine st_if ?_ ?_
      · refine st_idx (f := encApiAccept) (rfl) fun y => ?_
        refine st_gA (soIIS ?_)
        refine st_bd (f := fun r => [.b r]) ?_ fun w1 => ?_
        · refine st_if ?_ ?_
          · exact st_some (rfl)
          · exact st_some (rfl)
        · refine st_gC (st_gB (st_gN ?_))
          refine st_ifb ?_ ?_
          · exact st_some (rfl)
          · refine st_bd (f := fun r => [.b r]) ?_ fun w2 => ?_
            · refine st_ifb ?_ ?_
              · exact st_some (rfl)
              · exact st_some (rfl)
            · refine st_gC (st_gB (st_gN ?_))
              refine st_bd (f := (fun r => (0, [.list (r.1.map encApiAccept), .b r.2]))) ?_ fun w3 => ?_
              · refine st_ifb ?_ ?_
                · refine st_len (n := st.2.1.length) (by simp only [List.length_map, List.length_cons, List.length_nil]) (st_len (n := ([a1] : List ApiAccept).length) (by simp only [List.length_map, List.length_cons, List.length_nil]) (st_chk ?_))
                  exact st_some (by simp)
                · exact st_some (rfl)
              · refine st_tt rfl (st_gC (st_gL (st_gC (st_gB (st_gN ?_)))))
                refine st_bd (f := (fun r => (0, [.list (r.map encApiAccept)]))) ?_ fun w4 => ?_
                · refine st_ifb ?_ ?_
                  · refine st_len (n := w3.1.length) (by simp only [List.length_map, List.length_cons, List.length_nil]) (st_len (n := ([y] : List ApiAccept).length) (by simp only [List.length_map, List.length_cons, List.length_nil]) (st_chk ?_))
                    exact st_some (by simp)
                  · exact st_some (rfl)
                · refine st_tt rfl (st_gC (st_gL (st_gN ?_)))
                  exact st_some (rfl)
      · exact st_some (rfl)
    · rcases w with p3 | p4
      · refine st_ifT rfl (st_gC (st_gL (st_gC (st_gL (st_gC (st_gB (st_gN ?_)))))))
        refine st_bd (f := (fun r => (0, [.list (r.map encApiAccept)]))) ?_ fun w5 => ?_
        · refine st_ifb ?_ ?_
          · refine st_len (n := p3.2.1.length) (by simp only [List.length_map, List.length_cons, List.length_nil]) (st_len (n := ([a1] : List ApiAccept).length) (by simp only [List.length_map, List.length_cons, List.length_nil]) (st_chk ?_))
            exact st_some (by simp)
          · exact st_some (rfl)
        · refine st_tt rfl (st_gC (st_gL (st_gN ?_)))
          exact st_some (rfl)
      · refine st_ifF rfl (st_tt rfl (st_gC (st_gL (st_gC (st_gB (st_gN ?_))))))
        exact st_some (rfl)
theorem eR18Voters (t : R18Tally) (view : Int) (value : List UInt8) : Sm (encL encApiAccept) (dR18Voters (encR18Tally t) (.i .i64 view) (.s value)) (tR18Voters t view value) := by
  unfold dR18Voters tR18Voters
  refine st_gA (st_gC (st_gL (st_gN (st_gI (st_gS ?_)))))
  refine st_bd (st_loop (fun r => [.list (r.1.map encApiAccept), .i .i64 r.2]) (fun r => (2, [.list (r.map encApiAccept)])) (rfl) fun st => ?_) fun w => ?_
  · unfold tR18VotersL1
    refine st_gC (st_gL (st_gC (st_gI (st_gN (st_len (n := t.L.length) (by simp only [List.length_map, List.length_cons, List.length_nil]) ?_)))))
    refine st_if ?_ ?_
    · refine st_bd (f := fun r => [.b r]) ?_ fun w1 => ?_
      · refine st_idx (f := encApiAccept) (rfl) fun y => ?_
        refine st_gA (soIIS ?_)
        refine st_if ?_ ?_
        · refine st_idx (f := encApiAccept) (rfl) fun y1 => ?_
          refine st_gA (soIIS ?_)
          exact st_some (rfl)
        · exact st_some (rfl)
      · refine st_gC (st_gB (st_gN ?_))
        refine st_bd (f := (fun r => (0, [.list (r.map encApiAccept)]))) ?_ fun w2 => ?_
        · refine st_ifb ?_ ?_
          · refine st_idx (f := encApiAccept) (rfl) fun y2 => ?_
            refine st_gA (soIIS (st_len (n := st.1.length) (by simp only [List.length_map, List.length_cons, List.length_nil]) (st_len (n := ([y2] : List ApiAccept).length) (by simp only [List.length_map, List.length_cons, List.length_nil]) (st_chk ?_))))
            exact st_some (by simp)
          · exact st_some (rfl)
        · refine st_tt rfl (st_gC (st_gL (st_gN ?_)))
          exact st_some (rfl)
    · exact st_some (rfl)
  · refine st_tt rfl (st_gC (st_gL (st_gN ?_)))
    exact st_some (rfl)
theorem eR18Count (t : R18Tally) (view : Int) (value : List UInt8) : Sm (MV.i .i64) (dR18Count (encR18Tally t) (.i .i64 view) (.s value)) (tR18Count t view value) := by
  unfold dR18Count tR18Count
  refine st_gA (st_gC (st_gL (st_gN (st_gI (st_gS ?_)))))
  refine st_bd (eR18Voters t view value) fun rA => ?_
  refine st_gL (st_len (n := rA.length) (by simp only [List.length_map, List.length_cons, List.length_nil]) ?_)
  exact st_some (rfl)
theorem eR18Best (t : R18Tally) (need : Int) : Sm (fun r => .tup (v0 r)) (dR18Best (encR18Tally t) (.i .i64 need)) (tR18Best t need) := by
  unfold dR18Best tR18Best
  refine st_gA (st_gC (st_gL (st_gN (st_gI ?_))))
  refine st_bd (st_loop (fun r => [.i .i64 r.1, .i .i64 r.2]) (fun r => (2, [.i .i64 r])) (rfl) fun st => ?_) fun w => ?_
  · unfold tR18BestL1
    refine soII ?_
    refine st_bd (f := fun r => [.b r]) ?_ fun w1 => ?_
    · refine st_len (n := t.L.length) (by simp only [List.length_map, List.length_cons, List.length_nil]) ?_
      refine st_if ?_ ?_
      · exact st_some (rfl)
      · exact st_some (rfl)
    · refine st_gC (st_gB (st_gN ?_))
      refine st_ifb ?_ ?_
      · refine st_idx (f := encApiAccept) (rfl) fun y => ?_
        refine st_gA (soIIS ?_)
        refine st_bd (f := fun r => [.b r]) ?_ fun w2 => ?_
        · refine st_bd (eR18Count t y.View y.Value) fun rA => ?_
          refine st_gI ?_
          refine st_if ?_ ?_
          · refine st_if ?_ ?_
            · exact st_some (rfl)
            · refine st_idx (f := encApiAccept) (rfl) fun y1 => ?_
              refine st_gA (soIIS ?_)
              exact st_some (rfl)
          · exact st_some (rfl)
        · refine st_gC (st_gB (st_gN ?_))
          refine st_bd (f := (fun r => (0, [.i .i64 r]))) ?_ fun w3 => ?_
          · refine st_ifb ?_ ?_
            · exact st_some (rfl)
            · exact st_some (rfl)
          · refine st_tt rfl (st_gC (st_gI (st_gN ?_)))
            exact st_some (rfl)
      · exact st_some (rfl)
  · refine st_tt rfl (st_gC (st_gI (st_gN ?_)))
    refine st_if ?_ ?_
    · exact st_some (rfl)
    · refine st_idx (f := encApiAccept) (rfl) fun y2 => ?_
      refine st_gA (soIIS ?_)
      refine st_idx (f := encApiAccept) (rfl) fun y3 => ?_
      refine st_gA (soIIS ?_)
      exact st_some (rfl)
theorem eL21Short (lA : List ApiReport) : Sm MV.b (dL21Short (.list (lA.map encApiReport))) (tL21Short lA) := by
  unfold dL21Short tL21Short
  refine st_gL ?_
  refine st_bd (st_loop (fun r => [.i .i64 r]) (Sum.elim (fun r => (2, [])) (fun r => (1, [.b r]))) (rfl) fun st => ?_) fun w => ?_
  · unfold tL21ShortL1
    refine st_gC (st_gI (st_gN (st_len (n := lA.length) (by simp only [List.length_map, List.length_cons, List.length_nil]) ?_)))
    refine st_if ?_ ?_
    · refine st_bd (f := fun r => [.b r]) ?_ fun w1 => ?_
      · refine st_if ?_ ?_
        · exact st_some (rfl)
        · refine st_idx (f := encApiReport) (rfl) fun y => ?_
          refine st_gA (soIIBISL ?_)
          refine st_if ?_ ?_
          · exact st_some (rfl)
          · refine st_idx (f := encApiReport) (rfl) fun y1 => ?_
            refine st_gA (soIIBISL ?_)
            refine st_bd (eL21Votes y1.Proof) fun rA => ?_
            refine st_gB ?_
            exact st_some (rfl)
      · refine st_gC (st_gB (st_gN ?_))
        refine st_ifb ?_ ?_
        · exact st_some (rfl)
        · exact st_some (rfl)
    · exact st_some (rfl)
  · rcases w with p1 | p2
    · refine st_ifT rfl (st_gN ?_)
      exact st_some (rfl)
    · refine st_ifF rfl (st_tt rfl (st_gC (st_gB (st_gN ?_))))
      exact st_some (rfl)
theorem eR21Enter (a : R21Acceptor) (view : Int) : Sm (fun r => .tup [encR21Acceptor r.1, encApiReport r.2.1, .b r.2.2]) (dR21Enter (encR21Acceptor a) (.i .i64 view)) (tR21Enter a view) := by
  unfold dR21Enter tR21Enter
  refine st_gA (soIIIIBISLL (st_gI ?_))
  refine st_bd (f := fun r => [.b r]) ?_ fun w => ?_
  · refine st_if ?_ ?_
    · exact st_some (rfl)
    · exact st_some (rfl)
  · refine st_gC (st_gB (st_gN ?_))
    refine st_ifb ?_ ?_
    · exact st_some (rfl)
    · refine st_bd (eR21Tell (⟨a.S, a.Me, view, a.Has, a.At, a.Value, a.Proof, (⟨([] : List ApiAccept)⟩ : R18Tally)⟩ : R21Acceptor)) fun rA => ?_
      refine st_gA (soIIBISL ?_)
      exact st_some (rfl)
theorem eR07Most (sA : R07Size) : Sm (MV.i .i64) (dR07Most (encR07Size sA)) (tR07Most sA) := by
  unfold dR07Most tR07Most
  refine st_gA (soII ?_)
  exact st_some (rfl)
theorem eR20May (a : R07Size) (a1 : ApiReport) : Sm MV.b (dR20May (encR07Size a) (encApiReport a1)) (tR20May a a1) := by
  unfold dR20May tR20May
  refine st_gA (soII (st_gA (soIIBISL ?_)))
  refine st_bd (f := fun r => [.b r]) ?_ fun w => ?_
  · refine st_bd (eR07Right a) fun rA => ?_
    refine st_gB ?_
    refine st_ifb ?_ ?_
    · exact st_some (rfl)
    · refine st_if ?_ ?_
      · exact st_some (rfl)
      · refine st_bd (eR07N a) fun rA1 => ?_
        refine st_gI ?_
        refine st_if ?_ ?_
        · exact st_some (rfl)
        · refine st_if ?_ ?_
          · exact st_some (rfl)
          · exact st_some (rfl)
  · refine st_gC (st_gB (st_gN ?_))
    refine st_ifb ?_ ?_
    · exact st_some (rfl)
    · refine st_bd (f := fun r => [.b r]) ?_ fun w1 => ?_
      · refine st_ifb ?_ ?_
        · refine st_if ?_ ?_
          · exact st_some (rfl)
          · refine st_if ?_ ?_
            · exact st_some (rfl)
            · refine st_if ?_ ?_
              · exact st_some (rfl)
              · refine st_ifb ?_ ?_
                · refine st_ifb ?_ ?_
                  · exact st_some (rfl)
                  · exact st_some (rfl)
                · exact st_some (rfl)
        · refine st_ifb ?_ ?_
          · refine st_ifb ?_ ?_
            · exact st_some (rfl)
            · exact st_some (rfl)
          · exact st_some (rfl)
      · refine st_gC (st_gB (st_gN ?_))
        refine st_ifb ?_ ?_
        · exact st_some (rfl)
        · refine st_bd (f := fun r => [.b r]) ?_ fun w2 => ?_
          · refine st_len (n := a1.Proof.length) (by simp only [List.length_map, List.length_cons, List.length_nil]) ?_
            refine st_if ?_ ?_
            · exact st_some (rfl)
            · refine st_bd (eR19Right a a1.Proof) fun rA2 => ?_
              refine st_gB ?_
              refine st_ifb ?_ ?_
              · refine st_idx (f := encApiAccept) (rfl) fun y => ?_
                refine st_gA (soIIS ?_)
                exact st_some (rfl)
              · exact st_some (rfl)
          · refine st_gC (st_gB (st_gN ?_))
            exact st_some (rfl)
theorem eR20Right (sA : R07Size) (view : Int) (lA : List ApiReport) : Sm MV.b (dR20Right (encR07Size sA) (.i .i64 view) (.list (lA.map encApiReport))) (tR20Right sA view lA) := by
  unfold dR20Right tR20Right
  refine st_gA (soII (st_gI (st_gL ?_)))
  refine st_bd (f := fun r => [.b r]) ?_ fun w => ?_
  · refine st_bd (eR07Right sA) fun rA => ?_
    refine st_gB ?_
    refine st_ifb ?_ ?_
    · exact st_some (rfl)
    · refine st_len (n := lA.length) (by simp only [List.length_map, List.length_cons, List.length_nil]) ?_
      refine st_bd (eR07Most sA) fun rA1 => ?_
      refine st_gI ?_
      exact st_some (rfl)
  · refine st_gC (st_gB (st_gN ?_))
    refine st_ifb ?_ ?_
    · exact st_some (rfl)
    · refine st_bd (st_loop (fun r => [.i .i64 r]) (Sum.elim (fun r => (2, [])) (fun r => (1, [.b r]))) (rfl) fun st => ?_) fun w1 => ?_
      · unfold tR20RightL1
        refine st_gC (st_gI (st_gN (st_len (n := lA.length) (by simp only [List.length_map, List.length_cons, List.length_nil]) ?_)))
        refine st_if ?_ ?_
        · refine st_bd (f := fun r => [.b r]) ?_ fun w2 => ?_
          · refine st_idx (f := encApiReport) (rfl) fun y => ?_
            refine st_gA (soIIBISL ?_)
            refine st_bd (eR20May sA y) fun rA2 => ?_
            refine st_gB ?_
            refine st_ifb ?_ ?_
            · exact st_some (rfl)
            · refine st_idx (f := encApiReport) (rfl) fun y1 => ?_
              refine st_gA (soIIBISL ?_)
              refine st_ifb ?_ ?_
              · exact st_some (rfl)
              · refine st_if ?_ ?_
                · refine st_idx (f := encApiReport) (rfl) fun y2 => ?_
                  refine st_gA (soIIBISL ?_)
                  refine st_idx (f := encApiReport) (rfl) fun y3 => ?_
                  refine st_gA (soIIBISL ?_)
                  exact st_some (rfl)
                · exact st_some (rfl)
          · refine st_gC (st_gB (st_gN ?_))
            refine st_ifb ?_ ?_
            · exact st_some (rfl)
            · exact st_some (rfl)
        · exact st_some (rfl)
      · rcases w1 with p1 | p2
        · refine st_ifT rfl (st_gN ?_)
          exact st_some (rfl)
        · refine st_ifF rfl (st_tt rfl (st_gC (st_gB (st_gN ?_))))
          exact st_some (rfl)
theorem eR19Of (p : List ApiAccept) : Sm (fun r => .tup (v0 r)) (dR19Of (.list (p.map encApiAccept))) (tR19Of p) := by
  unfold dR19Of tR19Of
  refine st_gL (st_len (n := p.length) (by simp only [List.length_map, List.length_cons, List.length_nil]) ?_)
  refine st_if ?_ ?_
  · exact st_some (rfl)
  · refine st_idx (f := encApiAccept) (rfl) fun y => ?_
    refine st_gA (soIIS ?_)
    refine st_idx (f := encApiAccept) (rfl) fun y1 => ?_
    refine st_gA (soIIS ?_)
    exact st_some (rfl)
theorem eR07Vouch (sA : R07Size) : Sm (MV.i .i64) (dR07Vouch (encR07Size sA)) (tR07Vouch sA) := by
  unfold dR07Vouch tR07Vouch
  refine st_gA (soII ?_)
  exact st_some (rfl)
theorem eR20Binds (a : R07Size) (a1 : List ApiReport) : Sm (fun r => .tup [.s r.1, .b r.2]) (dR20Binds (encR07Size a) (.list (a1.map encApiReport))) (tR20Binds a a1) := by
  unfold dR20Binds tR20Binds
  refine st_gA (soII (st_gL ?_))
  refine st_bd (st_loop (fun r => [.i .i64 r.1, .s r.2.1, .i .i64 r.2.2]) (fun r => (2, [.i .i64 r.1, .s r.2])) (rfl) fun st => ?_) fun w => ?_
  · unfold tR20BindsL1
    refine st_gC (st_gI (st_gC (st_gS (st_gC (st_gI (st_gN (st_len (n := a1.length) (by simp only [List.length_map, List.length_cons, List.length_nil]) ?_)))))))
    refine st_if ?_ ?_
    · refine st_idx (f := encApiReport) (rfl) fun y => ?_
      refine st_gA (soIIBISL ?_)
      refine st_bd (eR19Of y.Proof) fun rA => ?_
      refine st_gT (soISB ?_)
      refine st_bd (f := fun r => [.b r]) ?_ fun w1 => ?_
      · refine st_ifb ?_ ?_
        · exact st_some (rfl)
        · exact st_some (rfl)
      · refine st_gC (st_gB (st_gN ?_))
        refine st_bd (f := (fun r => (0, [.i .i64 r.1, .s r.2]))) ?_ fun w2 => ?_
        · refine st_ifb ?_ ?_
          · exact st_some (rfl)
          · exact st_some (rfl)
        · refine st_tt rfl (st_gC (st_gI (st_gC (st_gS (st_gN ?_)))))
          exact st_some (rfl)
    · exact st_some (rfl)
  · refine st_tt rfl (st_gC (st_gI (st_gC (st_gS (st_gN ?_)))))
    refine st_bd (st_loop (fun r => [.i .i64 r]) (Sum.elim (fun r => (4, [])) (fun r => (1, [.s r.1, .b r.2]))) (rfl) fun st1 => ?_) fun w3 => ?_
    · unfold tR20BindsL3
      refine st_gC (st_gI (st_gN (st_len (n := a1.length) (by simp only [List.length_map, List.length_cons, List.length_nil]) ?_)))
      refine st_if ?_ ?_
      · refine st_bd (st_loop (fun r => [.i .i64 r.1, .i .i64 r.2]) (fun r => (6, [.i .i64 r])) (rfl) fun st2 => ?_) fun w4 => ?_
        · unfold tR20BindsL2
          refine soII (st_len (n := a1.length) (by simp only [List.length_map, List.length_cons, List.length_nil]) ?_)
          refine st_if ?_ ?_
          · refine st_bd (f := fun r => [.b r]) ?_ fun w5 => ?_
            · refine st_idx (f := encApiReport) (rfl) fun y1 => ?_
              refine st_gA (soIIBISL ?_)
              refine st_ifb ?_ ?_
              · refine st_idx (f := encApiReport) (rfl) fun y2 => ?_
                refine st_gA (soIIBISL ?_)
                refine st_if ?_ ?_
                · refine st_idx (f := encApiReport) (rfl) fun y3 => ?_
                  refine st_gA (soIIBISL ?_)
                  refine st_ifb ?_ ?_
                  · refine st_idx (f := encApiReport) (rfl) fun y4 => ?_
                    refine st_gA (soIIBISL ?_)
                    refine st_if ?_ ?_
                    · refine st_idx (f := encApiReport) (rfl) fun y5 => ?_
                      refine st_gA (soIIBISL ?_)
                      refine st_idx (f := encApiReport) (rfl) fun y6 => ?_
                      refine st_gA (soIIBISL ?_)
                      exact st_some (rfl)
                    · exact st_some (rfl)
                  · exact st_some (rfl)
                · exact st_some (rfl)
              · exact st_some (rfl)
            · refine st_gC (st_gB (st_gN ?_))
              refine st_bd (f := (fun r => (0, [.i .i64 r]))) ?_ fun w6 => ?_
              · refine st_ifb ?_ ?_
                · exact st_some (rfl)
                · exact st_some (rfl)
              · refine st_tt rfl (st_gC (st_gI (st_gN ?_)))
                exact st_some (rfl)
          · exact st_some (rfl)
        · refine st_tt rfl (st_gC (st_gI (st_gN ?_)))
          refine st_bd (eR07Vouch a) fun rA1 => ?_
          refine st_gI ?_
          refine st_if ?_ ?_
          · refine st_idx (f := encApiReport) (rfl) fun y7 => ?_
            refine st_gA (soIIBISL ?_)
            exact st_some (rfl)
          · exact st_some (rfl)
      · exact st_some (rfl)
    · rcases w3 with p5 | p6
      · refine st_ifT rfl (st_gN ?_)
        exact st_some (rfl)
      · refine st_ifF rfl (st_tt rfl (st_gC (st_gS (st_gC (st_gB (st_gN ?_))))))
        exact st_some (rfl)
theorem eR20Vouches (sA : R07Size) (view : Int) (lA : List ApiReport) (value : List UInt8) : Sm MV.b (dR20Vouches (encR07Size sA) (.i .i64 view) (.list (lA.map encApiReport)) (.s value)) (tR20Vouches sA view lA value) := by
  unfold dR20Vouches tR20Vouches
  refine st_gA (soII (st_gI (st_gL (st_gS ?_))))
  refine st_bd (eR20Right sA view lA) fun rA => ?_
  refine st_gB ?_
  refine st_ifb ?_ ?_
  · exact st_some (rfl)
  · refine st_bd (eR20Binds sA lA) fun rA1 => ?_
    refine st_gT (st_gC (st_gS (st_gC (st_gB (st_gN ?_)))))
    refine st_bd (f := fun r => [.b r]) ?_ fun w => ?_
    · refine st_ifb ?_ ?_
      · exact st_some (rfl)
      · exact st_some (rfl)
    · refine st_gC (st_gB (st_gN ?_))
      exact st_some (rfl)
theorem eR21Propose (a : R21Acceptor) (view : Int) (value : List UInt8) (cert : List ApiReport) : Sm (fun r => .tup [encR21Acceptor r.1, encApiAccept r.2.1, .b r.2.2]) (dR21Propose (encR21Acceptor a) (.i .i64 view) (.s value) (.list (cert.map encApiReport))) (tR21Propose a view value cert) := by
  unfold dR21Propose tR21Propose
  refine st_gA (soIIIIBISLL (st_gI (st_gS (st_gL ?_))))
  refine st_bd (f := fun r => [.b r]) ?_ fun w => ?_
  · refine st_if ?_ ?_
    · refine st_len (n := cert.length) (by simp only [List.length_map, List.length_cons, List.length_nil]) ?_
      exact st_some (rfl)
    · exact st_some (rfl)
  · refine st_gC (st_gB (st_gN ?_))
    refine st_bd (f := fun r => [.b r]) ?_ fun w1 => ?_
    · refine st_ifb ?_ ?_
      · exact st_some (rfl)
      · refine st_ifb ?_ ?_
        · refine st_if ?_ ?_
          · exact st_some (rfl)
          · refine st_if ?_ ?_
            · exact st_some (rfl)
            · refine st_ifb ?_ ?_
              · refine st_bd (eR20Vouches a.S view cert value) fun rA => ?_
                refine st_gB ?_
                exact st_some (rfl)
              · exact st_some (rfl)
        · refine st_if ?_ ?_
          · exact st_some (rfl)
          · refine st_ifb ?_ ?_
            · refine st_bd (eR20Vouches a.S view cert value) fun rA1 => ?_
              refine st_gB ?_
              exact st_some (rfl)
            · exact st_some (rfl)
    · refine st_gC (st_gB (st_gN ?_))
      refine st_ifb ?_ ?_
      · exact st_some (rfl)
      · exact st_some (rfl)
theorem eProofMake (sA : SizeSize) (t : TallyTally) : Sm (fun r => .tup [.list (r.1.map encApiAccept), .b r.2]) (dProofMake (encSizeSize sA) (encTallyTally t)) (tProofMake sA t) := by
  unfold dProofMake tProofMake
  refine st_gA (soII (st_gA (st_gC (st_gL (st_gN ?_)))))
  refine st_bd (eSizeProof sA) fun rA => ?_
  refine st_gI ?_
  refine st_bd (eTallyBest t rA) fun rA1 => ?_
  refine st_gT (soISB ?_)
  refine st_ifb ?_ ?_
  · exact st_some (rfl)
  · refine st_bd (eTallyVoters t rA1.1 rA1.2.1) fun rA2 => ?_
    refine st_gL ?_
    refine st_bd (eSizeProof sA) fun rA3 => ?_
    refine st_gI (st_len (n := rA2.length) (by simp only [List.length_map, List.length_cons, List.length_nil]) (st_chk ?_))
    exact st_some (by first | (simp; done) | simp only [encApiAccept, encSizeSize, encTallyTally, lvApiAccept, lvSizeSize, lvTallyTally, List.map_append, List.map_cons, List.map_nil, List.map_take, List.map_drop, List.map_set])
theorem eAcceptorHear (a : AcceptorAcceptor) (a1 : ApiAccept) : Sm (fun r => .tup [encAcceptorAcceptor r.1, .list (r.2.1.map encApiAccept), .b r.2.2]) (dAcceptorHear (encAcceptorAcceptor a) (encApiAccept a1)) (tAcceptorHear a a1) := by
  unfold dAcceptorHear tAcceptorHear
  refine st_gA (soIIIIBISLL (st_gA (soIIS ?_)))
  refine st_bd (f := fun r => [.b r]) ?_ fun w => ?_
  · refine st_bd (eSizeN a.S) fun rA => ?_
    refine st_gI ?_
    refine st_if ?_ ?_
    · exact st_some (rfl)
    · exact st_some (rfl)
  · refine st_gC (st_gB (st_gN ?_))
    refine st_ifb ?_ ?_
    · exact st_some (rfl)
    · refine st_bd (eTallyAdd a.Votes a1) fun rA1 => ?_
      refine st_gT (st_gC (st_gA (st_gC (st_gL (st_gN (st_gC (st_gB (st_gN ?_))))))))
      refine st_bd (eProofMake a.S rA1.1) fun rA2 => ?_
      refine st_gT (st_gC (st_gL (st_gC (st_gB (st_gN ?_)))))
      refine st_bd (eProofOf a.Proof) fun rA3 => ?_
      refine st_gT (soISB ?_)
      refine st_bd (f := fun r => [.b r]) ?_ fun w1 => ?_
      · refine st_bd (eTallyMay a1) fun rA4 => ?_
        refine st_gB ?_
        refine st_ifb ?_ ?_
        · exact st_some (rfl)
        · refine st_ifb ?_ ?_
          · exact st_some (rfl)
          · exact st_some (rfl)
      · refine st_gC (st_gB (st_gN ?_))
        refine st_ifb ?_ ?_
        · exact st_some (rfl)
        · exact st_some (rfl)
theorem eR19Make (sA : R07Size) (t : R18Tally) : Sm (fun r => .tup [.list (r.1.map encApiAccept), .b r.2]) (dR19Make (encR07Size sA) (encR18Tally t)) (tR19Make sA t) := by
  unfold dR19Make tR19Make
  refine st_gA (soII (st_gA (st_gC (st_gL (st_gN ?_)))))
  refine st_bd (eR07Proof sA) fun rA => ?_
  refine st_gI ?_
  refine st_bd (eR18Best t rA) fun rA1 => ?_
  refine st_gT (soISB ?_)
  refine st_ifb ?_ ?_
  · exact st_some (rfl)
  · refine st_bd (eR18Voters t rA1.1 rA1.2.1) fun rA2 => ?_
    refine st_gL (st_len (n := rA2.length) (by simp only [List.length_map, List.length_cons, List.length_nil]) (st_chk ?_))
    exact st_some (by first | (simp; done) | simp only [encApiAccept, encR07Size, encR18Tally, lvApiAccept, lvR07Size, lvR18Tally, List.map_append, List.map_cons, List.map_nil, List.map_take, List.map_drop, List.map_set])
theorem eR21Hear (a : R21Acceptor) (a1 : ApiAccept) : Sm (fun r => .tup [encR21Acceptor r.1, .list (r.2.1.map encApiAccept), .b r.2.2]) (dR21Hear (encR21Acceptor a) (encApiAccept a1)) (tR21Hear a a1) := by
  unfold dR21Hear tR21Hear
  refine st_gA (soIIIIBISLL (st_gA (soIIS ?_)))
  refine st_bd (f := fun r => [.b r]) ?_ fun w => ?_
  · refine st_bd (eR18May a1) fun rA => ?_
    refine st_gB ?_
    refine st_ifb ?_ ?_
    · exact st_some (rfl)
    · refine st_bd (eR07N a.S) fun rA1 => ?_
      refine st_gI ?_
      refine st_if ?_ ?_
      · exact st_some (rfl)
      · exact st_some (rfl)
  · refine st_gC (st_gB (st_gN ?_))
    refine st_ifb ?_ ?_
    · exact st_some (rfl)
    · refine st_bd (eR18Add a.Votes a1) fun rA2 => ?_
      refine st_gT (st_gC (st_gA (st_gC (st_gL (st_gN (st_gC (st_gB (st_gN ?_))))))))
      refine st_bd (eR19Make a.S rA2.1) fun rA3 => ?_
      refine st_gT (st_gC (st_gL (st_gC (st_gB (st_gN ?_)))))
      refine st_bd (eR19Of a.Proof) fun rA4 => ?_
      refine st_gT (soISB ?_)
      refine st_bd (f := fun r => [.b r]) ?_ fun w1 => ?_
      · refine st_ifb ?_ ?_
        · exact st_some (rfl)
        · refine st_idx (f := encApiAccept) (rfl) fun y => ?_
          refine st_gA (soIIS ?_)
          exact st_some (rfl)
      · refine st_gC (st_gB (st_gN ?_))
        refine st_ifb ?_ ?_
        · exact st_some (rfl)
        · exact st_some (rfl)
theorem eL21AcceptorTurns (a : AcceptorAcceptor) (a1 : L21Call) : Sm MV.b (dL21AcceptorTurns (encAcceptorAcceptor a) (encL21Call a1)) (tL21AcceptorTurns a a1) := by
  unfold dL21AcceptorTurns tL21AcceptorTurns
  refine st_gA (soIIIIBISLL (st_gA (st_gC (st_gI (st_gC (st_gS (st_gC (st_gL (soIIS ?_)))))))))
  refine st_bd (f := fun r => [.b r]) ?_ fun w => ?_
  · refine st_bd (eL21Few a) fun rA => ?_
    refine st_gB ?_
    refine st_ifb ?_ ?_
    · exact st_some (rfl)
    · refine st_bd (eL21Short a1.Cert) fun rA1 => ?_
      refine st_gB ?_
      refine st_ifb ?_ ?_
      · exact st_some (rfl)
      · refine st_if ?_ ?_
        · exact st_some (rfl)
        · refine st_if ?_ ?_
          · exact st_some (rfl)
          · refine st_bd (eL21Plain a) fun rA2 => ?_
            refine st_gA (soIIIIBISLL ?_)
            refine st_bd (eR21Right rA2) fun rA3 => ?_
            refine st_gB ?_
            exact st_some (rfl)
  · refine st_gC (st_gB (st_gN ?_))
    refine st_ifb ?_ ?_
    · refine st_bd (eL21Alive) fun rA4 => ?_
      refine st_gB ?_
      exact st_some (rfl)
    · refine st_bd (eL21Plain a) fun rA5 => ?_
      refine st_gA (soIIIIBISLL ?_)
      refine st_bd (eAcceptorEnter a a1.View) fun rA6 => ?_
      refine st_gT (st_gC (st_gA (soIIIIBISLL (st_gC (st_gA (soIIBISL (st_gC (st_gB (st_gN ?_)))))))))
      refine st_bd (eR21Enter rA5 a1.View) fun rA7 => ?_
      refine st_gT (st_gC (st_gA (soIIIIBISLL (st_gC (st_gA (soIIBISL (st_gC (st_gB (st_gN ?_)))))))))
      refine st_bd (f := fun r => [.b r]) ?_ fun w1 => ?_
      · refine st_bd (eL21Plain rA6.1) fun rA8 => ?_
        refine st_gA (soIIIIBISLL ?_)
        refine st_bd (eR21Same rA8 rA7.1) fun rA9 => ?_
        refine st_gB ?_
        refine st_ifb ?_ ?_
        · exact st_some (rfl)
        · refine st_bd (eR20One rA6.2.1 rA7.2.1) fun rA10 => ?_
          refine st_gB ?_
          refine st_ifb ?_ ?_
          · exact st_some (rfl)
          · exact st_some (rfl)
      · refine st_gC (st_gB (st_gN ?_))
        refine st_ifb ?_ ?_
        · exact st_some (rfl)
        · refine st_bd (eAcceptorPropose a a1.View a1.Value a1.Cert) fun rA11 => ?_
          refine st_gT (st_gC (st_gA (soIIIIBISLL (st_gC (st_gA (soIIS (st_gC (st_gB (st_gN ?_)))))))))
          refine st_bd (eR21Propose rA5 a1.View a1.Value a1.Cert) fun rA12 => ?_
          refine st_gT (st_gC (st_gA (soIIIIBISLL (st_gC (st_gA (soIIS (st_gC (st_gB (st_gN ?_)))))))))
          refine st_bd (f := fun r => [.b r]) ?_ fun w2 => ?_
          · refine st_bd (eL21Plain rA11.1) fun rA13 => ?_
            refine st_gA (soIIIIBISLL ?_)
            refine st_bd (eR21Same rA13 rA12.1) fun rA14 => ?_
            refine st_gB ?_
            refine st_ifb ?_ ?_
            · exact st_some (rfl)
            · refine st_ifb ?_ ?_
              · exact st_some (rfl)
              · exact st_some (rfl)
          · refine st_gC (st_gB (st_gN ?_))
            refine st_ifb ?_ ?_
            · exact st_some (rfl)
            · refine st_bd (eAcceptorHear a a1.Vote) fun rA15 => ?_
              refine st_gT (st_gC (st_gA (soIIIIBISLL (st_gC (st_gL (st_gC (st_gB (st_gN ?_))))))))
              refine st_bd (eR21Hear rA5 a1.Vote) fun rA16 => ?_
              refine st_gT (st_gC (st_gA (soIIIIBISLL (st_gC (st_gL (st_gC (st_gB (st_gN ?_))))))))
              refine st_bd (f := fun r => [.b r]) ?_ fun w3 => ?_
              · refine st_bd (eL21Alive) fun rA17 => ?_
                refine st_gB ?_
                refine st_ifb ?_ ?_
                · refine st_bd (eL21Plain rA15.1) fun rA18 => ?_
                  refine st_gA (soIIIIBISLL ?_)
                  refine st_bd (eR21Same rA18 rA16.1) fun rA19 => ?_
                  refine st_gB ?_
                  refine st_ifb ?_ ?_
                  · refine st_bd (eR18Same rA15.2.1 rA16.2.1) fun rA20 => ?_
                    refine st_gB ?_
                    refine st_ifb ?_ ?_
                    · refine st_if ?_ ?_
                      · refine st_bd (eL21Plain a) fun rA21 => ?_
                        refine st_gA (soIIIIBISLL ?_)
                        refine st_bd (eR21Same rA21 rA5) fun rA22 => ?_
                        refine st_gB ?_
                        exact st_some (rfl)
                      · exact st_some (rfl)
                    · exact st_some (rfl)
                  · exact st_some (rfl)
                · exact st_some (rfl)
              · refine st_gC (st_gB (st_gN ?_))
                exact st_some (rfl)
end Dn.S
