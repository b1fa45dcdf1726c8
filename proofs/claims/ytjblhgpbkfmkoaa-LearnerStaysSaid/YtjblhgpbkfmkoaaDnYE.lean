import Derived.Test.YtjblhgpbkfmkoaaDnYD
/-
  Typed and plain functions agree. Conditions: none.
-/
open Go Dn
set_option linter.unusedVariables false
set_option linter.unusedSimpArgs false
set_option maxRecDepth 100000
namespace Dn.S
theorem eSizeSizePair (sA : SizeSize) : Sm (fun x : Nat × Nat => MV.raw (.complex .f64 x.1 x.2)) (dSizeSizePair (encSizeSize sA)) (tSizeSizePair sA) := by
  unfold dSizeSizePair tSizeSizePair
  refine st_gA (st_gC (st_gI (st_gC (st_gI (st_gN ?_)))))
  exact st_some (rfl)
theorem eSizeSizeOf (sA : SizeSize) (times : Nat × Nat) : Sm (MV.i .i64) (dSizeSizeOf (encSizeSize sA) (.raw (.complex .f64 times.1 times.2))) (tSizeSizeOf sA times) := by
  unfold dSizeSizeOf tSizeSizeOf
  refine st_gA (st_gC (st_gI (st_gC (st_gI (st_gN (st_gRr ?_))))))
  refine st_bd (eSizeSizePair sA) fun rA => ?_
  refine st_gRr (st_gCx (st_gCx ?_))
  refine st_same fun f => ?_
  refine st_gCx (st_gCx ?_)
  refine st_same fun f1 => ?_
  refine st_same fun f2 => ?_
  refine st_same fun n => ?_
  refine st_chk ?_
  exact st_some (rfl)
theorem eSizeN (sA : SizeSize) : Sm (MV.i .i64) (dSizeN (encSizeSize sA)) (tSizeN sA) := by
  unfold dSizeN tSizeN
  refine st_gA (st_gC (st_gI (st_gC (st_gI (st_gN ?_)))))
  refine st_bd (eSizeSizeOf sA (4613937818241073152, 4611686018427387904)) fun rA => ?_
  refine st_gI ?_
  exact st_some (rfl)
theorem eSizeRight (sA : SizeSize) : Sm MV.b (dSizeRight (encSizeSize sA)) (tSizeRight sA) := by
  unfold dSizeRight tSizeRight
  refine st_gA (st_gC (st_gI (st_gC (st_gI (st_gN ?_)))))
  refine st_bd (f := fun r => [.b r]) ?_ fun w => ?_
  · refine st_if ?_ ?_
    · refine st_if ?_ ?_
      · refine st_if ?_ ?_
        · exact st_some (rfl)
        · exact st_some (rfl)
      · exact st_some (rfl)
    · exact st_some (rfl)
  · refine st_gC (st_gB (st_gN ?_))
    exact st_some (rfl)
theorem eSizeProof (sA : SizeSize) : Sm (MV.i .i64) (dSizeProof (encSizeSize sA)) (tSizeProof sA) := by
  unfold dSizeProof tSizeProof
  refine st_gA (st_gC (st_gI (st_gC (st_gI (st_gN ?_)))))
  refine st_bd (eSizeSizeOf sA (4611686018427387904, 4607182418800017408)) fun rA => ?_
  refine st_gI ?_
  exact st_some (rfl)
theorem eTallyMay (a : ApiAccept) : Sm MV.b (dTallyMay (encApiAccept a)) (tTallyMay a) := by
  unfold dTallyMay tTallyMay
  refine st_gA (st_gC (st_gI (st_gC (st_gI (st_gC (st_gS (st_gN ?_)))))))
  refine st_bd (f := fun r => [.b r]) ?_ fun w => ?_
  · refine st_if ?_ ?_
    · refine st_if ?_ ?_
      · refine st_if ?_ ?_
        · exact st_some (rfl)
        · exact st_some (rfl)
      · exact st_some (rfl)
    · exact st_some (rfl)
  · refine st_gC (st_gB (st_gN ?_))
    exact st_some (rfl)
theorem eTallyRight (t : TallyTally) : Sm MV.b (dTallyRight (encTallyTally t)) (tTallyRight t) := by
  unfold dTallyRight tTallyRight
  refine st_gA (st_gC (st_gL (st_gN (st_len (n := t.L.length) (by simp only [List.length_map, List.length_cons, List.length_nil]) ?_))))
  refine st_bd (st_loop (fun r => [.i .i64 r]) (Sum.elim (fun r => (2, [])) (fun r => (1, [.b r]))) (rfl) fun st => ?_) fun w => ?_
  · unfold tTallyRightL1
    refine st_gC (st_gI (st_gN ?_))
    refine st_if ?_ ?_
    · refine st_idx (f := encApiAccept) (rfl) fun y => ?_
      refine st_gA (st_gC (st_gI (st_gC (st_gI (st_gC (st_gS (st_gN ?_)))))))
      refine st_bd (f := fun r => [.b r]) ?_ fun w1 => ?_
      · refine st_bd (eTallyMay y) fun rA => ?_
        refine st_gB ?_
        refine st_ifb ?_ ?_
        · exact st_some (rfl)
        · refine st_if ?_ ?_
          · refine st_idx (f := encApiAccept) (rfl) fun y1 => ?_
            refine st_gA (st_gC (st_gI (st_gC (st_gI (st_gC (st_gS (st_gN ?_)))))))
            exact st_some (rfl)
          · exact st_some (rfl)
      · refine st_gC (st_gB (st_gN ?_))
        refine st_ifb ?_ ?_
        · exact st_some (rfl)
        · exact st_some (rfl)
    · exact st_some (rfl)
  · rcases w with p1 | p2
    · refine st_ifT rfl (st_gN ?_)
      exact st_some (rfl)
    · refine st_ifF rfl (st_tt rfl (st_gC (st_gB (st_gN ?_))))
      exact st_some (rfl)
theorem eTallyVoters (t : TallyTally) (view : Int) (value : List UInt8) : Sm (encL encApiAccept) (dTallyVoters (encTallyTally t) (.i .i64 view) (.s value)) (tTallyVoters t view value) := by
  unfold dTallyVoters tTallyVoters
  refine st_gA (st_gC (st_gL (st_gN (st_gI (st_gS (st_len (n := t.L.length) (by simp only [List.length_map, List.length_cons, List.length_nil]) ?_))))))
  refine st_bd (st_loop (fun r => [.list (r.1.map encApiAccept), .i .i64 r.2]) (fun r => (2, [.list (r.map encApiAccept)])) (rfl) fun st => ?_) fun w => ?_
  · unfold tTallyVotersL1
    refine st_gC (st_gL (st_gC (st_gI (st_gN ?_))))
    refine st_if ?_ ?_
    · refine st_idx (f := encApiAccept) (rfl) fun y => ?_
      refine st_gA (st_gC (st_gI (st_gC (st_gI (st_gC (st_gS (st_gN ?_)))))))
      refine st_bd (f := fun r => [.b r]) ?_ fun w1 => ?_
      · refine st_if ?_ ?_
        · exact st_some (rfl)
        · exact st_some (rfl)
      · refine st_gC (st_gB (st_gN ?_))
        refine st_bd (f := (fun r => (0, [.list (r.map encApiAccept)]))) ?_ fun w2 => ?_
        · refine st_ifb ?_ ?_
          · refine st_len (n := st.1.length) (by simp only [List.length_map, List.length_cons, List.length_nil]) (st_len (n := ([y] : List ApiAccept).length) (by simp only [List.length_map, List.length_cons, List.length_nil]) (st_chk ?_))
            exact st_some (by first | (simp only [Sum.elim_inl, Sum.elim_inr, List.map_replicate, List.map_append, List.map_cons, List.map_nil, List.map_take, List.map_drop, List.map_set]; done) | (simp only [Sum.elim_inl, Sum.elim_inr, List.map_replicate, List.map_append, List.map_cons, List.map_nil, List.map_take, List.map_drop, List.map_set, encApiAccept, lvApiAccept, encAcceptorAcceptor, lvAcceptorAcceptor, encSizeSize, lvSizeSize, encTallyTally, lvTallyTally, encApiReport, lvApiReport]; done))
          · exact st_some (rfl)
        · refine st_tt rfl (st_gC (st_gL (st_gN ?_)))
          exact st_some (rfl)
    · exact st_some (rfl)
  · refine st_tt rfl (st_gC (st_gL (st_gN ?_)))
    exact st_some (rfl)
theorem eTallyCount (t : TallyTally) (view : Int) (value : List UInt8) : Sm (MV.i .i64) (dTallyCount (encTallyTally t) (.i .i64 view) (.s value)) (tTallyCount t view value) := by
  unfold dTallyCount tTallyCount
  refine st_gA (st_gC (st_gL (st_gN (st_gI (st_gS ?_)))))
  refine st_bd (eTallyVoters t view value) fun rA => ?_
  refine st_gL (st_len (n := rA.length) (by simp only [List.length_map, List.length_cons, List.length_nil]) ?_)
  exact st_some (rfl)
theorem eProofRight (sA : SizeSize) (p : List ApiAccept) : Sm MV.b (dProofRight (encSizeSize sA) (.list (p.map encApiAccept))) (tProofRight sA p) := by
  unfold dProofRight tProofRight
  refine st_gA (st_gC (st_gI (st_gC (st_gI (st_gN (st_gL ?_))))))
  refine st_bd (f := fun r => [.b r]) ?_ fun w => ?_
  · refine st_bd (eSizeRight sA) fun rA => ?_
    refine st_gB ?_
    refine st_ifb ?_ ?_
    · exact st_some (rfl)
    · refine st_len (n := p.length) (by simp only [List.length_map, List.length_cons, List.length_nil]) ?_
      refine st_bd (eSizeProof sA) fun rA1 => ?_
      refine st_gI ?_
      refine st_ifb ?_ ?_
      · exact st_some (rfl)
      · refine st_bd (eTallyRight (⟨p⟩ : TallyTally)) fun rA2 => ?_
        refine st_gB ?_
        exact st_some (rfl)
  · refine st_gC (st_gB (st_gN ?_))
    refine st_ifb ?_ ?_
    · exact st_some (rfl)
    · refine st_bd (f := fun r => [.b r]) ?_ fun w1 => ?_
      · refine st_len (n := p.length) (by simp only [List.length_map, List.length_cons, List.length_nil]) ?_
        refine st_idx (f := encApiAccept) (rfl) fun y => ?_
        refine st_gA (st_gC (st_gI (st_gC (st_gI (st_gC (st_gS (st_gN ?_)))))))
        refine st_bd (eSizeN sA) fun rA3 => ?_
        refine st_gI ?_
        refine st_if ?_ ?_
        · refine st_idx (f := encApiAccept) (rfl) fun y1 => ?_
          refine st_gA (st_gC (st_gI (st_gC (st_gI (st_gC (st_gS (st_gN ?_)))))))
          refine st_idx (f := encApiAccept) (rfl) fun y2 => ?_
          refine st_gA (st_gC (st_gI (st_gC (st_gI (st_gC (st_gS (st_gN (st_len (n := p.length) (by simp only [List.length_map, List.length_cons, List.length_nil]) ?_))))))))
          refine st_bd (eTallyCount (⟨p⟩ : TallyTally) y1.View y2.Value) fun rA4 => ?_
          refine st_gI ?_
          exact st_some (rfl)
        · exact st_some (rfl)
      · refine st_gC (st_gB (st_gN ?_))
        exact st_some (rfl)
theorem eProofOf (p : List ApiAccept) : Sm (fun r => .tup [.i .i64 r.1, .s r.2.1, .b r.2.2]) (dProofOf (.list (p.map encApiAccept))) (tProofOf p) := by
  unfold dProofOf tProofOf
  refine st_gL (st_len (n := p.length) (by simp only [List.length_map, List.length_cons, List.length_nil]) ?_)
  refine st_if ?_ ?_
  · exact st_some (rfl)
  · refine st_idx (f := encApiAccept) (rfl) fun y => ?_
    refine st_gA (st_gC (st_gI (st_gC (st_gI (st_gC (st_gS (st_gN ?_)))))))
    refine st_idx (f := encApiAccept) (rfl) fun y1 => ?_
    refine st_gA (st_gC (st_gI (st_gC (st_gI (st_gC (st_gS (st_gN ?_)))))))
    exact st_some (rfl)
theorem eR07Right (sA : R07Size) : Sm MV.b (dR07Right (encR07Size sA)) (tR07Right sA) := by
  unfold dR07Right tR07Right
  refine st_gA (st_gC (st_gI (st_gC (st_gI (st_gN ?_)))))
  refine st_bd (f := fun r => [.b r]) ?_ fun w => ?_
  · refine st_if ?_ ?_
    · refine st_if ?_ ?_
      · refine st_if ?_ ?_
        · exact st_some (rfl)
        · exact st_some (rfl)
      · exact st_some (rfl)
    · exact st_some (rfl)
  · refine st_gC (st_gB (st_gN ?_))
    exact st_some (rfl)
theorem eR07N (sA : R07Size) : Sm (MV.i .i64) (dR07N (encR07Size sA)) (tR07N sA) := by
  unfold dR07N tR07N
  refine st_gA (st_gC (st_gI (st_gC (st_gI (st_gN ?_)))))
  exact st_some (rfl)
theorem eSlicesEqualApiAccept (s1 : List ApiAccept) (s2 : List ApiAccept) : Sm MV.b (dSlicesEqualApiAccept (.list (s1.map encApiAccept)) (.list (s2.map encApiAccept))) (tSlicesEqualApiAccept s1 s2) := by
  unfold dSlicesEqualApiAccept tSlicesEqualApiAccept
  refine st_gL (st_gL (st_len (n := s1.length) (by simp only [List.length_map, List.length_cons, List.length_nil]) (st_len (n := s2.length) (by simp only [List.length_map, List.length_cons, List.length_nil]) ?_)))
  refine st_ifb ?_ ?_
  · exact st_some (rfl)
  · refine st_len (n := s1.length) (by simp only [List.length_map, List.length_cons, List.length_nil]) ?_
    refine st_bd (st_loop (fun r => [.i .i64 r]) (Sum.elim (fun r => (2, [])) (fun r => (1, [.b r]))) (rfl) fun st => ?_) fun w => ?_
    · unfold tSlicesEqualApiAcceptL1
      refine st_gC (st_gI (st_gN ?_))
      refine st_if ?_ ?_
      · refine st_idx (f := encApiAccept) (rfl) fun y => ?_
        refine st_gA (st_gC (st_gI (st_gC (st_gI (st_gC (st_gS (st_gN ?_)))))))
        refine st_idx (f := encApiAccept) (rfl) fun y1 => ?_
        refine st_gA (st_gC (st_gI (st_gC (st_gI (st_gC (st_gS (st_gN ?_)))))))
        refine st_ifb ?_ ?_
        · exact st_some (rfl)
        · exact st_some (rfl)
      · exact st_some (rfl)
    · rcases w with p1 | p2
      · refine st_ifT rfl (st_gN ?_)
        exact st_some (rfl)
      · refine st_ifF rfl (st_tt rfl (st_gC (st_gB (st_gN ?_))))
        exact st_some (rfl)
theorem eTallySame (a : List ApiAccept) (b : List ApiAccept) : Sm MV.b (dTallySame (.list (a.map encApiAccept)) (.list (b.map encApiAccept))) (tTallySame a b) := by
  unfold dTallySame tTallySame
  refine st_gL (st_gL ?_)
  refine st_bd (eSlicesEqualApiAccept a b) fun rA => ?_
  refine st_gB ?_
  exact st_some (rfl)
theorem eR18May (a : ApiAccept) : Sm MV.b (dR18May (encApiAccept a)) (tR18May a) := by
  unfold dR18May tR18May
  refine st_gA (st_gC (st_gI (st_gC (st_gI (st_gC (st_gS (st_gN ?_)))))))
  refine st_bd (f := fun r => [.b r]) ?_ fun w => ?_
  · refine st_if ?_ ?_
    · refine st_if ?_ ?_
      · refine st_if ?_ ?_
        · exact st_some (rfl)
        · exact st_some (rfl)
      · exact st_some (rfl)
    · exact st_some (rfl)
  · refine st_gC (st_gB (st_gN ?_))
    exact st_some (rfl)
theorem eR18Right (t : R18Tally) : Sm MV.b (dR18Right (encR18Tally t)) (tR18Right t) := by
  unfold dR18Right tR18Right
  refine st_gA (st_gC (st_gL (st_gN ?_)))
  refine st_bd (st_loop (fun r => [.i .i64 r]) (Sum.elim (fun r => (2, [])) (fun r => (1, [.b r]))) (rfl) fun st => ?_) fun w => ?_
  · unfold tR18RightL1
    refine st_gC (st_gI (st_gN (st_len (n := t.L.length) (by simp only [List.length_map, List.length_cons, List.length_nil]) ?_)))
    refine st_if ?_ ?_
    · refine st_bd (f := fun r => [.b r]) ?_ fun w1 => ?_
      · refine st_idx (f := encApiAccept) (rfl) fun y => ?_
        refine st_gA (st_gC (st_gI (st_gC (st_gI (st_gC (st_gS (st_gN ?_)))))))
        refine st_bd (eR18May y) fun rA => ?_
        refine st_gB ?_
        refine st_ifb ?_ ?_
        · exact st_some (rfl)
        · refine st_if ?_ ?_
          · refine st_idx (f := encApiAccept) (rfl) fun y1 => ?_
            refine st_gA (st_gC (st_gI (st_gC (st_gI (st_gC (st_gS (st_gN ?_)))))))
            refine st_idx (f := encApiAccept) (rfl) fun y2 => ?_
            refine st_gA (st_gC (st_gI (st_gC (st_gI (st_gC (st_gS (st_gN ?_)))))))
            exact st_some (rfl)
          · exact st_some (rfl)
      · refine st_gC (st_gB (st_gN ?_))
        refine st_ifb ?_ ?_
        · exact st_some (rfl)
        · exact st_some (rfl)
    · exact st_some (rfl)
  · rcases w with p1 | p2
    · refine st_ifT rfl (st_gN ?_)
      exact st_some (rfl)
    · refine st_ifF rfl (st_tt rfl (st_gC (st_gB (st_gN ?_))))
      exact st_some (rfl)
theorem eR07Proof (sA : R07Size) : Sm (MV.i .i64) (dR07Proof (encR07Size sA)) (tR07Proof sA) := by
  unfold dR07Proof tR07Proof
  refine st_gA (st_gC (st_gI (st_gC (st_gI (st_gN ?_)))))
  exact st_some (rfl)
theorem eR19Right (a : R07Size) (a1 : List ApiAccept) : Sm MV.b (dR19Right (encR07Size a) (.list (a1.map encApiAccept))) (tR19Right a a1) := by
  unfold dR19Right tR19Right
  refine st_gA (st_gC (st_gI (st_gC (st_gI (st_gN (st_gL ?_))))))
  refine st_bd (f := fun r => [.b r]) ?_ fun w => ?_
  · refine st_bd (eR07Right a) fun rA => ?_
    refine st_gB ?_
    refine st_ifb ?_ ?_
    · exact st_some (rfl)
    · refine st_len (n := a1.length) (by simp only [List.length_map, List.length_cons, List.length_nil]) ?_
      refine st_bd (eR07Proof a) fun rA1 => ?_
      refine st_gI ?_
      exact st_some (rfl)
  · refine st_gC (st_gB (st_gN ?_))
    refine st_ifb ?_ ?_
    · exact st_some (rfl)
    · refine st_bd (st_loop (fun r => [.i .i64 r]) (Sum.elim (fun r => (2, [])) (fun r => (1, [.b r]))) (rfl) fun st => ?_) fun w1 => ?_
      · unfold tR19RightL1
        refine st_gC (st_gI (st_gN (st_len (n := a1.length) (by simp only [List.length_map, List.length_cons, List.length_nil]) ?_)))
        refine st_if ?_ ?_
        · refine st_idx (f := encApiAccept) (rfl) fun y => ?_
          refine st_gA (st_gC (st_gI (st_gC (st_gI (st_gC (st_gS (st_gN ?_)))))))
          refine st_bd (f := fun r => [.b r]) ?_ fun w2 => ?_
          · refine st_bd (eR18May y) fun rA2 => ?_
            refine st_gB ?_
            refine st_ifb ?_ ?_
            · exact st_some (rfl)
            · refine st_bd (eR07N a) fun rA3 => ?_
              refine st_gI ?_
              refine st_if ?_ ?_
              · exact st_some (rfl)
              · refine st_idx (f := encApiAccept) (rfl) fun y1 => ?_
                refine st_gA (st_gC (st_gI (st_gC (st_gI (st_gC (st_gS (st_gN ?_)))))))
                refine st_ifb ?_ ?_
                · exact st_some (rfl)
                · refine st_idx (f := encApiAccept) (rfl) fun y2 => ?_
                  refine st_gA (st_gC (st_gI (st_gC (st_gI (st_gC (st_gS (st_gN ?_)))))))
                  refine st_ifb ?_ ?_
                  · exact st_some (rfl)
                  · refine st_if ?_ ?_
                    · refine st_idx (f := encApiAccept) (rfl) fun y3 => ?_
                      refine st_gA (st_gC (st_gI (st_gC (st_gI (st_gC (st_gS (st_gN ?_)))))))
                      exact st_some (rfl)
                    · exact st_some (rfl)
          · refine st_gC (st_gB (st_gN ?_))
            refine st_ifb ?_ ?_
            · exact st_some (rfl)
            · exact st_some (rfl)
        · exact st_some (rfl)
      · rcases w1 with p1 | p2
        · refine st_ifT rfl (st_gN ?_)
          exact st_some (rfl)
        · refine st_ifF rfl (st_tt rfl (st_gC (st_gB (st_gN ?_))))
          exact st_some (rfl)
theorem eL22Votes (lA : List ApiAccept) : Sm MV.b (dL22Votes (.list (lA.map encApiAccept))) (tL22Votes lA) := by
  unfold dL22Votes tL22Votes
  refine st_gL ?_
  refine st_bd (st_loop (fun r => [.i .i64 r]) (Sum.elim (fun r => (2, [])) (fun r => (1, [.b r]))) (rfl) fun st => ?_) fun w => ?_
  · unfold tL22VotesL1
    refine st_gC (st_gI (st_gN (st_len (n := lA.length) (by simp only [List.length_map, List.length_cons, List.length_nil]) ?_)))
    refine st_if ?_ ?_
    · refine st_bd (f := fun r => [.b r]) ?_ fun w1 => ?_
      · refine st_if ?_ ?_
        · exact st_some (rfl)
        · refine st_idx (f := encApiAccept) (rfl) fun y => ?_
          refine st_gA (st_gC (st_gI (st_gC (st_gI (st_gC (st_gS (st_gN ?_)))))))
          exact st_some (rfl)
      · refine st_gC (st_gB (st_gN ?_))
        refine st_ifb ?_ ?_
        · exact st_some (rfl)
        · exact st_some (rfl)
    · exact st_some (rfl)
  · rcases w with p1 | p2
    · refine st_ifT rfl (st_gN ?_)
      exact st_some (rfl)
    · refine st_ifF rfl (st_tt rfl (st_gC (st_gB (st_gN ?_))))
      exact st_some (rfl)
theorem eLearnerNew (sA : SizeSize) : Sm (fun r => .tup [encLearnerLearner r.1, .i .i64 r.2]) (dLearnerNew (encSizeSize sA)) (tLearnerNew sA) := by
  unfold dLearnerNew tLearnerNew
  refine st_gA (st_gC (st_gI (st_gC (st_gI (st_gN ?_)))))
  refine st_bd (eSizeRight sA) fun rA => ?_
  refine st_gB ?_
  refine st_ifb ?_ ?_
  · exact st_some (rfl)
  · exact st_some (rfl)
theorem eSizeWeak (sA : SizeSize) : Sm (MV.i .i64) (dSizeWeak (encSizeSize sA)) (tSizeWeak sA) := by
  unfold dSizeWeak tSizeWeak
  refine st_gA (st_gC (st_gI (st_gC (st_gI (st_gN ?_)))))
  refine st_bd (eSizeSizeOf sA (4607182418800017408, 0)) fun rA => ?_
  refine st_gI ?_
  exact st_some (rfl)
theorem eCmpIsNaNInt (x : Int) : Sm MV.b (dCmpIsNaNInt (.i .i64 x)) (tCmpIsNaNInt x) := by
  unfold dCmpIsNaNInt tCmpIsNaNInt
  refine st_gI ?_
  exact st_some (rfl)
theorem eCmpCompareInt (x : Int) (y : Int) : Sm (MV.i .i64) (dCmpCompareInt (.i .i64 x) (.i .i64 y)) (tCmpCompareInt x y) := by
  unfold dCmpCompareInt tCmpCompareInt
  refine st_gI (st_gI ?_)
  refine st_bd (eCmpIsNaNInt x) fun rA => ?_
  refine st_gB ?_
  refine st_bd (eCmpIsNaNInt y) fun rA1 => ?_
  refine st_gB ?_
  refine st_ifb ?_ ?_
  · refine st_ifb ?_ ?_
    · exact st_some (rfl)
    · exact st_some (rfl)
  · refine st_ifb ?_ ?_
    · exact st_some (rfl)
    · refine st_if ?_ ?_
      · exact st_some (rfl)
      · refine st_if ?_ ?_
        · exact st_some (rfl)
        · exact st_some (rfl)
theorem eTallyAddF1 (x : ApiAccept) (byA : Int) : Sm (MV.i .i64) (dTallyAddF1 (encApiAccept x) (.i .i64 byA)) (tTallyAddF1 x byA) := by
  unfold dTallyAddF1 tTallyAddF1
  refine st_gA (st_gC (st_gI (st_gC (st_gI (st_gC (st_gS (st_gN (st_gI ?_))))))))
  refine st_bd (eCmpCompareInt x.By byA) fun rA => ?_
  refine st_gI ?_
  exact st_some (rfl)
theorem eSlicesBinarySearchFuncApiAcceptInt (x : List ApiAccept) (target : Int) (cmp : ApiAccept → Int → Option Int) {fn2 : Nat} {cap2 : List MV} (hgcmp : gv fn2 = false) (hccmpSlicesBinarySearchFuncApiAcceptInt : ∀ (u0 : ApiAccept) (u1 : Int), Sm (MV.i .i64) (preSlicesBinarySearchFuncApiAcceptInt fn2 ([encApiAccept u0, .i .i64 u1] ++ cap2)) (cmp u0 u1)) : Sm (fun r => .tup [.i .i64 r.1, .b r.2]) (dSlicesBinarySearchFuncApiAcceptInt (.list (x.map encApiAccept)) (.i .i64 target) (.func fn2 cap2)) (tSlicesBinarySearchFuncApiAcceptInt x target cmp) := by
  unfold dSlicesBinarySearchFuncApiAcceptInt tSlicesBinarySearchFuncApiAcceptInt
  refine st_gL (st_gI (st_gRf (st_len (n := x.length) (by simp only [List.length_map, List.length_cons, List.length_nil]) ?_)))
  refine st_bd (st_loop (fun r => [.i .i64 r.1, .i .i64 r.2]) (fun r => (2, [.i .i64 r])) (rfl) fun st => ?_) fun w => ?_
  · unfold tSlicesBinarySearchFuncApiAcceptIntL1
    refine st_gC (st_gI (st_gC (st_gI (st_gN ?_))))
    refine st_if ?_ ?_
    · refine st_chk ?_
      refine st_idx (f := encApiAccept) (rfl) fun y => ?_
      refine st_gA (st_gC (st_gI (st_gC (st_gI (st_gC (st_gS (st_gN (st_gFn (st_tt (by rw [hgcmp]; rfl) ?_)))))))))
      refine st_bd (hccmpSlicesBinarySearchFuncApiAcceptInt y target) fun rA => ?_
      refine st_gI ?_
      refine st_bd (f := (fun r => (0, [.i .i64 r.1, .i .i64 r.2]))) ?_ fun w1 => ?_
      · refine st_if ?_ ?_
        · exact st_some (rfl)
        · exact st_some (rfl)
      · refine st_tt rfl (st_gC (st_gI (st_gC (st_gI (st_gN ?_)))))
        exact st_some (rfl)
    · exact st_some (rfl)
  · refine st_tt rfl (st_gC (st_gI (st_gN ?_)))
    refine st_bd (f := fun r => [.i .i64 r.1, .b r.2]) ?_ fun w2 => ?_
    · refine st_if ?_ ?_
      · refine st_idx (f := encApiAccept) (rfl) fun y1 => ?_
        refine st_gA (st_gC (st_gI (st_gC (st_gI (st_gC (st_gS (st_gN (st_gFn (st_tt (by rw [hgcmp]; rfl) ?_)))))))))
        refine st_bd (hccmpSlicesBinarySearchFuncApiAcceptInt y1 target) fun rA1 => ?_
        refine st_gI ?_
        exact st_some (rfl)
      · exact st_some (rfl)
    · refine st_gC (st_gI (st_gC (st_gB (st_gN ?_))))
      exact st_some (rfl)
theorem eTallyAdd (t : TallyTally) (a : ApiAccept) : Sm (fun r => .tup [encTallyTally r.1, .b r.2]) (dTallyAdd (encTallyTally t) (encApiAccept a)) (tTallyAdd t a) := by
  unfold dTallyAdd tTallyAdd
  refine st_gA (st_gC (st_gL (st_gN (st_gA (st_gC (st_gI (st_gC (st_gI (st_gC (st_gS (st_gN ?_)))))))))))
  refine st_bd (eTallyMay a) fun rA => ?_
  refine st_gB ?_
  refine st_ifb ?_ ?_
  · exact st_some (rfl)
  · refine st_bd (eSlicesBinarySearchFuncApiAcceptInt t.L a.By tTallyAddF1 (fn2 := 115) (cap2 := []) rfl (fun u2 u3 => Sm.at (atSlicesBinarySearchFuncApiAcceptIntTallyAddF1 _ _) (eTallyAddF1 u2 u3))) fun rA1 => ?_
    refine st_gT (st_gC (st_gI (st_gC (st_gB (st_gN ?_)))))
    refine st_bd (f := fun r => [.b r]) ?_ fun w => ?_
    · refine st_ifb ?_ ?_
      · refine st_idx (f := encApiAccept) (rfl) fun y => ?_
        refine st_gA (st_gC (st_gI (st_gC (st_gI (st_gC (st_gS (st_gN ?_)))))))
        exact st_some (rfl)
      · exact st_some (rfl)
    · refine st_gC (st_gB (st_gN ?_))
      refine st_ifb ?_ ?_
      · exact st_some (rfl)
      · refine st_bd (e_clone (size := 3) (f := encApiAccept) (fun _ => rfl) t.L) fun rA2 => ?_
        refine st_gF ?_
        refine st_bd (f := (fun r => (0, [.list (r.map encApiAccept)]))) ?_ fun w1 => ?_
        · refine st_ifb ?_ ?_
          · refine st_idx (f := encApiAccept) (rfl) fun y1 => ?_
            refine st_gA (st_gC (st_gI (st_gC (st_gI (st_gC (st_gS (st_gN ?_)))))))
            exact st_some (by first | (simp only [Sum.elim_inl, Sum.elim_inr, List.map_replicate, List.map_append, List.map_cons, List.map_nil, List.map_take, List.map_drop, List.map_set]; done) | (simp only [Sum.elim_inl, Sum.elim_inr, List.map_replicate, List.map_append, List.map_cons, List.map_nil, List.map_take, List.map_drop, List.map_set, encApiAccept, lvApiAccept, encAcceptorAcceptor, lvAcceptorAcceptor, encSizeSize, lvSizeSize, encTallyTally, lvTallyTally, encApiReport, lvApiReport, encR07Size, lvR07Size, encR18Tally, lvR18Tally, encR21Acceptor, lvR21Acceptor, encLearnerLearner, lvLearnerLearner]; done))
          · refine st_bd (e_insert (f := encApiAccept) rA2 rA1.1 ([a] : List ApiAccept)) fun rA3 => ?_
            refine st_gF ?_
            exact st_some (rfl)
        · refine st_tt rfl (st_gC (st_gL (st_gN ?_)))
          exact st_some (rfl)
theorem eTallyBest (a : TallyTally) (a1 : Int) : Sm (fun r => .tup [.i .i64 r.1, .s r.2.1, .b r.2.2]) (dTallyBest (encTallyTally a) (.i .i64 a1)) (tTallyBest a a1) := by
  unfold dTallyBest tTallyBest
  refine st_gA (st_gC (st_gL (st_gN (st_gI (st_len (n := a.L.length) (by simp only [List.length_map, List.length_cons, List.length_nil]) ?_)))))
  refine st_bd (st_loop (fun r => [.list r.1, .i .i64 r.2]) (fun r => (2, [.list r])) (rfl) fun st => ?_) fun w => ?_
  · unfold tTallyBestL1
    refine st_gC (st_gL (st_gC (st_gI (st_gN ?_))))
    refine st_if ?_ ?_
    · refine st_idx (f := encApiAccept) (rfl) fun y => ?_
      refine st_gA (st_gC (st_gI (st_gC (st_gI (st_gC (st_gS (st_gN (st_chk ?_))))))))
      exact st_some (rfl)
    · exact st_some (rfl)
  · refine st_tt rfl (st_gC (st_gL (st_gN (st_len (n := a.L.length) (by simp only [List.length_map, List.length_cons, List.length_nil]) ?_))))
    refine st_bd (st_loop (fun r => [.i .i64 r.1, .s r.2.1, .b r.2.2.1, .i .i64 r.2.2.2]) (fun r => (4, [.i .i64 r.1, .s r.2.1, .b r.2.2])) (rfl) fun st1 => ?_) fun w1 => ?_
    · unfold tTallyBestL2
      refine st_gC (st_gI (st_gC (st_gS (st_gC (st_gB (st_gC (st_gI (st_gN ?_))))))))
      refine st_if ?_ ?_
      · refine st_idx (f := encApiAccept) (rfl) fun y1 => ?_
        refine st_gA (st_gC (st_gI (st_gC (st_gI (st_gC (st_gS (st_gN ?_)))))))
        refine st_bd (f := fun r => [.b r]) ?_ fun w2 => ?_
        · refine st_if ?_ ?_
          · refine st_if ?_ ?_
            · exact st_some (rfl)
            · exact st_some (rfl)
          · exact st_some (rfl)
        · refine st_gC (st_gB (st_gN ?_))
          refine st_bd (f := (fun r => (0, [.i .i64 r.1, .s r.2.1, .b r.2.2]))) ?_ fun w3 => ?_
          · refine st_ifb ?_ ?_
            · exact st_some (rfl)
            · exact st_some (rfl)
          · refine st_tt rfl (st_gC (st_gI (st_gC (st_gS (st_gC (st_gB (st_gN ?_)))))))
            exact st_some (rfl)
      · exact st_some (rfl)
    · refine st_tt rfl (st_gC (st_gI (st_gC (st_gS (st_gC (st_gB (st_gN ?_)))))))
      refine st_ifb ?_ ?_
      · exact st_some (rfl)
      · exact st_some (rfl)
theorem eLearnerLearnerHears2 (lA : LearnerLearner) (t : LearnerLearner) (a : ApiAccept) (need : Int) : Sm (fun r => .wback ((fun r => .tup [.b r.1, .s r.2]) r.1) [.i .i64 r.2.S.F, .i .i64 r.2.S.T, .list (r.2.Accepts.L.map encApiAccept), .list (r.2.Commits.L.map encApiAccept), .list (r.2.Told.L.map encApiAccept), .b r.2.Done, .s r.2.Value]) (dLearnerLearnerHears2 (encLearnerLearner lA) [.i .i64 t.S.F, .i .i64 t.S.T, .list (t.Accepts.L.map encApiAccept), .list (t.Commits.L.map encApiAccept), .list (t.Told.L.map encApiAccept), .b t.Done, .s t.Value] (encApiAccept a) (.i .i64 need)) (tLearnerLearnerHears2 lA t a need) := by
  unfold dLearnerLearnerHears2 tLearnerLearnerHears2
  refine st_gA (st_gC (st_gI (st_gC (st_gI (st_gC (st_gL (st_gC (st_gL (st_gC (st_gL (st_gC ?_)))))))))))
  refine st_gB (st_gC (st_gS (st_gN (st_gA (st_gC (st_gI (st_gC (st_gI (st_gC (st_gS (st_gN ?_)))))))))))
  refine st_gI (st_gC (st_gI (st_gC (st_gI (st_gC (st_gL (st_gC (st_gL (st_gC (st_gL (st_gC ?_)))))))))))
  refine st_gB (st_gC (st_gS (st_gN ?_)))
  refine st_bd (f := fun r => [.b r]) ?_ fun w => ?_
  · refine st_ifb ?_ ?_
    · exact st_some (rfl)
    · refine st_if ?_ ?_
      · exact st_some (rfl)
      · refine st_bd (eSizeN lA.S) fun rA => ?_
        refine st_gI ?_
        refine st_if ?_ ?_
        · exact st_some (rfl)
        · refine st_bd (eTallyMay a) fun rA1 => ?_
          refine st_gB ?_
          exact st_some (rfl)
  · refine st_gC (st_gB (st_gN ?_))
    refine st_ifb ?_ ?_
    · exact st_some (rfl)
    · refine st_bd (eTallyAdd t.Accepts a) fun rA2 => ?_
      refine st_gT (st_gC (st_gA (st_gC (st_gL (st_gN (st_gC (st_gB (st_gN ?_))))))))
      refine st_bd (eTallyBest rA2.1 need) fun rA3 => ?_
      refine st_gT (st_gC (st_gI (st_gC (st_gS (st_gC (st_gB (st_gN ?_)))))))
      exact st_some (rfl)
theorem eLearnerLearnerHears3 (lA : LearnerLearner) (t : LearnerLearner) (a : ApiAccept) (need : Int) : Sm (fun r => .wback ((fun r => .tup [.b r.1, .s r.2]) r.1) [.i .i64 r.2.S.F, .i .i64 r.2.S.T, .list (r.2.Accepts.L.map encApiAccept), .list (r.2.Commits.L.map encApiAccept), .list (r.2.Told.L.map encApiAccept), .b r.2.Done, .s r.2.Value]) (dLearnerLearnerHears3 (encLearnerLearner lA) [.i .i64 t.S.F, .i .i64 t.S.T, .list (t.Accepts.L.map encApiAccept), .list (t.Commits.L.map encApiAccept), .list (t.Told.L.map encApiAccept), .b t.Done, .s t.Value] (encApiAccept a) (.i .i64 need)) (tLearnerLearnerHears3 lA t a need) := by
  unfold dLearnerLearnerHears3 tLearnerLearnerHears3
  refine st_gA (st_gC (st_gI (st_gC (st_gI (st_gC (st_gL (st_gC (st_gL (st_gC (st_gL (st_gC ?_)))))))))))
  refine st_gB (st_gC (st_gS (st_gN (st_gA (st_gC (st_gI (st_gC (st_gI (st_gC (st_gS (st_gN ?_)))))))))))
  refine st_gI (st_gC (st_gI (st_gC (st_gI (st_gC (st_gL (st_gC (st_gL (st_gC (st_gL (st_gC ?_)))))))))))
  refine st_gB (st_gC (st_gS (st_gN ?_)))
  refine st_bd (f := fun r => [.b r]) ?_ fun w => ?_
  · refine st_ifb ?_ ?_
    · exact st_some (rfl)
    · refine st_if ?_ ?_
      · exact st_some (rfl)
      · refine st_bd (eSizeN lA.S) fun rA => ?_
        refine st_gI ?_
        refine st_if ?_ ?_
        · exact st_some (rfl)
        · refine st_bd (eTallyMay a) fun rA1 => ?_
          refine st_gB ?_
          exact st_some (rfl)
  · refine st_gC (st_gB (st_gN ?_))
    refine st_ifb ?_ ?_
    · exact st_some (rfl)
    · refine st_bd (eTallyAdd t.Commits a) fun rA2 => ?_
      refine st_gT (st_gC (st_gA (st_gC (st_gL (st_gN (st_gC (st_gB (st_gN ?_))))))))
      refine st_bd (eTallyBest rA2.1 need) fun rA3 => ?_
      refine st_gT (st_gC (st_gI (st_gC (st_gS (st_gC (st_gB (st_gN ?_)))))))
      exact st_some (rfl)
theorem eLearnerLearnerHears4 (lA : LearnerLearner) (t : LearnerLearner) (a : ApiAccept) (need : Int) : Sm (fun r => .wback ((fun r => .tup [.b r.1, .s r.2]) r.1) [.i .i64 r.2.S.F, .i .i64 r.2.S.T, .list (r.2.Accepts.L.map encApiAccept), .list (r.2.Commits.L.map encApiAccept), .list (r.2.Told.L.map encApiAccept), .b r.2.Done, .s r.2.Value]) (dLearnerLearnerHears4 (encLearnerLearner lA) [.i .i64 t.S.F, .i .i64 t.S.T, .list (t.Accepts.L.map encApiAccept), .list (t.Commits.L.map encApiAccept), .list (t.Told.L.map encApiAccept), .b t.Done, .s t.Value] (encApiAccept a) (.i .i64 need)) (tLearnerLearnerHears4 lA t a need) := by
  unfold dLearnerLearnerHears4 tLearnerLearnerHears4
  refine st_gA (st_gC (st_gI (st_gC (st_gI (st_gC (st_gL (st_gC (st_gL (st_gC (st_gL (st_gC ?_)))))))))))
  refine st_gB (st_gC (st_gS (st_gN (st_gA (st_gC (st_gI (st_gC (st_gI (st_gC (st_gS (st_gN ?_)))))))))))
  refine st_gI (st_gC (st_gI (st_gC (st_gI (st_gC (st_gL (st_gC (st_gL (st_gC (st_gL (st_gC ?_)))))))))))
  refine st_gB (st_gC (st_gS (st_gN ?_)))
  refine st_bd (f := fun r => [.b r]) ?_ fun w => ?_
  · refine st_ifb ?_ ?_
    · exact st_some (rfl)
    · refine st_if ?_ ?_
      · exact st_some (rfl)
      · refine st_bd (eSizeN lA.S) fun rA => ?_
        refine st_gI ?_
        refine st_if ?_ ?_
        · exact st_some (rfl)
        · refine st_bd (eTallyMay a) fun rA1 => ?_
          refine st_gB ?_
          exact st_some (rfl)
  · refine st_gC (st_gB (st_gN ?_))
    refine st_ifb ?_ ?_
    · exact st_some (rfl)
    · refine st_bd (eTallyAdd t.Told a) fun rA2 => ?_
      refine st_gT (st_gC (st_gA (st_gC (st_gL (st_gN (st_gC (st_gB (st_gN ?_))))))))
      refine st_bd (eTallyBest rA2.1 need) fun rA3 => ?_
      refine st_gT (st_gC (st_gI (st_gC (st_gS (st_gC (st_gB (st_gN ?_)))))))
      exact st_some (rfl)
theorem eLearnerTold (lA : LearnerLearner) (byA : Int) (value : List UInt8) : Sm encLearnerLearner (dLearnerTold (encLearnerLearner lA) (.i .i64 byA) (.s value)) (tLearnerTold lA byA value) := by
  unfold dLearnerTold tLearnerTold
  refine st_gA (st_gC (st_gI (st_gC (st_gI (st_gC (st_gL (st_gC (st_gL (st_gC (st_gL (st_gC ?_)))))))))))
  refine st_gB (st_gC (st_gS (st_gN (st_gI (st_gS ?_)))))
  refine st_bd (eSizeWeak lA.S) fun rA => ?_
  refine st_gI ?_
  refine st_bd (eLearnerLearnerHears4 lA lA (⟨byA, 0, value⟩ : ApiAccept) rA) fun rA1 => ?_
  refine st_gW (st_gC (st_gI (st_gC (st_gI (st_gC (st_gL (st_gC (st_gL (st_gC (st_gL (st_gC ?_)))))))))))
  refine st_gB (st_gC (st_gS (st_gN (st_gT (st_gC (st_gB (st_gC (st_gS (st_gN ?_)))))))))
  refine st_bd (f := (fun r => (0, [.i .i64 r.1, .i .i64 r.2.1, .list (r.2.2.1.map encApiAccept), .list (r.2.2.2.1.map encApiAccept), .list (r.2.2.2.2.1.map encApiAccept), .b r.2.2.2.2.2.1, .s r.2.2.2.2.2.2]))) ?_ fun w => ?_
  · refine st_ifb ?_ ?_
    · exact st_some (rfl)
    · exact st_some (rfl)
  · refine st_tt rfl (st_gC (st_gI (st_gC (st_gI (st_gC (st_gL (st_gC (st_gL (st_gC (st_gL (st_gC ?_)))))))))))
    refine st_gB (st_gC (st_gS (st_gN ?_)))
    exact st_some (rfl)
theorem eL22Alive : Sm MV.b (dL22Alive) (tL22Alive) := by
  unfold dL22Alive tL22Alive
  refine st_bd (eLearnerNew (⟨1, 0⟩ : SizeSize)) fun rA => ?_
  refine st_gT (st_gC (st_gA (st_gC (st_gI (st_gC (st_gI (st_gC (st_gL (st_gC (st_gL (st_gC ?_)))))))))))
  refine st_gL (st_gC (st_gB (st_gC (st_gS (st_gN (st_gC (st_gI (st_gN ?_))))))))
  refine st_bd (eLearnerTold rA.1 0 ([120] : List UInt8)) fun rA1 => ?_
  refine st_gA (st_gC (st_gI (st_gC (st_gI (st_gC (st_gL (st_gC (st_gL (st_gC (st_gL (st_gC ?_)))))))))))
  refine st_gB (st_gC (st_gS (st_gN ?_)))
  refine st_bd (eLearnerTold rA1 3 ([120] : List UInt8)) fun rA2 => ?_
  refine st_gA (st_gC (st_gI (st_gC (st_gI (st_gC (st_gL (st_gC (st_gL (st_gC (st_gL (st_gC ?_)))))))))))
  refine st_gB (st_gC (st_gS (st_gN ?_)))
  refine st_bd (f := fun r => [.b r]) ?_ fun w => ?_
  · refine st_if ?_ ?_
    · refine st_ifb ?_ ?_
      · refine st_ifb ?_ ?_
        · refine st_if ?_ ?_
          · refine st_len (n := rA2.Told.L.length) (by simp only [List.length_map, List.length_cons, List.length_nil]) ?_
            exact st_some (rfl)
          · exact st_some (rfl)
        · exact st_some (rfl)
      · exact st_some (rfl)
    · exact st_some (rfl)
  · refine st_gC (st_gB (st_gN ?_))
    exact st_some (rfl)
theorem eL22Sized (sA : SizeSize) : Sm encR07Size (dL22Sized (encSizeSize sA)) (tL22Sized sA) := by
  unfold dL22Sized tL22Sized
  refine st_gA (st_gC (st_gI (st_gC (st_gI (st_gN ?_)))))
  exact st_some (rfl)
theorem eR22Below (sA : R07Size) (t : R18Tally) (last : Int) : Sm MV.b (dR22Below (encR07Size sA) (encR18Tally t) (.i .i64 last)) (tR22Below sA t last) := by
  unfold dR22Below tR22Below
  refine st_gA (st_gC (st_gI (st_gC (st_gI (st_gN (st_gA (st_gC (st_gL (st_gN (st_gI ?_))))))))))
  refine st_bd (st_loop (fun r => [.i .i64 r]) (Sum.elim (fun r => (2, [])) (fun r => (1, [.b r]))) (rfl) fun st => ?_) fun w => ?_
  · unfold tR22BelowL1
    refine st_gC (st_gI (st_gN (st_len (n := t.L.length) (by simp only [List.length_map, List.length_cons, List.length_nil]) ?_)))
    refine st_if ?_ ?_
    · refine st_bd (f := fun r => [.b r]) ?_ fun w1 => ?_
      · refine st_idx (f := encApiAccept) (rfl) fun y => ?_
        refine st_gA (st_gC (st_gI (st_gC (st_gI (st_gC (st_gS (st_gN ?_)))))))
        refine st_bd (eR07N sA) fun rA => ?_
        refine st_gI ?_
        refine st_if ?_ ?_
        · exact st_some (rfl)
        · refine st_idx (f := encApiAccept) (rfl) fun y1 => ?_
          refine st_gA (st_gC (st_gI (st_gC (st_gI (st_gC (st_gS (st_gN ?_)))))))
          exact st_some (rfl)
      · refine st_gC (st_gB (st_gN ?_))
        refine st_ifb ?_ ?_
        · exact st_some (rfl)
        · exact st_some (rfl)
    · exact st_some (rfl)
  · rcases w with p1 | p2
    · refine st_ifT rfl (st_gN ?_)
      refine st_bd (eR18Right t) fun rA1 => ?_
      refine st_gB ?_
      exact st_some (rfl)
    · refine st_ifF rfl (st_tt rfl (st_gC (st_gB (st_gN ?_))))
      exact st_some (rfl)
theorem eR22Right (lA : R22Learner) : Sm MV.b (dR22Right (encR22Learner lA)) (tR22Right lA) := by
  unfold dR22Right tR22Right
  refine st_gA (st_gC (st_gI (st_gC (st_gI (st_gC (st_gL (st_gC (st_gL (st_gC (st_gL (st_gC ?_)))))))))))
  refine st_gB (st_gC (st_gS (st_gN ?_)))
  refine st_bd (f := fun r => [.b r]) ?_ fun w => ?_
  · refine st_bd (eR07Right lA.S) fun rA => ?_
    refine st_gB ?_
    refine st_ifb ?_ ?_
    · exact st_some (rfl)
    · refine st_if ?_ ?_
      · exact st_some (rfl)
      · refine st_ifb ?_ ?_
        · exact st_some (rfl)
        · exact st_some (rfl)
  · refine st_gC (st_gB (st_gN ?_))
    refine st_ifb ?_ ?_
    · exact st_some (rfl)
    · refine st_bd (f := fun r => [.b r]) ?_ fun w1 => ?_
      · refine st_bd (eR22Below lA.S lA.Accepts 100000) fun rA1 => ?_
        refine st_gB ?_
        refine st_ifb ?_ ?_
        · refine st_bd (eR22Below lA.S lA.Commits 100000) fun rA2 => ?_
          refine st_gB ?_
          refine st_ifb ?_ ?_
          · refine st_bd (eR22Below lA.S lA.Told 0) fun rA3 => ?_
            refine st_gB ?_
            exact st_some (rfl)
          · exact st_some (rfl)
        · exact st_some (rfl)
      · refine st_gC (st_gB (st_gN ?_))
        exact st_some (rfl)
theorem eL22Plain (lA : LearnerLearner) : Sm encR22Learner (dL22Plain (encLearnerLearner lA)) (tL22Plain lA) := by
  unfold dL22Plain tL22Plain
  refine st_gA (st_gC (st_gI (st_gC (st_gI (st_gC (st_gL (st_gC (st_gL (st_gC (st_gL (st_gC ?_)))))))))))
  refine st_gB (st_gC (st_gS (st_gN ?_)))
  refine st_bd (eL22Sized lA.S) fun rA => ?_
  refine st_gA (st_gC (st_gI (st_gC (st_gI (st_gN ?_)))))
  exact st_some (rfl)
theorem eLearnerSame (a : LearnerLearner) (b : LearnerLearner) : Sm MV.b (dLearnerSame (encLearnerLearner a) (encLearnerLearner b)) (tLearnerSame a b) := by
  unfold dLearnerSame tLearnerSame
  refine st_gA (st_gC (st_gI (st_gC (st_gI (st_gC (st_gL (st_gC (st_gL (st_gC (st_gL (st_gC ?_)))))))))))
  refine st_gB (st_gC (st_gS (st_gN (st_gA (st_gC (st_gI (st_gC (st_gI (st_gC (st_gL (st_gC ?_)))))))))))
  refine st_gL (st_gC (st_gL (st_gC (st_gB (st_gC (st_gS (st_gN ?_)))))))
  refine st_bd (f := fun r => [.b r]) ?_ fun w => ?_
  · refine st_ifb ?_ ?_
    · refine st_if ?_ ?_
      · exact st_some (rfl)
      · exact st_some (rfl)
    · exact st_some (rfl)
  · refine st_gC (st_gB (st_gN ?_))
    refine st_bd (f := fun r => [.b r]) ?_ fun w1 => ?_
    · refine st_ifb ?_ ?_
      · refine st_bd (eTallySame a.Accepts.L b.Accepts.L) fun rA => ?_
        refine st_gB ?_
        refine st_ifb ?_ ?_
        · refine st_bd (eTallySame a.Commits.L b.Commits.L) fun rA1 => ?_
          refine st_gB ?_
          refine st_ifb ?_ ?_
          · refine st_bd (eTallySame a.Told.L b.Told.L) fun rA2 => ?_
            refine st_gB ?_
            exact st_some (rfl)
          · exact st_some (rfl)
        · exact st_some (rfl)
      · exact st_some (rfl)
    · refine st_gC (st_gB (st_gN ?_))
      exact st_some (rfl)
theorem eSizeFast (sA : SizeSize) : Sm (MV.i .i64) (dSizeFast (encSizeSize sA)) (tSizeFast sA) := by
  unfold dSizeFast tSizeFast
  refine st_gA (st_gC (st_gI (st_gC (st_gI (st_gN ?_)))))
  refine st_bd (eSizeSizeOf sA (4613937818241073152, 4607182418800017408)) fun rA => ?_
  refine st_gI ?_
  exact st_some (rfl)
theorem eLearnerAccepted (lA : LearnerLearner) (a : ApiAccept) : Sm encLearnerLearner (dLearnerAccepted (encLearnerLearner lA) (encApiAccept a)) (tLearnerAccepted lA a) := by
  unfold dLearnerAccepted tLearnerAccepted
  refine st_gA (st_gC (st_gI (st_gC (st_gI (st_gC (st_gL (st_gC (st_gL (st_gC (st_gL (st_gC ?_)))))))))))
  refine st_gB (st_gC (st_gS (st_gN (st_gA (st_gC (st_gI (st_gC (st_gI (st_gC (st_gS (st_gN ?_)))))))))))
  refine st_bd (eSizeFast lA.S) fun rA => ?_
  refine st_gI ?_
  refine st_bd (eLearnerLearnerHears2 lA lA a rA) fun rA1 => ?_
  refine st_gW (st_gC (st_gI (st_gC (st_gI (st_gC (st_gL (st_gC (st_gL (st_gC (st_gL (st_gC ?_)))))))))))
  refine st_gB (st_gC (st_gS (st_gN (st_gT (st_gC (st_gB (st_gC (st_gS (st_gN ?_)))))))))
  refine st_bd (f := (fun r => (0, [.i .i64 r.1, .i .i64 r.2.1, .list (r.2.2.1.map encApiAccept), .list (r.2.2.2.1.map encApiAccept), .list (r.2.2.2.2.1.map encApiAccept), .b r.2.2.2.2.2.1, .s r.2.2.2.2.2.2]))) ?_ fun w => ?_
  · refine st_ifb ?_ ?_
    · exact st_some (rfl)
    · exact st_some (rfl)
  · refine st_tt rfl (st_gC (st_gI (st_gC (st_gI (st_gC (st_gL (st_gC (st_gL (st_gC (st_gL (st_gC ?_)))))))))))
    refine st_gB (st_gC (st_gS (st_gN ?_)))
    exact st_some (rfl)
theorem eLearnerCommitted (lA : LearnerLearner) (byA : Int) (p : List ApiAccept) : Sm encLearnerLearner (dLearnerCommitted (encLearnerLearner lA) (.i .i64 byA) (.list (p.map encApiAccept))) (tLearnerCommitted lA byA p) := by
  unfold dLearnerCommitted tLearnerCommitted
  refine st_gA (st_gC (st_gI (st_gC (st_gI (st_gC (st_gL (st_gC (st_gL (st_gC (st_gL (st_gC ?_)))))))))))
  refine st_gB (st_gC (st_gS (st_gN (st_gI (st_gL ?_)))))
  refine st_bd (eProofRight lA.S p) fun rA => ?_
  refine st_gB ?_
  refine st_ifb ?_ ?_
  · exact st_some (rfl)
  · refine st_bd (eProofOf p) fun rA1 => ?_
    refine st_gT (st_gC (st_gI (st_gC (st_gS (st_gC (st_gB (st_gN ?_)))))))
    refine st_bd (eSizeProof lA.S) fun rA2 => ?_
    refine st_gI ?_
    refine st_bd (eLearnerLearnerHears3 lA lA (⟨byA, rA1.1, rA1.2.1⟩ : ApiAccept) rA2) fun rA3 => ?_
    refine st_gW (st_gC (st_gI (st_gC (st_gI (st_gC (st_gL (st_gC (st_gL (st_gC (st_gL (st_gC ?_)))))))))))
    refine st_gB (st_gC (st_gS (st_gN (st_gT (st_gC (st_gB (st_gC (st_gS (st_gN ?_)))))))))
    refine st_bd (f := (fun r => (0, [.i .i64 r.1, .i .i64 r.2.1, .list (r.2.2.1.map encApiAccept), .list (r.2.2.2.1.map encApiAccept), .list (r.2.2.2.2.1.map encApiAccept), .b r.2.2.2.2.2.1, .s r.2.2.2.2.2.2]))) ?_ fun w => ?_
    · refine st_ifb ?_ ?_
      · exact st_some (rfl)
      · exact st_some (rfl)
    · refine st_tt rfl (st_gC (st_gI (st_gC (st_gI (st_gC (st_gL (st_gC (st_gL (st_gC (st_gL (st_gC ?_)))))))))))
      refine st_gB (st_gC (st_gS (st_gN ?_)))
      exact st_some (rfl)
theorem eL22Heard (lA : LearnerLearner) (w : L22Word) : Sm encLearnerLearner (dL22Heard (encLearnerLearner lA) (encL22Word w)) (tL22Heard lA w) := by
  unfold dL22Heard tL22Heard
  refine st_gA (st_gC (st_gI (st_gC (st_gI (st_gC (st_gL (st_gC (st_gL (st_gC (st_gL (st_gC ?_)))))))))))
  refine st_gB (st_gC (st_gS (st_gN (st_gA (st_gC (st_gI (st_gC (st_gI (st_gC (st_gI (st_gC ?_)))))))))))
  refine st_gI (st_gC (st_gS (st_gC (st_gL (st_gN ?_)))))
  refine st_if ?_ ?_
  · refine st_bd (eLearnerAccepted lA w.A) fun rA => ?_
    refine st_gA (st_gC (st_gI (st_gC (st_gI (st_gC (st_gL (st_gC (st_gL (st_gC (st_gL (st_gC ?_)))))))))))
    refine st_gB (st_gC (st_gS (st_gN ?_)))
    exact st_some (rfl)
  · refine st_if ?_ ?_
    · refine st_bd (eLearnerCommitted lA w.By w.P) fun rA1 => ?_
      refine st_gA (st_gC (st_gI (st_gC (st_gI (st_gC (st_gL (st_gC (st_gL (st_gC (st_gL (st_gC ?_)))))))))))
      refine st_gB (st_gC (st_gS (st_gN ?_)))
      exact st_some (rfl)
    · refine st_if ?_ ?_
      · refine st_bd (eLearnerTold lA w.By w.A.Value) fun rA2 => ?_
        refine st_gA (st_gC (st_gI (st_gC (st_gI (st_gC (st_gL (st_gC (st_gL (st_gC (st_gL (st_gC ?_)))))))))))
        refine st_gB (st_gC (st_gS (st_gN ?_)))
        exact st_some (rfl)
      · exact st_some (rfl)
theorem eL22Many (lA : List Bool) : Sm (MV.i .i64) (dL22Many (.list (lA.map MV.b))) (tL22Many lA) := by
  unfold dL22Many tL22Many
  refine st_gL ?_
  refine st_bd (st_loop (fun r => [.i .i64 r.1, .i .i64 r.2]) (fun r => (2, [.i .i64 r])) (rfl) fun st => ?_) fun w => ?_
  · unfold tL22ManyL1
    refine st_gC (st_gI (st_gC (st_gI (st_gN (st_len (n := lA.length) (by simp only [List.length_map, List.length_cons, List.length_nil]) ?_)))))
    refine st_if ?_ ?_
    · refine st_idx (f := MV.b) (rfl) fun y => ?_
      refine st_gB ?_
      refine st_bd (f := (fun r => (0, [.i .i64 r]))) ?_ fun w1 => ?_
      · refine st_ifb ?_ ?_
        · exact st_some (rfl)
        · exact st_some (rfl)
      · refine st_tt rfl (st_gC (st_gI (st_gN ?_)))
        exact st_some (rfl)
    · exact st_some (rfl)
  · refine st_tt rfl (st_gC (st_gI (st_gN ?_)))
    exact st_some (rfl)
theorem eL22Said (a : SizeSize) (a1 : List L22Word) (a2 : List UInt8) : Sm MV.b (dL22Said (encSizeSize a) (.list (a1.map encL22Word)) (.s a2)) (tL22Said a a1 a2) := by
  unfold dL22Said tL22Said
  refine st_gA (st_gC (st_gI (st_gC (st_gI (st_gN (st_gL (st_gS ?_)))))))
  refine st_bd (eSizeN a) fun rA => ?_
  refine st_gI ?_
  refine st_if ?_ ?_
  · exact st_some (rfl)
  · refine st_chk ?_
    refine st_bd (st_loop (fun r => [.list (r.1.map MV.b), .i .i64 r.2]) (fun r => (2, [.list (r.map MV.b)])) (by first | (simp only [List.map_replicate, List.map_append, List.map_cons, List.map_nil, List.map_take, List.map_drop, List.map_set]; done) | (simp only [List.map_replicate, List.map_append, List.map_cons, List.map_nil, List.map_take, List.map_drop, List.map_set, encApiAccept, lvApiAccept, encAcceptorAcceptor, lvAcceptorAcceptor, encSizeSize, lvSizeSize, encTallyTally, lvTallyTally, encApiReport, lvApiReport, encR07Size, lvR07Size, encR18Tally, lvR18Tally, encR21Acceptor, lvR21Acceptor, encLearnerLearner, lvLearnerLearner, encR22Learner, lvR22Learner, encL22Word, lvL22Word]; done)) fun st => ?_) fun w => ?_
    · unfold tL22SaidL1
      refine st_gC (st_gL (st_gC (st_gI (st_gN (st_len (n := a1.length) (by simp only [List.length_map, List.length_cons, List.length_nil]) ?_)))))
      refine st_if ?_ ?_
      · refine st_idx (f := encL22Word) (rfl) fun y => ?_
        refine st_gA (st_gC (st_gI (st_gC (st_gI (st_gC (st_gI (st_gC (st_gI (st_gC (st_gS (st_gC ?_)))))))))))
        refine st_gL (st_gN ?_)
        refine st_bd (f := fun r => [.b r]) ?_ fun w1 => ?_
        · refine st_if ?_ ?_
          · refine st_if ?_ ?_
            · refine st_if ?_ ?_
              · exact st_some (rfl)
              · exact st_some (rfl)
            · exact st_some (rfl)
          · exact st_some (rfl)
        · refine st_gC (st_gB (st_gN ?_))
          refine st_bd (f := (fun r => (0, [.list (r.map MV.b)]))) ?_ fun w2 => ?_
          · refine st_ifb ?_ ?_
            · refine st_idx (f := MV.b) (rfl) fun y1 => ?_
              refine st_gB ?_
              exact st_some (by first | (simp only [Sum.elim_inl, Sum.elim_inr, List.map_replicate, List.map_append, List.map_cons, List.map_nil, List.map_take, List.map_drop, List.map_set]; done) | (simp only [Sum.elim_inl, Sum.elim_inr, List.map_replicate, List.map_append, List.map_cons, List.map_nil, List.map_take, List.map_drop, List.map_set, encApiAccept, lvApiAccept, encAcceptorAcceptor, lvAcceptorAcceptor, encSizeSize, lvSizeSize, encTallyTally, lvTallyTally, encApiReport, lvApiReport, encR07Size, lvR07Size, encR18Tally, lvR18Tally, encR21Acceptor, lvR21Acceptor, encLearnerLearner, lvLearnerLearner, encR22Learner, lvR22Learner, encL22Word, lvL22Word]; done))
            · exact st_some (rfl)
          · refine st_tt rfl (st_gC (st_gL (st_gN ?_)))
            exact st_some (rfl)
      · exact st_some (rfl)
    · refine st_tt rfl (st_gC (st_gL (st_gN ?_)))
      refine st_bd (eL22Many w) fun rA1 => ?_
      refine st_gI ?_
      refine st_bd (eSizeWeak a) fun rA2 => ?_
      refine st_gI ?_
      refine st_if ?_ ?_
      · exact st_some (rfl)
      · refine st_bd (st_loop (fun r => [.i .i64 r]) (Sum.elim (fun r => (4, [])) (fun r => (1, [.b r]))) (rfl) fun st1 => ?_) fun w3 => ?_
        · unfold tL22SaidL3
          refine st_gC (st_gI (st_gN (st_len (n := a1.length) (by simp only [List.length_map, List.length_cons, List.length_nil]) ?_)))
          refine st_if ?_ ?_
          · refine st_idx (f := encL22Word) (rfl) fun y2 => ?_
            refine st_gA (st_gC (st_gI (st_gC (st_gI (st_gC (st_gI (st_gC (st_gI (st_gC (st_gS (st_gC ?_)))))))))))
            refine st_gL (st_gN ?_)
            refine st_bd (f := fun r => [.b r]) ?_ fun w4 => ?_
            · refine st_idx (f := encL22Word) (rfl) fun y3 => ?_
              refine st_gA (st_gC (st_gI (st_gC (st_gI (st_gC (st_gI (st_gC (st_gI (st_gC (st_gS (st_gC ?_)))))))))))
              refine st_gL (st_gN ?_)
              refine st_if ?_ ?_
              · refine st_idx (f := encL22Word) (rfl) fun y4 => ?_
                refine st_gA (st_gC (st_gI (st_gC (st_gI (st_gC (st_gI (st_gC (st_gI (st_gC (st_gS (st_gC ?_)))))))))))
                refine st_gL (st_gN (st_len (n := y4.P.length) (by simp only [List.length_map, List.length_cons, List.length_nil]) ?_))
                exact st_some (rfl)
              · exact st_some (rfl)
            · refine st_gC (st_gB (st_gN ?_))
              refine st_bd (f := (fun r => (0, [.i .i64 r]))) ?_ fun w5 => ?_
              · refine st_ifb ?_ ?_
                · refine st_idx (f := encL22Word) (rfl) fun y5 => ?_
                  refine st_gA (st_gC (st_gI (st_gC (st_gI (st_gC (st_gI (st_gC (st_gI (st_gC (st_gS (st_gC ?_)))))))))))
                  refine st_gL (st_gN ?_)
                  refine st_idx (f := encApiAccept) (rfl) fun y6 => ?_
                  refine st_gA (st_gC (st_gI (st_gC (st_gI (st_gC (st_gS (st_gN ?_)))))))
                  exact st_some (rfl)
                · exact st_some (rfl)
              · refine st_tt rfl (st_gC (st_gI (st_gN (st_chk (st_chk ?_)))))
                refine st_bd (st_loop (fun r => [.list (r.1.map MV.b), .list (r.2.1.map MV.b), .i .i64 r.2.2]) (fun r => (6, [.list (r.1.map MV.b), .list (r.2.map MV.b)])) (by first | (simp only [List.map_replicate, List.map_append, List.map_cons, List.map_nil, List.map_take, List.map_drop, List.map_set]; done) | (simp only [List.map_replicate, List.map_append, List.map_cons, List.map_nil, List.map_take, List.map_drop, List.map_set, encApiAccept, lvApiAccept, encAcceptorAcceptor, lvAcceptorAcceptor, encSizeSize, lvSizeSize, encTallyTally, lvTallyTally, encApiReport, lvApiReport, encR07Size, lvR07Size, encR18Tally, lvR18Tally, encR21Acceptor, lvR21Acceptor, encLearnerLearner, lvLearnerLearner, encR22Learner, lvR22Learner, encL22Word, lvL22Word]; done)) fun st2 => ?_) fun w6 => ?_
                · unfold tL22SaidL2
                  refine st_gC (st_gL (st_gC (st_gL (st_gC (st_gI (st_gN (st_len (n := a1.length) (by simp only [List.length_map, List.length_cons, List.length_nil]) ?_)))))))
                  refine st_if ?_ ?_
                  · refine st_idx (f := encL22Word) (rfl) fun y7 => ?_
                    refine st_gA (st_gC (st_gI (st_gC (st_gI (st_gC (st_gI (st_gC (st_gI (st_gC (st_gS (st_gC ?_)))))))))))
                    refine st_gL (st_gN ?_)
                    refine st_bd (f := fun r => [.b r]) ?_ fun w7 => ?_
                    · refine st_if ?_ ?_
                      · refine st_if ?_ ?_
                        · refine st_if ?_ ?_
                          · refine st_if ?_ ?_
                            · exact st_some (rfl)
                            · exact st_some (rfl)
                          · exact st_some (rfl)
                        · exact st_some (rfl)
                      · exact st_some (rfl)
                    · refine st_gC (st_gB (st_gN ?_))
                      refine st_bd (f := (fun r => (0, [.list (r.map MV.b)]))) ?_ fun w8 => ?_
                      · refine st_ifb ?_ ?_
                        · refine st_idx (f := MV.b) (rfl) fun y8 => ?_
                          refine st_gB ?_
                          exact st_some (by first | (simp only [Sum.elim_inl, Sum.elim_inr, List.map_replicate, List.map_append, List.map_cons, List.map_nil, List.map_take, List.map_drop, List.map_set]; done) | (simp only [Sum.elim_inl, Sum.elim_inr, List.map_replicate, List.map_append, List.map_cons, List.map_nil, List.map_take, List.map_drop, List.map_set, encApiAccept, lvApiAccept, encAcceptorAcceptor, lvAcceptorAcceptor, encSizeSize, lvSizeSize, encTallyTally, lvTallyTally, encApiReport, lvApiReport, encR07Size, lvR07Size, encR18Tally, lvR18Tally, encR21Acceptor, lvR21Acceptor, encLearnerLearner, lvLearnerLearner, encR22Learner, lvR22Learner, encL22Word, lvL22Word]; done))
                        · exact st_some (rfl)
                      · refine st_tt rfl (st_gC (st_gL (st_gN ?_)))
                        refine st_bd (f := fun r => [.b r]) ?_ fun w9 => ?_
                        · refine st_if ?_ ?_
                          · refine st_if ?_ ?_
                            · refine st_if ?_ ?_
                              · refine st_bd (eL22Sized a) fun rA3 => ?_
                                refine st_gA (st_gC (st_gI (st_gC (st_gI (st_gN ?_)))))
                                refine st_bd (eR19Right rA3 y7.P) fun rA4 => ?_
                                refine st_gB ?_
                                refine st_ifb ?_ ?_
                                · refine st_idx (f := encApiAccept) (rfl) fun y9 => ?_
                                  refine st_gA (st_gC (st_gI (st_gC (st_gI (st_gC (st_gS (st_gN ?_)))))))
                                  refine st_if ?_ ?_
                                  · refine st_idx (f := encApiAccept) (rfl) fun y10 => ?_
                                    refine st_gA (st_gC (st_gI (st_gC (st_gI (st_gC (st_gS (st_gN ?_)))))))
                                    exact st_some (rfl)
                                  · exact st_some (rfl)
                                · exact st_some (rfl)
                              · exact st_some (rfl)
                            · exact st_some (rfl)
                          · exact st_some (rfl)
                        · refine st_gC (st_gB (st_gN ?_))
                          refine st_bd (f := (fun r => (0, [.list (r.map MV.b)]))) ?_ fun w10 => ?_
                          · refine st_ifb ?_ ?_
                            · refine st_idx (f := MV.b) (rfl) fun y11 => ?_
                              refine st_gB ?_
                              exact st_some (by first | (simp only [Sum.elim_inl, Sum.elim_inr, List.map_replicate, List.map_append, List.map_cons, List.map_nil, List.map_take, List.map_drop, List.map_set]; done) | (simp only [Sum.elim_inl, Sum.elim_inr, List.map_replicate, List.map_append, List.map_cons, List.map_nil, List.map_take, List.map_drop, List.map_set, encApiAccept, lvApiAccept, encAcceptorAcceptor, lvAcceptorAcceptor, encSizeSize, lvSizeSize, encTallyTally, lvTallyTally, encApiReport, lvApiReport, encR07Size, lvR07Size, encR18Tally, lvR18Tally, encR21Acceptor, lvR21Acceptor, encLearnerLearner, lvLearnerLearner, encR22Learner, lvR22Learner, encL22Word, lvL22Word]; done))
                            · exact st_some (rfl)
                          · refine st_tt rfl (st_gC (st_gL (st_gN ?_)))
                            exact st_some (rfl)
                  · exact st_some (rfl)
                · refine st_tt rfl (st_gC (st_gL (st_gC (st_gL (st_gN ?_)))))
                  refine st_bd (f := fun r => [.b r]) ?_ fun w11 => ?_
                  · refine st_bd (eL22Many w6.1) fun rA5 => ?_
                    refine st_gI ?_
                    refine st_bd (eSizeFast a) fun rA6 => ?_
                    refine st_gI ?_
                    refine st_if ?_ ?_
                    · exact st_some (rfl)
                    · refine st_bd (eL22Many w6.2) fun rA7 => ?_
                      refine st_gI ?_
                      refine st_bd (eSizeProof a) fun rA8 => ?_
                      refine st_gI ?_
                      exact st_some (rfl)
                  · refine st_gC (st_gB (st_gN ?_))
                    refine st_ifb ?_ ?_
                    · exact st_some (rfl)
                    · exact st_some (rfl)
          · exact st_some (rfl)
        · rcases w3 with p7 | p8
          · refine st_ifT rfl (st_gN ?_)
            exact st_some (rfl)
          · refine st_ifF rfl (st_tt rfl (st_gC (st_gB (st_gN ?_))))
            exact st_some (rfl)
theorem eL22LearnerStays (a : SizeSize) (a1 : List L22Word) : Sm MV.b (dL22LearnerStays (encSizeSize a) (.list (a1.map encL22Word))) (tL22LearnerStays a a1) := by
  unfold dL22LearnerStays tL22LearnerStays
  refine st_gA (st_gC (st_gI (st_gC (st_gI (st_gN (st_gL ?_))))))
  refine st_bd (eLearnerNew a) fun rA => ?_
  refine st_gT (st_gC (st_gA (st_gC (st_gI (st_gC (st_gI (st_gC (st_gL (st_gC (st_gL (st_gC ?_)))))))))))
  refine st_gL (st_gC (st_gB (st_gC (st_gS (st_gN (st_gC (st_gI (st_gN ?_))))))))
  refine st_bd (f := fun r => [.b r]) ?_ fun w => ?_
  · refine st_ifb ?_ ?_
    · exact st_some (rfl)
    · refine st_len (n := a1.length) (by simp only [List.length_map, List.length_cons, List.length_nil]) ?_
      exact st_some (rfl)
  · refine st_gC (st_gB (st_gN ?_))
    refine st_ifb ?_ ?_
    · refine st_bd (eL22Alive) fun rA1 => ?_
      refine st_gB ?_
      exact st_some (rfl)
    · refine st_bd (st_loop (fun r => [.i .i64 r.1, .i .i64 r.2.1, .list (r.2.2.1.map encApiAccept), .list (r.2.2.2.1.map encApiAccept), .list (r.2.2.2.2.1.map encApiAccept), .b r.2.2.2.2.2.1, .s r.2.2.2.2.2.2.1, .i .i64 r.2.2.2.2.2.2.2]) (Sum.elim (fun r => (2, [])) (fun r => (1, [.b r]))) (rfl) fun st => ?_) fun w1 => ?_
      · unfold tL22LearnerStaysL1
        refine st_gC (st_gI (st_gC (st_gI (st_gC (st_gL (st_gC (st_gL (st_gC (st_gL (st_gC (st_gB ?_)))))))))))
        refine st_gC (st_gS (st_gC (st_gI (st_gN (st_len (n := a1.length) (by simp only [List.length_map, List.length_cons, List.length_nil]) ?_)))))
        refine st_if ?_ ?_
        · refine st_idx (f := encL22Word) (rfl) fun y => ?_
          refine st_gA (st_gC (st_gI (st_gC (st_gI (st_gC (st_gI (st_gC (st_gI (st_gC (st_gS (st_gC ?_)))))))))))
          refine st_gL (st_gN ?_)
          refine st_bd (f := fun r => [.b r]) ?_ fun w2 => ?_
          · refine st_bd (eL22Votes y.P) fun rA2 => ?_
            refine st_gB ?_
            refine st_ifb ?_ ?_
            · exact st_some (rfl)
            · exact st_some (rfl)
          · refine st_gC (st_gB (st_gN ?_))
            refine st_ifb ?_ ?_
            · refine st_bd (eL22Alive) fun rA3 => ?_
              refine st_gB ?_
              exact st_some (rfl)
            · refine st_bd (eL22Heard (⟨(⟨st.1, st.2.1⟩ : SizeSize), (⟨st.2.2.1⟩ : TallyTally), (⟨st.2.2.2.1⟩ : TallyTally), (⟨st.2.2.2.2.1⟩ : TallyTally), st.2.2.2.2.2.1, st.2.2.2.2.2.2.1⟩ : LearnerLearner) y) fun rA4 => ?_
              refine st_gA (st_gC (st_gI (st_gC (st_gI (st_gC (st_gL (st_gC (st_gL (st_gC (st_gL (st_gC ?_)))))))))))
              refine st_gB (st_gC (st_gS (st_gN ?_)))
              refine st_bd (f := fun r => [.b r]) ?_ fun w3 => ?_
              · refine st_ifb ?_ ?_
                · refine st_bd (eLearnerSame (⟨(⟨st.1, st.2.1⟩ : SizeSize), (⟨st.2.2.1⟩ : TallyTally), (⟨st.2.2.2.1⟩ : TallyTally), (⟨st.2.2.2.2.1⟩ : TallyTally), st.2.2.2.2.2.1, st.2.2.2.2.2.2.1⟩ : LearnerLearner) rA4) fun rA5 => ?_
                  refine st_gB ?_
                  refine st_ifb ?_ ?_
                  · exact st_some (rfl)
                  · refine st_bd (eL22Plain rA4) fun rA6 => ?_
                    refine st_gA (st_gC (st_gI (st_gC (st_gI (st_gC (st_gL (st_gC (st_gL (st_gC (st_gL (st_gC ?_)))))))))))
                    refine st_gB (st_gC (st_gS (st_gN ?_)))
                    refine st_bd (eR22Right rA6) fun rA7 => ?_
                    refine st_gB ?_
                    exact st_some (rfl)
                · refine st_bd (eL22Plain rA4) fun rA8 => ?_
                  refine st_gA (st_gC (st_gI (st_gC (st_gI (st_gC (st_gL (st_gC (st_gL (st_gC (st_gL (st_gC ?_)))))))))))
                  refine st_gB (st_gC (st_gS (st_gN ?_)))
                  refine st_bd (eR22Right rA8) fun rA9 => ?_
                  refine st_gB ?_
                  exact st_some (rfl)
              · refine st_gC (st_gB (st_gN ?_))
                refine st_ifb ?_ ?_
                · exact st_some (rfl)
                · refine st_bd (f := fun r => [.b r]) ?_ fun w4 => ?_
                  · refine st_ifb ?_ ?_
                    · refine st_ifb ?_ ?_
                      · refine st_len (n := a1.length) (by simp only [List.length_map, List.length_cons, List.length_nil]) (st_chk ?_)
                        refine st_bd (by simpa only [List.map_replicate, List.map_append, List.map_cons, List.map_nil, List.map_take, List.map_drop, List.map_set] using eL22Said a (List.drop (Int.toNat 0) (List.take (Int.toNat (IntKind.wrap .i64 (st.2.2.2.2.2.2.2 + 1))) a1)) rA4.Value) fun rA10 => ?_
                        refine st_gB ?_
                        exact st_some (rfl)
                      · exact st_some (rfl)
                    · exact st_some (rfl)
                  · refine st_gC (st_gB (st_gN ?_))
                    refine st_ifb ?_ ?_
                    · exact st_some (rfl)
                    · exact st_some (rfl)
        · exact st_some (rfl)
      · rcases w1 with p1 | p2
        · refine st_ifT rfl (st_gN ?_)
          refine st_bd (eL22Alive) fun rA11 => ?_
          refine st_gB ?_
          exact st_some (rfl)
        · refine st_ifF rfl (st_tt rfl (st_gC (st_gB (st_gN ?_))))
          exact st_some (rfl)
end Dn.S
