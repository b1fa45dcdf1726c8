import Derived.Test.YtmdniblpkkoeoaaDnYD
/-
  Typed and plain functions agree. Conditions: none.
-/
open Go Dn
set_option linter.unusedVariables false
set_option linter.unusedSimpArgs false
set_option maxRecDepth 100000
namespace Dn.S
theorem eL18Few (lA : List ApiAccept) : Sm MV.b (dL18Few (.list (lA.map encApiAccept))) (tL18Few lA) := by
  unfold dL18Few tL18Few
  refine st_gL ?_
  refine st_bd (st_loop (fun r => [.i .i64 r]) (Sum.elim (fun r => (2, [])) (fun r => (1, [.b r]))) (rfl) fun st => ?_) fun w => ?_
  · unfold tL18FewL1
    refine st_gC (st_gI (st_gN (st_len (n := lA.length) (by simp only [List.length_map, List.length_cons, List.length_nil]) ?_)))
    refine st_if ?_ ?_
    · refine st_bd (f := fun r => [.b r]) ?_ fun w1 => ?_
      · refine st_if ?_ ?_
        · exact st_some (rfl)
        · refine st_idx (f := encApiAccept) (rfl) fun y => ?_
          refine st_gA (st_gC (st_gI (st_gC (st_gI (st_gC (st_gS (st_gN ?_)))))))
          exact st_some (rfl)
      · refine st_gC (st_gB (st_gN ?_))
        refine st_ifb ?_ ?_
        · exact st_some (rfl)
        · exact st_some (rfl)
    · exact st_some (rfl)
  · rcases w with p1 | p2
    · refine st_ifT rfl (st_gN ?_)
      exact st_some (rfl)
    · refine st_ifF rfl (st_tt rfl (st_gC (st_gB (st_gN ?_))))
      exact st_some (rfl)
theorem eR18May (a : ApiAccept) : Sm MV.b (dR18May (encApiAccept a)) (tR18May a) := by
  unfold dR18May tR18May
  refine st_gA (st_gC (st_gI (st_gC (st_gI (st_gC (st_gS (st_gN ?_)))))))
  refine st_bd (f := fun r => [.b r]) ?_ fun w => ?_
  · refine st_if ?_ ?_
    · refine st_if ?_ ?_
      · refine st_if ?_ ?_
        · exact st_some (rfl)
        · exact st_some (rfl)
      · exact st_some (rfl)
    · exact st_some (rfl)
  · refine st_gC (st_gB (st_gN ?_))
    exact st_some (rfl)
theorem eR18Right (t : R18Tally) : Sm MV.b (dR18Right (encR18Tally t)) (tR18Right t) := by
  unfold dR18Right tR18Right
  refine st_gA (st_gC (st_gL (st_gN ?_)))
  refine st_bd (st_loop (fun r => [.i .i64 r]) (Sum.elim (fun r => (2, [])) (fun r => (1, [.b r]))) (rfl) fun st => ?_) fun w => ?_
  · unfold tR18RightL1
    refine st_gC (st_gI (st_gN (st_len (n := t.L.length) (by simp only [List.length_map, List.length_cons, List.length_nil]) ?_)))
    refine st_if ?_ ?_
    · refine st_bd (f := fun r => [.b r]) ?_ fun w1 => ?_
      · refine st_idx (f := encApiAccept) (rfl) fun y => ?_
        refine st_gA (st_gC (st_gI (st_gC (st_gI (st_gC (st_gS (st_gN ?_)))))))
        refine st_bd (eR18May y) fun rA => ?_
        refine st_gB ?_
        refine st_ifb ?_ ?_
        · exact st_some (rfl)
        · refine st_if ?_ ?_
          · refine st_idx (f := encApiAccept) (rfl) fun y1 => ?_
            refine st_gA (st_gC (st_gI (st_gC (st_gI (st_gC (st_gS (st_gN ?_)))))))
            refine st_idx (f := encApiAccept) (rfl) fun y2 => ?_
            refine st_gA (st_gC (st_gI (st_gC (st_gI (st_gC (st_gS (st_gN ?_)))))))
            exact st_some (rfl)
          · exact st_some (rfl)
      · refine st_gC (st_gB (st_gN ?_))
        refine st_ifb ?_ ?_
        · exact st_some (rfl)
        · exact st_some (rfl)
    · exact st_some (rfl)
  · rcases w with p1 | p2
    · refine st_ifT rfl (st_gN ?_)
      exact st_some (rfl)
    · refine st_ifF rfl (st_tt rfl (st_gC (st_gB (st_gN ?_))))
      exact st_some (rfl)
theorem eL18Plain (t : TallyTally) : Sm encR18Tally (dL18Plain (encTallyTally t)) (tL18Plain t) := by
  unfold dL18Plain tL18Plain
  refine st_gA (st_gC (st_gL (st_gN ?_)))
  exact st_some (rfl)
theorem eTallyMay (a : ApiAccept) : Sm MV.b (dTallyMay (encApiAccept a)) (tTallyMay a) := by
  unfold dTallyMay tTallyMay
  refine st_gA (st_gC (st_gI (st_gC (st_gI (st_gC (st_gS (st_gN ?_)))))))
  refine st_bd (f := fun r => [.b r]) ?_ fun w => ?_
  · refine st_if ?_ ?_
    · refine st_if ?_ ?_
      · refine st_if ?_ ?_
        · exact st_some (rfl)
        · exact st_some (rfl)
      · exact st_some (rfl)
    · exact st_some (rfl)
  · refine st_gC (st_gB (st_gN ?_))
    exact st_some (rfl)
theorem eCmpIsNaNInt (x : Int) : Sm MV.b (dCmpIsNaNInt (.i .i64 x)) (tCmpIsNaNInt x) := by
  unfold dCmpIsNaNInt tCmpIsNaNInt
  refine st_gI ?_
  exact st_some (rfl)
theorem eCmpCompareInt (x : Int) (y : Int) : Sm (MV.i .i64) (dCmpCompareInt (.i .i64 x) (.i .i64 y)) (tCmpCompareInt x y) := by
  unfold dCmpCompareInt tCmpCompareInt
  refine st_gI (st_gI ?_)
  refine st_bd (eCmpIsNaNInt x) fun rA => ?_
  refine st_gB ?_
  refine st_bd (eCmpIsNaNInt y) fun rA1 => ?_
  refine st_gB ?_
  refine st_ifb ?_ ?_
  · refine st_ifb ?_ ?_
    · exact st_some (rfl)
    · exact st_some (rfl)
  · refine st_ifb ?_ ?_
    · exact st_some (rfl)
    · refine st_if ?_ ?_
      · exact st_some (rfl)
      · refine st_if ?_ ?_
        · exact st_some (rfl)
        · exact st_some (rfl)
theorem eTallyAddF1 (x : ApiAccept) (byA : Int) : Sm (MV.i .i64) (dTallyAddF1 (encApiAccept x) (.i .i64 byA)) (tTallyAddF1 x byA) := by
  unfold dTallyAddF1 tTallyAddF1
  refine st_gA (st_gC (st_gI (st_gC (st_gI (st_gC (st_gS (st_gN (st_gI ?_))))))))
  refine st_bd (eCmpCompareInt x.By byA) fun rA => ?_
  refine st_gI ?_
  exact st_some (rfl)
theorem eSlicesBinarySearchFuncApiAcceptInt (x : List ApiAccept) (target : Int) (cmp : ApiAccept → Int → Option Int) {fn2 : Nat} {cap2 : List MV} (hgcmp : gv fn2 = false) (hccmpSlicesBinarySearchFuncApiAcceptInt : ∀ (u0 : ApiAccept) (u1 : Int), Sm (MV.i .i64) (preSlicesBinarySearchFuncApiAcceptInt fn2 ([encApiAccept u0, .i .i64 u1] ++ cap2)) (cmp u0 u1)) : Sm (fun r => .tup [.i .i64 r.1, .b r.2]) (dSlicesBinarySearchFuncApiAcceptInt (.list (x.map encApiAccept)) (.i .i64 target) (.func fn2 cap2)) (tSlicesBinarySearchFuncApiAcceptInt x target cmp) := by
  unfold dSlicesBinarySearchFuncApiAcceptInt tSlicesBinarySearchFuncApiAcceptInt
  refine st_gL (st_gI (st_gRf (st_len (n := x.length) (by simp only [List.length_map, List.length_cons, List.length_nil]) ?_)))
  refine st_bd (st_loop (fun r => [.i .i64 r.1, .i .i64 r.2]) (fun r => (2, [.i .i64 r])) (rfl) fun st => ?_) fun w => ?_
  · unfold tSlicesBinarySearchFuncApiAcceptIntL1
    refine st_gC (st_gI (st_gC (st_gI (st_gN ?_))))
    refine st_if ?_ ?_
    · refine st_chk ?_
      refine st_idx (f := encApiAccept) (rfl) fun y => ?_
      refine st_gA (st_gC (st_gI (st_gC (st_gI (st_gC (st_gS (st_gN (st_gFn (st_tt (by rw [hgcmp]; rfl) ?_)))))))))
      refine st_bd (hccmpSlicesBinarySearchFuncApiAcceptInt y target) fun rA => ?_
      refine st_gI ?_
      refine st_bd (f := (fun r => (0, [.i .i64 r.1, .i .i64 r.2]))) ?_ fun w1 => ?_
      · refine st_if ?_ ?_
        · exact st_some (rfl)
        · exact st_some (rfl)
      · refine st_tt rfl (st_gC (st_gI (st_gC (st_gI (st_gN ?_)))))
        exact st_some (rfl)
    · exact st_some (rfl)
  · refine st_tt rfl (st_gC (st_gI (st_gN ?_)))
    refine st_bd (f := fun r => [.i .i64 r.1, .b r.2]) ?_ fun w2 => ?_
    · refine st_if ?_ ?_
      · refine st_idx (f := encApiAccept) (rfl) fun y1 => ?_
        refine st_gA (st_gC (st_gI (st_gC (st_gI (st_gC (st_gS (st_gN (st_gFn (st_tt (by rw [hgcmp]; rfl) ?_)))))))))
        refine st_bd (hccmpSlicesBinarySearchFuncApiAcceptInt y1 target) fun rA1 => ?_
        refine st_gI ?_
        exact st_some (rfl)
      · exact st_some (rfl)
    · refine st_gC (st_gI (st_gC (st_gB (st_gN ?_))))
      exact st_some (rfl)
theorem eTallyAdd (t : TallyTally) (a : ApiAccept) : Sm (fun r => .tup [encTallyTally r.1, .b r.2]) (dTallyAdd (encTallyTally t) (encApiAccept a)) (tTallyAdd t a) := by
  unfold dTallyAdd tTallyAdd
  refine st_gA (st_gC (st_gL (st_gN (st_gA (st_gC (st_gI (st_gC (st_gI (st_gC (st_gS (st_gN ?_)))))))))))
  refine st_bd (eTallyMay a) fun rA => ?_
  refine st_gB ?_
  refine st_ifb ?_ ?_
  · exact st_some (rfl)
  · refine st_bd (eSlicesBinarySearchFuncApiAcceptInt t.L a.By tTallyAddF1 (fn2 := 73) (cap2 := []) rfl (fun u2 u3 => Sm.at (atSlicesBinarySearchFuncApiAcceptIntTallyAddF1 _ _) (eTallyAddF1 u2 u3))) fun rA1 => ?_
    refine st_gT (st_gC (st_gI (st_gC (st_gB (st_gN ?_)))))
    refine st_bd (f := fun r => [.b r]) ?_ fun w => ?_
    · refine st_ifb ?_ ?_
      · refine st_idx (f := encApiAccept) (rfl) fun y => ?_
        refine st_gA (st_gC (st_gI (st_gC (st_gI (st_gC (st_gS (st_gN ?_)))))))
        exact st_some (rfl)
      · exact st_some (rfl)
    · refine st_gC (st_gB (st_gN ?_))
      refine st_ifb ?_ ?_
      · exact st_some (rfl)
      · refine st_bd (e_clone (size := 3) (f := encApiAccept) (fun _ => rfl) t.L) fun rA2 => ?_
        refine st_gF ?_
        refine st_bd (f := (fun r => (0, [.list (r.map encApiAccept)]))) ?_ fun w1 => ?_
        · refine st_ifb ?_ ?_
          · refine st_idx (f := encApiAccept) (rfl) fun y1 => ?_
            refine st_gA (st_gC (st_gI (st_gC (st_gI (st_gC (st_gS (st_gN ?_)))))))
            exact st_some (by simp only [Sum.elim_inl, Sum.elim_inr, List.map_append, List.map_cons, List.map_nil, List.map_take, List.map_drop, List.map_set])
          · refine st_bd (e_insert (f := encApiAccept) rA2 rA1.1 ([a] : List ApiAccept)) fun rA3 => ?_
            refine st_gF ?_
            exact st_some (rfl)
        · refine st_tt rfl (st_gC (st_gL (st_gN ?_)))
          exact st_some (rfl)
theorem eTallyBest (a : TallyTally) (a1 : Int) : Sm (fun r => .tup [.i .i64 r.1, .s r.2.1, .b r.2.2]) (dTallyBest (encTallyTally a) (.i .i64 a1)) (tTallyBest a a1) := by
  unfold dTallyBest tTallyBest
  refine st_gA (st_gC (st_gL (st_gN (st_gI (st_len (n := a.L.length) (by simp only [List.length_map, List.length_cons, List.length_nil]) ?_)))))
  refine st_bd (st_loop (fun r => [.list r.1, .i .i64 r.2]) (fun r => (2, [.list r])) (rfl) fun st => ?_) fun w => ?_
  · unfold tTallyBestL1
    refine st_gC (st_gL (st_gC (st_gI (st_gN ?_))))
    refine st_if ?_ ?_
    · refine st_idx (f := encApiAccept) (rfl) fun y => ?_
      refine st_gA (st_gC (st_gI (st_gC (st_gI (st_gC (st_gS (st_gN (st_chk ?_))))))))
      exact st_some (rfl)
    · exact st_some (rfl)
  · refine st_tt rfl (st_gC (st_gL (st_gN (st_len (n := a.L.length) (by simp only [List.length_map, List.length_cons, List.length_nil]) ?_))))
    refine st_bd (st_loop (fun r => [.i .i64 r.1, .s r.2.1, .b r.2.2.1, .i .i64 r.2.2.2]) (fun r => (4, [.i .i64 r.1, .s r.2.1, .b r.2.2])) (rfl) fun st1 => ?_) fun w1 => ?_
    · unfold tTallyBestL2
      refine st_gC (st_gI (st_gC (st_gS (st_gC (st_gB (st_gC (st_gI (st_gN ?_))))))))
      refine st_if ?_ ?_
      · refine st_idx (f := encApiAccept) (rfl) fun y1 => ?_
        refine st_gA (st_gC (st_gI (st_gC (st_gI (st_gC (st_gS (st_gN ?_)))))))
        refine st_bd (f := fun r => [.b r]) ?_ fun w2 => ?_
        · refine st_if ?_ ?_
          · refine st_if ?_ ?_
            · exact st_some (rfl)
            · exact st_some (rfl)
          · exact st_some (rfl)
        · refine st_gC (st_gB (st_gN ?_))
          refine st_bd (f := (fun r => (0, [.i .i64 r.1, .s r.2.1, .b r.2.2]))) ?_ fun w3 => ?_
          · refine st_ifb ?_ ?_
            · exact st_some (rfl)
            · exact st_some (rfl)
          · refine st_tt rfl (st_gC (st_gI (st_gC (st_gS (st_gC (st_gB (st_gN ?_)))))))
            exact st_some (rfl)
      · exact st_some (rfl)
    · refine st_tt rfl (st_gC (st_gI (st_gC (st_gS (st_gC (st_gB (st_gN ?_)))))))
      refine st_ifb ?_ ?_
      · exact st_some (rfl)
      · exact st_some (rfl)
theorem eTallyVoters (t : TallyTally) (view : Int) (value : List UInt8) : Sm (encL encApiAccept) (dTallyVoters (encTallyTally t) (.i .i64 view) (.s value)) (tTallyVoters t view value) := by
  unfold dTallyVoters tTallyVoters
  refine st_gA (st_gC (st_gL (st_gN (st_gI (st_gS (st_len (n := t.L.length) (by simp only [List.length_map, List.length_cons, List.length_nil]) ?_))))))
  refine st_bd (st_loop (fun r => [.list (r.1.map encApiAccept), .i .i64 r.2]) (fun r => (2, [.list (r.map encApiAccept)])) (rfl) fun st => ?_) fun w => ?_
  · unfold tTallyVotersL1
    refine st_gC (st_gL (st_gC (st_gI (st_gN ?_))))
    refine st_if ?_ ?_
    · refine st_idx (f := encApiAccept) (rfl) fun y => ?_
      refine st_gA (st_gC (st_gI (st_gC (st_gI (st_gC (st_gS (st_gN ?_)))))))
      refine st_bd (f := fun r => [.b r]) ?_ fun w1 => ?_
      · refine st_if ?_ ?_
        · exact st_some (rfl)
        · exact st_some (rfl)
      · refine st_gC (st_gB (st_gN ?_))
        refine st_bd (f := (fun r => (0, [.list (r.map encApiAccept)]))) ?_ fun w2 => ?_
        · refine st_ifb ?_ ?_
          · refine st_len (n := st.1.length) (by simp only [List.length_map, List.length_cons, List.length_nil]) (st_len (n := ([y] : List ApiAccept).length) (by simp only [List.length_map, List.length_cons, List.length_nil]) (st_chk ?_))
            exact st_some (by simp only [Sum.elim_inl, Sum.elim_inr, List.map_append, List.map_cons, List.map_nil, List.map_take, List.map_drop, List.map_set])
          · exact st_some (rfl)
        · refine st_tt rfl (st_gC (st_gL (st_gN ?_)))
          exact st_some (rfl)
    · exact st_some (rfl)
  · refine st_tt rfl (st_gC (st_gL (st_gN ?_)))
    exact st_some (rfl)
theorem eTallyCount (t : TallyTally) (view : Int) (value : List UInt8) : Sm (MV.i .i64) (dTallyCount (encTallyTally t) (.i .i64 view) (.s value)) (tTallyCount t view value) := by
  unfold dTallyCount tTallyCount
  refine st_gA (st_gC (st_gL (st_gN (st_gI (st_gS ?_)))))
  refine st_bd (eTallyVoters t view value) fun rA => ?_
  refine st_gL (st_len (n := rA.length) (by simp only [List.length_map, List.length_cons, List.length_nil]) ?_)
  exact st_some (rfl)
theorem eL18Alive : Sm MV.b (dL18Alive) (tL18Alive) := by
  unfold dL18Alive tL18Alive
  refine st_bd (eTallyAdd (⟨([] : List ApiAccept)⟩ : TallyTally) (⟨2, 1, ([97] : List UInt8)⟩ : ApiAccept)) fun rA => ?_
  refine st_gT (st_gC (st_gA (st_gC (st_gL (st_gN (st_gC (st_gB (st_gN ?_))))))))
  refine st_bd (eTallyAdd rA.1 (⟨2, 1, ([98] : List UInt8)⟩ : ApiAccept)) fun rA1 => ?_
  refine st_gT (st_gC (st_gA (st_gC (st_gL (st_gN (st_gC (st_gB (st_gN ?_))))))))
  refine st_bd (eTallyBest rA1.1 1) fun rA2 => ?_
  refine st_gT (st_gC (st_gI (st_gC (st_gS (st_gC (st_gB (st_gN ?_)))))))
  refine st_bd (f := fun r => [.b r]) ?_ fun w => ?_
  · refine st_ifb ?_ ?_
    · refine st_ifb ?_ ?_
      · refine st_ifb ?_ ?_
        · refine st_if ?_ ?_
          · refine st_if ?_ ?_
            · refine st_bd (eTallyCount rA.1 1 ([97] : List UInt8)) fun rA3 => ?_
              refine st_gI ?_
              exact st_some (rfl)
            · exact st_some (rfl)
          · exact st_some (rfl)
        · exact st_some (rfl)
      · exact st_some (rfl)
    · exact st_some (rfl)
  · refine st_gC (st_gB (st_gN ?_))
    exact st_some (rfl)
theorem eR18Add (a : R18Tally) (a1 : ApiAccept) : Sm (fun r => .tup [encR18Tally r.1, .b r.2]) (dR18Add (encR18Tally a) (encApiAccept a1)) (tR18Add a a1) := by
  unfold dR18Add tR18Add
  refine st_gA (st_gC (st_gL (st_gN (st_gA (st_gC (st_gI (st_gC (st_gI (st_gC (st_gS (st_gN ?_)))))))))))
  refine st_bd (eR18May a1) fun rA => ?_
  refine st_gB ?_
  refine st_ifb ?_ ?_
  · exact st_some (rfl)
  · refine st_bd (st_loop (fun r => [.list (r.1.map encApiAccept), .list (r.2.1.map encApiAccept), .b r.2.2.1, .i .i64 r.2.2.2]) (Sum.elim (fun r => (2, [.list (r.1.map encApiAccept), .list (r.2.1.map encApiAccept), .b r.2.2])) (fun r => (1, [.list (r.1.map encApiAccept), .b r.2]))) (rfl) fun st => ?_) fun w => ?_
    · unfold tR18AddL1
      refine st_gC (st_gL (st_gC (st_gL (st_gC (st_gB (st_gC (st_gI (st_gN (st_len (n := a.L.length) (by simp only [List.length_map, List.length_cons, List.length_nil]) ?_)))))))))
      refine st_if ?_ ?_
      · refine st_idx (f := encApiAccept) (rfl) fun y => ?_
        refine st_gA (st_gC (st_gI (st_gC (st_gI (st_gC (st_gS (st_gN ?_)))))))
        refine st_bd (f := fun r => [.b r]) ?_ fun w1 => ?_
        · refine st_if ?_ ?_
          · exact st_some (rfl)
          · exact st_some (rfl)
        · refine st_gC (st_gB (st_gN ?_))
          refine st_ifb ?_ ?_
          · exact st_some (rfl)
          · refine st_bd (f := fun r => [.b r]) ?_ fun w2 => ?_
            · refine st_ifb ?_ ?_
              · exact st_some (rfl)
              · exact st_some (rfl)
            · refine st_gC (st_gB (st_gN ?_))
              refine st_bd (f := (fun r => (0, [.list (r.1.map encApiAccept), .b r.2]))) ?_ fun w3 => ?_
              · refine st_ifb ?_ ?_
                · refine st_len (n := st.2.1.length) (by simp only [List.length_map, List.length_cons, List.length_nil]) (st_len (n := ([a1] : List ApiAccept).length) (by simp only [List.length_map, List.length_cons, List.length_nil]) (st_chk ?_))
                  exact st_some (by simp only [Sum.elim_inl, Sum.elim_inr, List.map_append, List.map_cons, List.map_nil, List.map_take, List.map_drop, List.map_set])
                · exact st_some (rfl)
              · refine st_tt rfl (st_gC (st_gL (st_gC (st_gB (st_gN ?_)))))
                refine st_bd (f := (fun r => (0, [.list (r.map encApiAccept)]))) ?_ fun w4 => ?_
                · refine st_ifb ?_ ?_
                  · refine st_len (n := w3.1.length) (by simp only [List.length_map, List.length_cons, List.length_nil]) (st_len (n := ([y] : List ApiAccept).length) (by simp only [List.length_map, List.length_cons, List.length_nil]) (st_chk ?_))
                    exact st_some (by simp only [Sum.elim_inl, Sum.elim_inr, List.map_append, List.map_cons, List.map_nil, List.map_take, List.map_drop, List.map_set])
                  · exact st_some (rfl)
                · refine st_tt rfl (st_gC (st_gL (st_gN ?_)))
                  exact st_some (rfl)
      · exact st_some (rfl)
    · rcases w with p3 | p4
      · refine st_ifT rfl (st_gC (st_gL (st_gC (st_gL (st_gC (st_gB (st_gN ?_)))))))
        refine st_bd (f := (fun r => (0, [.list (r.map encApiAccept)]))) ?_ fun w5 => ?_
        · refine st_ifb ?_ ?_
          · refine st_len (n := p3.2.1.length) (by simp only [List.length_map, List.length_cons, List.length_nil]) (st_len (n := ([a1] : List ApiAccept).length) (by simp only [List.length_map, List.length_cons, List.length_nil]) (st_chk ?_))
            exact st_some (by simp only [Sum.elim_inl, Sum.elim_inr, List.map_append, List.map_cons, List.map_nil, List.map_take, List.map_drop, List.map_set])
          · exact st_some (rfl)
        · refine st_tt rfl (st_gC (st_gL (st_gN ?_)))
          exact st_some (rfl)
      · refine st_ifF rfl (st_tt rfl (st_gC (st_gL (st_gC (st_gB (st_gN ?_))))))
        exact st_some (rfl)
theorem eR18Voters (t : R18Tally) (view : Int) (value : List UInt8) : Sm (encL encApiAccept) (dR18Voters (encR18Tally t) (.i .i64 view) (.s value)) (tR18Voters t view value) := by
  unfold dR18Voters tR18Voters
  refine st_gA (st_gC (st_gL (st_gN (st_gI (st_gS ?_)))))
  refine st_bd (st_loop (fun r => [.list (r.1.map encApiAccept), .i .i64 r.2]) (fun r => (2, [.list (r.map encApiAccept)])) (rfl) fun st => ?_) fun w => ?_
  · unfold tR18VotersL1
    refine st_gC (st_gL (st_gC (st_gI (st_gN (st_len (n := t.L.length) (by simp only [List.length_map, List.length_cons, List.length_nil]) ?_)))))
    refine st_if ?_ ?_
    · refine st_bd (f := fun r => [.b r]) ?_ fun w1 => ?_
      · refine st_idx (f := encApiAccept) (rfl) fun y => ?_
        refine st_gA (st_gC (st_gI (st_gC (st_gI (st_gC (st_gS (st_gN ?_)))))))
        refine st_if ?_ ?_
        · refine st_idx (f := encApiAccept) (rfl) fun y1 => ?_
          refine st_gA (st_gC (st_gI (st_gC (st_gI (st_gC (st_gS (st_gN ?_)))))))
          exact st_some (rfl)
        · exact st_some (rfl)
      · refine st_gC (st_gB (st_gN ?_))
        refine st_bd (f := (fun r => (0, [.list (r.map encApiAccept)]))) ?_ fun w2 => ?_
        · refine st_ifb ?_ ?_
          · refine st_idx (f := encApiAccept) (rfl) fun y2 => ?_
            refine st_gA (st_gC (st_gI (st_gC (st_gI (st_gC (st_gS (st_gN (st_len (n := st.1.length) (by simp only [List.length_map, List.length_cons, List.length_nil]) (st_len (n := ([y2] : List ApiAccept).length) (by simp only [List.length_map, List.length_cons, List.length_nil]) (st_chk ?_))))))))))
            exact st_some (by simp only [Sum.elim_inl, Sum.elim_inr, List.map_append, List.map_cons, List.map_nil, List.map_take, List.map_drop, List.map_set])
          · exact st_some (rfl)
        · refine st_tt rfl (st_gC (st_gL (st_gN ?_)))
          exact st_some (rfl)
    · exact st_some (rfl)
  · refine st_tt rfl (st_gC (st_gL (st_gN ?_)))
    exact st_some (rfl)
theorem eR18Count (t : R18Tally) (view : Int) (value : List UInt8) : Sm (MV.i .i64) (dR18Count (encR18Tally t) (.i .i64 view) (.s value)) (tR18Count t view value) := by
  unfold dR18Count tR18Count
  refine st_gA (st_gC (st_gL (st_gN (st_gI (st_gS ?_)))))
  refine st_bd (eR18Voters t view value) fun rA => ?_
  refine st_gL (st_len (n := rA.length) (by simp only [List.length_map, List.length_cons, List.length_nil]) ?_)
  exact st_some (rfl)
theorem eR18Best (t : R18Tally) (need : Int) : Sm (fun r => .tup [.i .i64 r.1, .s r.2.1, .b r.2.2]) (dR18Best (encR18Tally t) (.i .i64 need)) (tR18Best t need) := by
  unfold dR18Best tR18Best
  refine st_gA (st_gC (st_gL (st_gN (st_gI ?_))))
  refine st_bd (st_loop (fun r => [.i .i64 r.1, .i .i64 r.2]) (fun r => (2, [.i .i64 r])) (rfl) fun st => ?_) fun w => ?_
  · unfold tR18BestL1
    refine st_gC (st_gI (st_gC (st_gI (st_gN ?_))))
    refine st_bd (f := fun r => [.b r]) ?_ fun w1 => ?_
    · refine st_len (n := t.L.length) (by simp only [List.length_map, List.length_cons, List.length_nil]) ?_
      refine st_if ?_ ?_
      · exact st_some (rfl)
      · exact st_some (rfl)
    · refine st_gC (st_gB (st_gN ?_))
      refine st_ifb ?_ ?_
      · refine st_idx (f := encApiAccept) (rfl) fun y => ?_
        refine st_gA (st_gC (st_gI (st_gC (st_gI (st_gC (st_gS (st_gN ?_)))))))
        refine st_bd (f := fun r => [.b r]) ?_ fun w2 => ?_
        · refine st_bd (eR18Count t y.View y.Value) fun rA => ?_
          refine st_gI ?_
          refine st_if ?_ ?_
          · refine st_if ?_ ?_
            · exact st_some (rfl)
            · refine st_idx (f := encApiAccept) (rfl) fun y1 => ?_
              refine st_gA (st_gC (st_gI (st_gC (st_gI (st_gC (st_gS (st_gN ?_)))))))
              exact st_some (rfl)
          · exact st_some (rfl)
        · refine st_gC (st_gB (st_gN ?_))
          refine st_bd (f := (fun r => (0, [.i .i64 r]))) ?_ fun w3 => ?_
          · refine st_ifb ?_ ?_
            · exact st_some (rfl)
            · exact st_some (rfl)
          · refine st_tt rfl (st_gC (st_gI (st_gN ?_)))
            exact st_some (rfl)
      · exact st_some (rfl)
  · refine st_tt rfl (st_gC (st_gI (st_gN ?_)))
    refine st_if ?_ ?_
    · exact st_some (rfl)
    · refine st_idx (f := encApiAccept) (rfl) fun y2 => ?_
      refine st_gA (st_gC (st_gI (st_gC (st_gI (st_gC (st_gS (st_gN ?_)))))))
      refine st_idx (f := encApiAccept) (rfl) fun y3 => ?_
      refine st_gA (st_gC (st_gI (st_gC (st_gI (st_gC (st_gS (st_gN ?_)))))))
      exact st_some (rfl)
theorem eR18Same (a : List ApiAccept) (b : List ApiAccept) : Sm MV.b (dR18Same (.list (a.map encApiAccept)) (.list (b.map encApiAccept))) (tR18Same a b) := by
  unfold dR18Same tR18Same
  refine st_gL (st_gL (st_len (n := a.length) (by simp only [List.length_map, List.length_cons, List.length_nil]) (st_len (n := b.length) (by simp only [List.length_map, List.length_cons, List.length_nil]) ?_)))
  refine st_ifb ?_ ?_
  · exact st_some (rfl)
  · refine st_bd (st_loop (fun r => [.i .i64 r]) (Sum.elim (fun r => (2, [])) (fun r => (1, [.b r]))) (rfl) fun st => ?_) fun w => ?_
    · unfold tR18SameL1
      refine st_gC (st_gI (st_gN (st_len (n := a.length) (by simp only [List.length_map, List.length_cons, List.length_nil]) ?_)))
      refine st_if ?_ ?_
      · refine st_idx (f := encApiAccept) (rfl) fun y => ?_
        refine st_gA (st_gC (st_gI (st_gC (st_gI (st_gC (st_gS (st_gN ?_)))))))
        refine st_idx (f := encApiAccept) (rfl) fun y1 => ?_
        refine st_gA (st_gC (st_gI (st_gC (st_gI (st_gC (st_gS (st_gN ?_)))))))
        refine st_ifb ?_ ?_
        · exact st_some (rfl)
        · exact st_some (rfl)
      · exact st_some (rfl)
    · rcases w with p1 | p2
      · refine st_ifT rfl (st_gN ?_)
        exact st_some (rfl)
      · refine st_ifF rfl (st_tt rfl (st_gC (st_gB (st_gN ?_))))
        exact st_some (rfl)
theorem eL18TallyTells (a : TallyTally) (a1 : ApiAccept) (a2 : Int) : Sm MV.b (dL18TallyTells (encTallyTally a) (encApiAccept a1) (.i .i64 a2)) (tL18TallyTells a a1 a2) := by
  unfold dL18TallyTells tL18TallyTells
  refine st_gA (st_gC (st_gL (st_gN (st_gA (st_gC (st_gI (st_gC (st_gI (st_gC (st_gS (st_gN ?_)))))))))))
  refine st_gI ?_
  refine st_bd (f := fun r => [.b r]) ?_ fun w => ?_
  · refine st_bd (eL18Few a.L) fun rA => ?_
    refine st_gB ?_
    refine st_ifb ?_ ?_
    · exact st_some (rfl)
    · refine st_if ?_ ?_
      · exact st_some (rfl)
      · refine st_bd (eL18Plain a) fun rA1 => ?_
        refine st_gA (st_gC (st_gL (st_gN ?_)))
        refine st_bd (eR18Right rA1) fun rA2 => ?_
        refine st_gB ?_
        exact st_some (rfl)
  · refine st_gC (st_gB (st_gN ?_))
    refine st_ifb ?_ ?_
    · refine st_bd (eL18Alive) fun rA3 => ?_
      refine st_gB ?_
      exact st_some (rfl)
    · refine st_tt (wids_of (rfl : _ = List.map encApiAccept a.L) fun _ => rfl) (st_len (n := ([] : List ApiAccept).length) (by simp only [List.length_map, List.length_cons, List.length_nil]) (st_len (n := a.L.length) (by simp only [List.length_map, List.length_cons, List.length_nil]) (st_chk ?_)))
      refine st_bd (eTallyAdd a a1) fun rA4 => ?_
      refine st_gT (st_gC (st_gA (st_gC (st_gL (st_gN (st_gC (st_gB (st_gN ?_))))))))
      refine st_bd (eL18Plain a) fun rA5 => ?_
      refine st_gA (st_gC (st_gL (st_gN ?_)))
      refine st_bd (eR18Add rA5 a1) fun rA6 => ?_
      refine st_gT (st_gC (st_gA (st_gC (st_gL (st_gN (st_gC (st_gB (st_gN ?_))))))))
      refine st_bd (eTallyBest a a2) fun rA7 => ?_
      refine st_gT (st_gC (st_gI (st_gC (st_gS (st_gC (st_gB (st_gN ?_)))))))
      refine st_bd (eL18Plain a) fun rA8 => ?_
      refine st_gA (st_gC (st_gL (st_gN ?_)))
      refine st_bd (eR18Best rA8 a2) fun rA9 => ?_
      refine st_gT (st_gC (st_gI (st_gC (st_gS (st_gC (st_gB (st_gN ?_)))))))
      refine st_bd (f := fun r => [.b r]) ?_ fun w1 => ?_
      · refine st_bd (eR18Same rA4.1.L rA6.1.L) fun rA10 => ?_
        refine st_gB ?_
        refine st_ifb ?_ ?_
        · refine st_if ?_ ?_
          · refine st_if ?_ ?_
            · refine st_if ?_ ?_
              · exact st_some (rfl)
              · exact st_some (rfl)
            · exact st_some (rfl)
          · exact st_some (rfl)
        · exact st_some (rfl)
      · refine st_gC (st_gB (st_gN ?_))
        refine st_bd (f := fun r => [.b r]) ?_ fun w2 => ?_
        · refine st_bd (eL18Alive) fun rA11 => ?_
          refine st_gB ?_
          refine st_ifb ?_ ?_
          · refine st_ifb ?_ ?_
            · refine st_bd (eTallyCount a a1.View a1.Value) fun rA12 => ?_
              refine st_gI ?_
              refine st_bd (eL18Plain a) fun rA13 => ?_
              refine st_gA (st_gC (st_gL (st_gN ?_)))
              refine st_bd (eR18Count rA13 a1.View a1.Value) fun rA14 => ?_
              refine st_gI ?_
              refine st_if ?_ ?_
              · refine st_bd (eTallyVoters a a1.View a1.Value) fun rA15 => ?_
                refine st_gL ?_
                refine st_bd (eL18Plain a) fun rA16 => ?_
                refine st_gA (st_gC (st_gL (st_gN ?_)))
                refine st_bd (eR18Voters rA16 a1.View a1.Value) fun rA17 => ?_
                refine st_gL ?_
                refine st_bd (eR18Same rA15 rA17) fun rA18 => ?_
                refine st_gB ?_
                refine st_ifb ?_ ?_
                · refine st_bd (by simpa only [List.map_append, List.map_cons, List.map_nil, List.map_take, List.map_drop, List.map_set] using eR18Same a.L (([] : List ApiAccept) ++ a.L)) fun rA19 => ?_
                  refine st_gB ?_
                  exact st_some (rfl)
                · exact st_some (rfl)
              · exact st_some (rfl)
            · exact st_some (rfl)
          · exact st_some (rfl)
        · refine st_gC (st_gB (st_gN ?_))
          exact st_some (rfl)
theorem eL18TallyNewest (a : List ApiAccept) : Sm MV.b (dL18TallyNewest (.list (a.map encApiAccept))) (tL18TallyNewest a) := by
  unfold dL18TallyNewest tL18TallyNewest
  refine st_gL ?_
  refine st_bd (eL18Few a) fun rA => ?_
  refine st_gB ?_
  refine st_ifb ?_ ?_
  · refine st_bd (eL18Alive) fun rA1 => ?_
    refine st_gB ?_
    exact st_some (rfl)
  · refine st_bd (st_loop (fun r => [.list (r.1.map encApiAccept), .i .i64 r.2]) (fun r => (2, [.list (r.map encApiAccept)])) (rfl) fun st => ?_) fun w => ?_
    · unfold tL18TallyNewestL1
      refine st_gC (st_gL (st_gC (st_gI (st_gN (st_len (n := a.length) (by simp only [List.length_map, List.length_cons, List.length_nil]) ?_)))))
      refine st_if ?_ ?_
      · refine st_idx (f := encApiAccept) (rfl) fun y => ?_
        refine st_gA (st_gC (st_gI (st_gC (st_gI (st_gC (st_gS (st_gN ?_)))))))
        refine st_bd (eTallyAdd (⟨st.1⟩ : TallyTally) y) fun rA2 => ?_
        refine st_gT (st_gC (st_gA (st_gC (st_gL (st_gN (st_gC (st_gB (st_gN ?_))))))))
        exact st_some (rfl)
      · exact st_some (rfl)
    · refine st_tt rfl (st_gC (st_gL (st_gN ?_)))
      refine st_bd (eL18Plain (⟨w⟩ : TallyTally)) fun rA3 => ?_
      refine st_gA (st_gC (st_gL (st_gN ?_)))
      refine st_bd (eR18Right rA3) fun rA4 => ?_
      refine st_gB ?_
      refine st_ifb ?_ ?_
      · exact st_some (rfl)
      · refine st_bd (st_loop (fun r => [.i .i64 r.1, .i .i64 r.2]) (Sum.elim (fun r => (4, [.i .i64 r])) (fun r => (1, [.b r]))) (rfl) fun st1 => ?_) fun w1 => ?_
        · unfold tL18TallyNewestL4
          refine st_gC (st_gI (st_gC (st_gI (st_gN (st_len (n := a.length) (by simp only [List.length_map, List.length_cons, List.length_nil]) ?_)))))
          refine st_if ?_ ?_
          · refine st_idx (f := encApiAccept) (rfl) fun y1 => ?_
            refine st_gA (st_gC (st_gI (st_gC (st_gI (st_gC (st_gS (st_gN ?_)))))))
            refine st_bd (eR18May y1) fun rA5 => ?_
            refine st_gB ?_
            refine st_bd (st_loop (fun r => [.b r.1, .i .i64 r.2]) (fun r => (6, [.b r])) (rfl) fun st2 => ?_) fun w2 => ?_
            · unfold tL18TallyNewestL2
              refine st_gC (st_gB (st_gC (st_gI (st_gN (st_len (n := a.length) (by simp only [List.length_map, List.length_cons, List.length_nil]) ?_)))))
              refine st_if ?_ ?_
              · refine st_bd (f := fun r => [.b r]) ?_ fun w3 => ?_
                · refine st_idx (f := encApiAccept) (rfl) fun y2 => ?_
                  refine st_gA (st_gC (st_gI (st_gC (st_gI (st_gC (st_gS (st_gN ?_)))))))
                  refine st_idx (f := encApiAccept) (rfl) fun y3 => ?_
                  refine st_gA (st_gC (st_gI (st_gC (st_gI (st_gC (st_gS (st_gN ?_)))))))
                  refine st_if ?_ ?_
                  · refine st_idx (f := encApiAccept) (rfl) fun y4 => ?_
                    refine st_gA (st_gC (st_gI (st_gC (st_gI (st_gC (st_gS (st_gN ?_)))))))
                    refine st_bd (eR18May y4) fun rA6 => ?_
                    refine st_gB ?_
                    exact st_some (rfl)
                  · exact st_some (rfl)
                · refine st_gC (st_gB (st_gN ?_))
                  refine st_bd (f := fun r => [.b r]) ?_ fun w4 => ?_
                  · refine st_ifb ?_ ?_
                    · refine st_ifb ?_ ?_
                      · exact st_some (rfl)
                      · refine st_idx (f := encApiAccept) (rfl) fun y5 => ?_
                        refine st_gA (st_gC (st_gI (st_gC (st_gI (st_gC (st_gS (st_gN ?_)))))))
                        refine st_idx (f := encApiAccept) (rfl) fun y6 => ?_
                        refine st_gA (st_gC (st_gI (st_gC (st_gI (st_gC (st_gS (st_gN ?_)))))))
                        refine st_if ?_ ?_
                        · exact st_some (rfl)
                        · refine st_idx (f := encApiAccept) (rfl) fun y7 => ?_
                          refine st_gA (st_gC (st_gI (st_gC (st_gI (st_gC (st_gS (st_gN ?_)))))))
                          refine st_idx (f := encApiAccept) (rfl) fun y8 => ?_
                          refine st_gA (st_gC (st_gI (st_gC (st_gI (st_gC (st_gS (st_gN ?_)))))))
                          refine st_if ?_ ?_
                          · exact st_some (rfl)
                          · exact st_some (rfl)
                    · exact st_some (rfl)
                  · refine st_gC (st_gB (st_gN ?_))
                    exact st_some (rfl)
              · exact st_some (rfl)
            · refine st_tt rfl (st_gC (st_gB (st_gN ?_)))
              refine st_bd (st_loop (fun r => [.b r.1, .i .i64 r.2]) (fun r => (8, [.b r])) (rfl) fun st3 => ?_) fun w5 => ?_
              · unfold tL18TallyNewestL3
                refine st_gC (st_gB (st_gC (st_gI (st_gN (st_len (n := w.length) (by simp only [List.length_map, List.length_cons, List.length_nil]) ?_)))))
                refine st_if ?_ ?_
                · refine st_bd (f := fun r => [.b r]) ?_ fun w6 => ?_
                  · refine st_ifb ?_ ?_
                    · exact st_some (rfl)
                    · refine st_idx (f := encApiAccept) (rfl) fun y9 => ?_
                      refine st_gA (st_gC (st_gI (st_gC (st_gI (st_gC (st_gS (st_gN ?_)))))))
                      refine st_idx (f := encApiAccept) (rfl) fun y10 => ?_
                      refine st_gA (st_gC (st_gI (st_gC (st_gI (st_gC (st_gS (st_gN ?_)))))))
                      exact st_some (rfl)
                  · refine st_gC (st_gB (st_gN ?_))
                    exact st_some (rfl)
                · exact st_some (rfl)
              · refine st_tt rfl (st_gC (st_gB (st_gN ?_)))
                refine st_bd (f := (fun r => (0, [.i .i64 r]))) ?_ fun w7 => ?_
                · refine st_ifb ?_ ?_
                  · exact st_some (rfl)
                  · exact st_some (rfl)
                · refine st_tt rfl (st_gC (st_gI (st_gN ?_)))
                  refine st_bd (f := fun r => [.b r]) ?_ fun w8 => ?_
                  · refine st_ifb ?_ ?_
                    · exact st_some (rfl)
                    · exact st_some (rfl)
                  · refine st_gC (st_gB (st_gN ?_))
                    refine st_ifb ?_ ?_
                    · exact st_some (rfl)
                    · exact st_some (rfl)
          · exact st_some (rfl)
        · rcases w1 with p5 | p6
          · refine st_ifT rfl (st_gC (st_gI (st_gN ?_)))
            refine st_bd (f := fun r => [.b r]) ?_ fun w9 => ?_
            · refine st_bd (eL18Alive) fun rA7 => ?_
              refine st_gB ?_
              refine st_ifb ?_ ?_
              · refine st_len (n := w.length) (by simp only [List.length_map, List.length_cons, List.length_nil]) ?_
                exact st_some (rfl)
              · exact st_some (rfl)
            · refine st_gC (st_gB (st_gN ?_))
              exact st_some (rfl)
          · refine st_ifF rfl (st_tt rfl (st_gC (st_gB (st_gN ?_))))
            exact st_some (rfl)
theorem eL18TallyBest (a : TallyTally) (a1 : Int) : Sm MV.b (dL18TallyBest (encTallyTally a) (.i .i64 a1)) (tL18TallyBest a a1) := by
  unfold dL18TallyBest tL18TallyBest
  refine st_gA (st_gC (st_gL (st_gN (st_gI ?_))))
  refine st_bd (f := fun r => [.b r]) ?_ fun w => ?_
  · refine st_bd (eL18Few a.L) fun rA => ?_
    refine st_gB ?_
    refine st_ifb ?_ ?_
    · exact st_some (rfl)
    · refine st_bd (eL18Plain a) fun rA1 => ?_
      refine st_gA (st_gC (st_gL (st_gN ?_)))
      refine st_bd (eR18Right rA1) fun rA2 => ?_
      refine st_gB ?_
      exact st_some (rfl)
  · refine st_gC (st_gB (st_gN ?_))
    refine st_ifb ?_ ?_
    · refine st_bd (eL18Alive) fun rA3 => ?_
      refine st_gB ?_
      exact st_some (rfl)
    · refine st_bd (eTallyBest a a1) fun rA4 => ?_
      refine st_gT (st_gC (st_gI (st_gC (st_gS (st_gC (st_gB (st_gN ?_)))))))
      refine st_bd (st_loop (fun r => [.i .i64 r]) (Sum.elim (fun r => (2, [])) (fun r => (1, [.b r]))) (rfl) fun st => ?_) fun w1 => ?_
      · unfold tL18TallyBestL1
        refine st_gC (st_gI (st_gN (st_len (n := a.L.length) (by simp only [List.length_map, List.length_cons, List.length_nil]) ?_)))
        refine st_if ?_ ?_
        · refine st_idx (f := encApiAccept) (rfl) fun y => ?_
          refine st_gA (st_gC (st_gI (st_gC (st_gI (st_gC (st_gS (st_gN ?_)))))))
          refine st_bd (f := fun r => [.b r]) ?_ fun w2 => ?_
          · refine st_if ?_ ?_
            · refine st_bd (eTallyCount a y.View y.Value) fun rA5 => ?_
              refine st_gI ?_
              refine st_if ?_ ?_
              · refine st_ifb ?_ ?_
                · exact st_some (rfl)
                · exact st_some (rfl)
              · exact st_some (rfl)
            · exact st_some (rfl)
          · refine st_gC (st_gB (st_gN ?_))
            refine st_ifb ?_ ?_
            · exact st_some (rfl)
            · exact st_some (rfl)
        · exact st_some (rfl)
      · rcases w1 with p1 | p2
        · refine st_ifT rfl (st_gN ?_)
          refine st_ifb ?_ ?_
          · refine st_bd (f := fun r => [.b r]) ?_ fun w3 => ?_
            · refine st_bd (eL18Alive) fun rA6 => ?_
              refine st_gB ?_
              refine st_ifb ?_ ?_
              · refine st_if ?_ ?_
                · exact st_some (rfl)
                · exact st_some (rfl)
              · exact st_some (rfl)
            · refine st_gC (st_gB (st_gN ?_))
              exact st_some (rfl)
          · refine st_bd (eTallyBest a (imax (IntKind.wrap .i64 (a1 - 1)) 1)) fun rA7 => ?_
            refine st_gT (st_gC (st_gI (st_gC (st_gS (st_gC (st_gB (st_gN ?_)))))))
            refine st_bd (f := fun r => [.b r]) ?_ fun w4 => ?_
            · refine st_bd (eL18Alive) fun rA8 => ?_
              refine st_gB ?_
              refine st_ifb ?_ ?_
              · refine st_if ?_ ?_
                · refine st_bd (eTallyCount a rA4.1 rA4.2.1) fun rA9 => ?_
                  refine st_gI ?_
                  refine st_if ?_ ?_
                  · refine st_ifb ?_ ?_
                    · refine st_if ?_ ?_
                      · refine st_bd (eTallyVoters a rA4.1 rA4.2.1) fun rA10 => ?_
                        refine st_gL (st_len (n := rA10.length) (by simp only [List.length_map, List.length_cons, List.length_nil]) ?_)
                        refine st_bd (eTallyCount a rA4.1 rA4.2.1) fun rA11 => ?_
                        refine st_gI ?_
                        exact st_some (rfl)
                      · exact st_some (rfl)
                    · exact st_some (rfl)
                  · exact st_some (rfl)
                · exact st_some (rfl)
              · exact st_some (rfl)
            · refine st_gC (st_gB (st_gN ?_))
              exact st_some (rfl)
        · refine st_ifF rfl (st_tt rfl (st_gC (st_gB (st_gN ?_))))
          exact st_some (rfl)
theorem eTallyRight (t : TallyTally) : Sm MV.b (dTallyRight (encTallyTally t)) (tTallyRight t) := by
  unfold dTallyRight tTallyRight
  refine st_gA (st_gC (st_gL (st_gN (st_len (n := t.L.length) (by simp only [List.length_map, List.length_cons, List.length_nil]) ?_))))
  refine st_bd (st_loop (fun r => [.i .i64 r]) (Sum.elim (fun r => (2, [])) (fun r => (1, [.b r]))) (rfl) fun st => ?_) fun w => ?_
  · unfold tTallyRightL1
    refine st_gC (st_gI (st_gN ?_))
    refine st_if ?_ ?_
    · refine st_idx (f := encApiAccept) (rfl) fun y => ?_
      refine st_gA (st_gC (st_gI (st_gC (st_gI (st_gC (st_gS (st_gN ?_)))))))
      refine st_bd (f := fun r => [.b r]) ?_ fun w1 => ?_
      · refine st_bd (eTallyMay y) fun rA => ?_
        refine st_gB ?_
        refine st_ifb ?_ ?_
        · exact st_some (rfl)
        · refine st_if ?_ ?_
          · refine st_idx (f := encApiAccept) (rfl) fun y1 => ?_
            refine st_gA (st_gC (st_gI (st_gC (st_gI (st_gC (st_gS (st_gN ?_)))))))
            exact st_some (rfl)
          · exact st_some (rfl)
      · refine st_gC (st_gB (st_gN ?_))
        refine st_ifb ?_ ?_
        · exact st_some (rfl)
        · exact st_some (rfl)
    · exact st_some (rfl)
  · rcases w with p1 | p2
    · refine st_ifT rfl (st_gN ?_)
      exact st_some (rfl)
    · refine st_ifF rfl (st_tt rfl (st_gC (st_gB (st_gN ?_))))
      exact st_some (rfl)
theorem eSlicesEqualApiAccept (s1 : List ApiAccept) (s2 : List ApiAccept) : Sm MV.b (dSlicesEqualApiAccept (.list (s1.map encApiAccept)) (.list (s2.map encApiAccept))) (tSlicesEqualApiAccept s1 s2) := by
  unfold dSlicesEqualApiAccept tSlicesEqualApiAccept
  refine st_gL (st_gL (st_len (n := s1.length) (by simp only [List.length_map, List.length_cons, List.length_nil]) (st_len (n := s2.length) (by simp only [List.length_map, List.length_cons, List.length_nil]) ?_)))
  refine st_ifb ?_ ?_
  · exact st_some (rfl)
  · refine st_len (n := s1.length) (by simp only [List.length_map, List.length_cons, List.length_nil]) ?_
    refine st_bd (st_loop (fun r => [.i .i64 r]) (Sum.elim (fun r => (2, [])) (fun r => (1, [.b r]))) (rfl) fun st => ?_) fun w => ?_
    · unfold tSlicesEqualApiAcceptL1
      refine st_gC (st_gI (st_gN ?_))
      refine st_if ?_ ?_
      · refine st_idx (f := encApiAccept) (rfl) fun y => ?_
        refine st_gA (st_gC (st_gI (st_gC (st_gI (st_gC (st_gS (st_gN ?_)))))))
        refine st_idx (f := encApiAccept) (rfl) fun y1 => ?_
        refine st_gA (st_gC (st_gI (st_gC (st_gI (st_gC (st_gS (st_gN ?_)))))))
        refine st_ifb ?_ ?_
        · exact st_some (rfl)
        · exact st_some (rfl)
      · exact st_some (rfl)
    · rcases w with p1 | p2
      · refine st_ifT rfl (st_gN ?_)
        exact st_some (rfl)
      · refine st_ifF rfl (st_tt rfl (st_gC (st_gB (st_gN ?_))))
        exact st_some (rfl)
theorem eTallySame (a : List ApiAccept) (b : List ApiAccept) : Sm MV.b (dTallySame (.list (a.map encApiAccept)) (.list (b.map encApiAccept))) (tTallySame a b) := by
  unfold dTallySame tTallySame
  refine st_gL (st_gL ?_)
  refine st_bd (eSlicesEqualApiAccept a b) fun rA => ?_
  refine st_gB ?_
  exact st_some (rfl)
theorem eL18TallyMay (a : ApiAccept) (t : TallyTally) (u : List ApiAccept) : Sm MV.b (dL18TallyMay (encApiAccept a) (encTallyTally t) (.list (u.map encApiAccept))) (tL18TallyMay a t u) := by
  unfold dL18TallyMay tL18TallyMay
  refine st_gA (st_gC (st_gI (st_gC (st_gI (st_gC (st_gS (st_gN (st_gA (st_gC (st_gL (st_gN ?_)))))))))))
  refine st_gL ?_
  refine st_bd (f := fun r => [.b r]) ?_ fun w => ?_
  · refine st_bd (eL18Few t.L) fun rA => ?_
    refine st_gB ?_
    refine st_ifb ?_ ?_
    · exact st_some (rfl)
    · refine st_bd (eL18Few u) fun rA1 => ?_
      refine st_gB ?_
      refine st_ifb ?_ ?_
      · exact st_some (rfl)
      · exact st_some (rfl)
  · refine st_gC (st_gB (st_gN ?_))
    refine st_ifb ?_ ?_
    · refine st_bd (eL18Alive) fun rA2 => ?_
      refine st_gB ?_
      exact st_some (rfl)
    · refine st_bd (f := fun r => [.b r]) ?_ fun w1 => ?_
      · refine st_bd (eL18Alive) fun rA3 => ?_
        refine st_gB ?_
        refine st_ifb ?_ ?_
        · refine st_bd (eTallyMay a) fun rA4 => ?_
          refine st_gB ?_
          refine st_bd (eR18May a) fun rA5 => ?_
          refine st_gB ?_
          refine st_if ?_ ?_
          · refine st_bd (eTallyRight t) fun rA6 => ?_
            refine st_gB ?_
            refine st_bd (eL18Plain t) fun rA7 => ?_
            refine st_gA (st_gC (st_gL (st_gN ?_)))
            refine st_bd (eR18Right rA7) fun rA8 => ?_
            refine st_gB ?_
            refine st_if ?_ ?_
            · refine st_bd (eTallySame t.L u) fun rA9 => ?_
              refine st_gB ?_
              refine st_bd (eR18Same t.L u) fun rA10 => ?_
              refine st_gB ?_
              exact st_some (rfl)
            · exact st_some (rfl)
          · exact st_some (rfl)
        · exact st_some (rfl)
      · refine st_gC (st_gB (st_gN ?_))
        exact st_some (rfl)
theorem eL18TallyTwo (a : TallyTally) (a1 : ApiAccept) (a2 : ApiAccept) : Sm MV.b (dL18TallyTwo (encTallyTally a) (encApiAccept a1) (encApiAccept a2)) (tL18TallyTwo a a1 a2) := by
  unfold dL18TallyTwo tL18TallyTwo
  refine st_gA (st_gC (st_gL (st_gN (st_gA (st_gC (st_gI (st_gC (st_gI (st_gC (st_gS (st_gN ?_)))))))))))
  refine st_gA (st_gC (st_gI (st_gC (st_gI (st_gC (st_gS (st_gN ?_)))))))
  refine st_bd (f := fun r => [.b r]) ?_ fun w => ?_
  · refine st_bd (eL18Few a.L) fun rA => ?_
    refine st_gB ?_
    refine st_ifb ?_ ?_
    · exact st_some (rfl)
    · refine st_if ?_ ?_
      · exact st_some (rfl)
      · refine st_if ?_ ?_
        · exact st_some (rfl)
        · refine st_bd (eL18Plain a) fun rA1 => ?_
          refine st_gA (st_gC (st_gL (st_gN ?_)))
          refine st_bd (eR18Right rA1) fun rA2 => ?_
          refine st_gB ?_
          exact st_some (rfl)
  · refine st_gC (st_gB (st_gN ?_))
    refine st_ifb ?_ ?_
    · refine st_bd (eL18Alive) fun rA3 => ?_
      refine st_gB ?_
      exact st_some (rfl)
    · refine st_bd (eTallyAdd a a1) fun rA4 => ?_
      refine st_gT (st_gC (st_gA (st_gC (st_gL (st_gN (st_gC (st_gB (st_gN ?_))))))))
      refine st_bd (eTallyAdd rA4.1 a2) fun rA5 => ?_
      refine st_gT (st_gC (st_gA (st_gC (st_gL (st_gN (st_gC (st_gB (st_gN ?_))))))))
      refine st_bd (eTallyAdd a a2) fun rA6 => ?_
      refine st_gT (st_gC (st_gA (st_gC (st_gL (st_gN (st_gC (st_gB (st_gN ?_))))))))
      refine st_bd (eTallyAdd rA6.1 a1) fun rA7 => ?_
      refine st_gT (st_gC (st_gA (st_gC (st_gL (st_gN (st_gC (st_gB (st_gN ?_))))))))
      refine st_bd (eTallyAdd rA4.1 a1) fun rA8 => ?_
      refine st_gT (st_gC (st_gA (st_gC (st_gL (st_gN (st_gC (st_gB (st_gN ?_))))))))
      refine st_bd (f := fun r => [.b r]) ?_ fun w1 => ?_
      · refine st_ifb ?_ ?_
        · exact st_some (rfl)
        · refine st_bd (eTallySame rA8.1.L rA4.1.L) fun rA9 => ?_
          refine st_gB ?_
          refine st_ifb ?_ ?_
          · exact st_some (rfl)
          · refine st_bd (eTallyRight rA5.1) fun rA10 => ?_
            refine st_gB ?_
            exact st_some (rfl)
      · refine st_gC (st_gB (st_gN ?_))
        refine st_ifb ?_ ?_
        · exact st_some (rfl)
        · refine st_bd (f := fun r => [.b r]) ?_ fun w2 => ?_
          · refine st_bd (eL18Alive) fun rA11 => ?_
            refine st_gB ?_
            refine st_ifb ?_ ?_
            · refine st_if ?_ ?_
              · exact st_some (rfl)
              · refine st_bd (eTallySame rA5.1.L rA7.1.L) fun rA12 => ?_
                refine st_gB ?_
                refine st_ifb ?_ ?_
                · refine st_if ?_ ?_
                  · exact st_some (rfl)
                  · exact st_some (rfl)
                · exact st_some (rfl)
            · exact st_some (rfl)
          · refine st_gC (st_gB (st_gN ?_))
            exact st_some (rfl)
end Dn.S
