import Derived.Test.YtmdniblpkkoeoaaDnWD
/-
  Typed and plain functions agree. Conditions: none.
-/
open Go Dn
set_option linter.unusedVariables false
set_option linter.unusedSimpArgs false
set_option maxRecDepth 100000
namespace Dn.S
theorem eWindowNew (size : Int) : Sm (fun r => .tup [encWindowWindow r.1, .i .i64 r.2]) (dWindowNew (.i .i64 size)) (tWindowNew size) := by
  unfold dWindowNew tWindowNew
  refine st_gI ?_
  refine st_bd (f := fun r => [.b r]) ?_ fun w => ?_
  · refine st_if ?_ ?_
    · exact st_some (rfl)
    · exact st_some (rfl)
  · refine st_gC (st_gB (st_gN ?_))
    refine st_ifb ?_ ?_
    · exact st_some (rfl)
    · exact st_some (rfl)
theorem eCmpIsNaNInt (x : Int) : Sm MV.b (dCmpIsNaNInt (.i .i64 x)) (tCmpIsNaNInt x) := by
  unfold dCmpIsNaNInt tCmpIsNaNInt
  refine st_gI ?_
  exact st_some (rfl)
theorem eCmpCompareInt (x : Int) (y : Int) : Sm (MV.i .i64) (dCmpCompareInt (.i .i64 x) (.i .i64 y)) (tCmpCompareInt x y) := by
  unfold dCmpCompareInt tCmpCompareInt
  refine st_gI (st_gI ?_)
  refine st_bd (eCmpIsNaNInt x) fun rA => ?_
  refine st_gB ?_
  refine st_bd (eCmpIsNaNInt y) fun rA1 => ?_
  refine st_gB ?_
  refine st_ifb ?_ ?_
  · refine st_ifb ?_ ?_
    · exact st_some (rfl)
    · exact st_some (rfl)
  · refine st_ifb ?_ ?_
    · exact st_some (rfl)
    · refine st_if ?_ ?_
      · exact st_some (rfl)
      · refine st_if ?_ ?_
        · exact st_some (rfl)
        · exact st_some (rfl)
theorem eWindowWindowPlaceF1 (x : WindowEntry) (slot : Int) : Sm (MV.i .i64) (dWindowWindowPlaceF1 (encWindowEntry x) (.i .i64 slot)) (tWindowWindowPlaceF1 x slot) := by
  unfold dWindowWindowPlaceF1 tWindowWindowPlaceF1
  refine st_gA (st_gC (st_gI (st_gC (st_gS (st_gN (st_gI ?_))))))
  refine st_bd (eCmpCompareInt x.Slot slot) fun rA => ?_
  refine st_gI ?_
  exact st_some (rfl)
theorem eSlicesBinarySearchFuncWindowEntryInt (x : List WindowEntry) (target : Int) (cmp : WindowEntry → Int → Option Int) {fn2 : Nat} {cap2 : List MV} (hgcmp : gv fn2 = false) (hccmpSlicesBinarySearchFuncWindowEntryInt : ∀ (u0 : WindowEntry) (u1 : Int), Sm (MV.i .i64) (preSlicesBinarySearchFuncWindowEntryInt fn2 ([encWindowEntry u0, .i .i64 u1] ++ cap2)) (cmp u0 u1)) : Sm (fun r => .tup [.i .i64 r.1, .b r.2]) (dSlicesBinarySearchFuncWindowEntryInt (.list (x.map encWindowEntry)) (.i .i64 target) (.func fn2 cap2)) (tSlicesBinarySearchFuncWindowEntryInt x target cmp) := by
  unfold dSlicesBinarySearchFuncWindowEntryInt tSlicesBinarySearchFuncWindowEntryInt
  refine st_gL (st_gI (st_gRf (st_len (n := x.length) (by simp only [List.length_map, List.length_cons, List.length_nil]) ?_)))
  refine st_bd (st_loop (fun r => [.i .i64 r.1, .i .i64 r.2]) (fun r => (2, [.i .i64 r])) (rfl) fun st => ?_) fun w => ?_
  · unfold tSlicesBinarySearchFuncWindowEntryIntL1
    refine st_gC (st_gI (st_gC (st_gI (st_gN ?_))))
    refine st_if ?_ ?_
    · refine st_chk ?_
      refine st_idx (f := encWindowEntry) (rfl) fun y => ?_
      refine st_gA (st_gC (st_gI (st_gC (st_gS (st_gN (st_gFn (st_tt (by rw [hgcmp]; rfl) ?_)))))))
      refine st_bd (hccmpSlicesBinarySearchFuncWindowEntryInt y target) fun rA => ?_
      refine st_gI ?_
      refine st_bd (f := (fun r => (0, [.i .i64 r.1, .i .i64 r.2]))) ?_ fun w1 => ?_
      · refine st_if ?_ ?_
        · exact st_some (rfl)
        · exact st_some (rfl)
      · refine st_tt rfl (st_gC (st_gI (st_gC (st_gI (st_gN ?_)))))
        exact st_some (rfl)
    · exact st_some (rfl)
  · refine st_tt rfl (st_gC (st_gI (st_gN ?_)))
    refine st_bd (f := fun r => [.i .i64 r.1, .b r.2]) ?_ fun w2 => ?_
    · refine st_if ?_ ?_
      · refine st_idx (f := encWindowEntry) (rfl) fun y1 => ?_
        refine st_gA (st_gC (st_gI (st_gC (st_gS (st_gN (st_gFn (st_tt (by rw [hgcmp]; rfl) ?_)))))))
        refine st_bd (hccmpSlicesBinarySearchFuncWindowEntryInt y1 target) fun rA1 => ?_
        refine st_gI ?_
        exact st_some (rfl)
      · exact st_some (rfl)
    · refine st_gC (st_gI (st_gC (st_gB (st_gN ?_))))
      exact st_some (rfl)
theorem eWindowWindowPlace (w : WindowWindow) (slot : Int) : Sm (fun r => .tup [.i .i64 r.1, .b r.2]) (dWindowWindowPlace (encWindowWindow w) (.i .i64 slot)) (tWindowWindowPlace w slot) := by
  unfold dWindowWindowPlace tWindowWindowPlace
  refine st_gA (st_gC (st_gI (st_gC (st_gI (st_gC (st_gL (st_gN (st_gI ?_))))))))
  refine st_bd (eSlicesBinarySearchFuncWindowEntryInt w.L slot tWindowWindowPlaceF1 (fn2 := 99) (cap2 := []) rfl (fun u2 u3 => Sm.at (atSlicesBinarySearchFuncWindowEntryIntWindowWindowPlaceF1 _ _) (eWindowWindowPlaceF1 u2 u3))) fun rA => ?_
  refine st_gT (st_gC (st_gI (st_gC (st_gB (st_gN ?_)))))
  exact st_some (rfl)
theorem eWindowWindowEnd (w : WindowWindow) : Sm (MV.i .i64) (dWindowWindowEnd (encWindowWindow w)) (tWindowWindowEnd w) := by
  unfold dWindowWindowEnd tWindowWindowEnd
  refine st_gA (st_gC (st_gI (st_gC (st_gI (st_gC (st_gL (st_gN ?_)))))))
  exact st_some (rfl)
theorem eWindowLearn (w : WindowWindow) (slot : Int) (value : List UInt8) : Sm (fun r => .tup [encWindowWindow r.1, .i .i64 r.2]) (dWindowLearn (encWindowWindow w) (.i .i64 slot) (.s value)) (tWindowLearn w slot value) := by
  unfold dWindowLearn tWindowLearn
  refine st_gA (st_gC (st_gI (st_gC (st_gI (st_gC (st_gL (st_gN (st_gI (st_gS ?_)))))))))
  refine st_bd (eWindowWindowPlace w slot) fun rA => ?_
  refine st_gT (st_gC (st_gI (st_gC (st_gB (st_gN ?_)))))
  refine st_if ?_ ?_
  · exact st_some (rfl)
  · refine st_bd (eWindowWindowEnd w) fun rA1 => ?_
    refine st_gI ?_
    refine st_if ?_ ?_
    · exact st_some (rfl)
    · refine st_if ?_ ?_
      · exact st_some (rfl)
      · refine st_bd (f := fun r => [.b r]) ?_ fun w1 => ?_
        · refine st_ifb ?_ ?_
          · refine st_idx (f := encWindowEntry) (rfl) fun y => ?_
            refine st_gA (st_gC (st_gI (st_gC (st_gS (st_gN ?_)))))
            exact st_some (rfl)
          · exact st_some (rfl)
        · refine st_gC (st_gB (st_gN ?_))
          refine st_ifb ?_ ?_
          · exact st_some (rfl)
          · refine st_ifb ?_ ?_
            · exact st_some (rfl)
            · refine st_bd (e_clone (size := 2) (f := encWindowEntry) (fun _ => rfl) w.L) fun rA2 => ?_
              refine st_gF ?_
              refine st_bd (e_insert (f := encWindowEntry) rA2 rA.1 ([(⟨slot, value⟩ : WindowEntry)] : List WindowEntry)) fun rA3 => ?_
              refine st_gF ?_
              exact st_some (rfl)
theorem eWindowTake (w : WindowWindow) : Sm (fun r => .tup [encWindowWindow r.1, .list (r.2.map MV.s)]) (dWindowTake (encWindowWindow w)) (tWindowTake w) := by
  unfold dWindowTake tWindowTake
  refine st_gA (st_gC (st_gI (st_gC (st_gI (st_gC (st_gL (st_gN (st_len (n := w.L.length) (by simp only [List.length_map, List.length_cons, List.length_nil]) ?_))))))))
  refine st_bd (st_loop (fun r => [.i .i64 r.1, .i .i64 r.2.1, .list (r.2.2.1.map encWindowEntry), .list (r.2.2.2.1.map MV.s), .i .i64 r.2.2.2.2]) (fun r => (2, [.i .i64 r.1, .i .i64 r.2.1, .list (r.2.2.1.map encWindowEntry), .list (r.2.2.2.map MV.s)])) (rfl) fun st => ?_) fun w1 => ?_
  · unfold tWindowTakeL1
    refine st_gC (st_gI (st_gC (st_gI (st_gC (st_gL (st_gC (st_gL (st_gC (st_gI (st_gN ?_))))))))))
    refine st_if ?_ ?_
    · refine st_idx (f := encWindowEntry) (rfl) fun y => ?_
      refine st_gA (st_gC (st_gI (st_gC (st_gS (st_gN ?_)))))
      refine st_ifb ?_ ?_
      · exact st_some (rfl)
      · refine st_len (n := st.2.2.2.1.length) (by simp only [List.length_map, List.length_cons, List.length_nil]) (st_len (n := ([y.Value] : List (List UInt8)).length) (by simp only [List.length_map, List.length_cons, List.length_nil]) (st_chk ?_))
        exact st_some (by simp only [Sum.map_inl, List.map_append, List.map_cons, List.map_nil, List.map_take, List.map_drop, List.map_set])
    · exact st_some (rfl)
  · refine st_tt rfl (st_gC (st_gI (st_gC (st_gI (st_gC (st_gL (st_gC (st_gL (st_gN (st_len (n := w1.2.2.2.length) (by simp only [List.length_map, List.length_cons, List.length_nil]) (st_tt (wids_of (rfl : _ = List.map encWindowEntry w1.2.2.1) fun _ => rfl) ?_)))))))))))
    refine st_len (n := w1.2.2.1.length) (by simp only [List.length_map, List.length_cons, List.length_nil]) (st_chk ?_)
    refine st_bd (by simpa only [List.map_append, List.map_cons, List.map_nil, List.map_take, List.map_drop, List.map_set] using e_clone (size := 2) (f := encWindowEntry) (fun _ => rfl) (List.drop (Int.toNat (w1.2.2.2.length : Int)) (List.take (Int.toNat (w1.2.2.1.length : Int)) w1.2.2.1))) fun rA => ?_
    refine st_gF ?_
    exact st_some (rfl)
theorem eL25Alive : Sm MV.b (dL25Alive) (tL25Alive) := by
  unfold dL25Alive tL25Alive
  refine st_bd (eWindowNew 2) fun rA => ?_
  refine st_gT (st_gC (st_gA (st_gC (st_gI (st_gC (st_gI (st_gC (st_gL (st_gN (st_gC (st_gI ?_)))))))))))
  refine st_gN ?_
  refine st_bd (eWindowLearn rA.1 1 ([98] : List UInt8)) fun rA1 => ?_
  refine st_gT (st_gC (st_gA (st_gC (st_gI (st_gC (st_gI (st_gC (st_gL (st_gN (st_gC (st_gI ?_)))))))))))
  refine st_gN ?_
  refine st_bd (eWindowLearn rA1.1 0 ([97] : List UInt8)) fun rA2 => ?_
  refine st_gT (st_gC (st_gA (st_gC (st_gI (st_gC (st_gI (st_gC (st_gL (st_gN (st_gC (st_gI ?_)))))))))))
  refine st_gN ?_
  refine st_bd (eWindowLearn rA2.1 2 ([99] : List UInt8)) fun rA3 => ?_
  refine st_gT (st_gC (st_gA (st_gC (st_gI (st_gC (st_gI (st_gC (st_gL (st_gN (st_gC (st_gI ?_)))))))))))
  refine st_gN ?_
  refine st_bd (eWindowTake rA2.1) fun rA4 => ?_
  refine st_gT (st_gC (st_gA (st_gC (st_gI (st_gC (st_gI (st_gC (st_gL (st_gN (st_gC (st_gL ?_)))))))))))
  refine st_gN ?_
  refine st_bd (f := fun r => [.b r]) ?_ fun w => ?_
  · refine st_if ?_ ?_
    · refine st_if ?_ ?_
      · refine st_if ?_ ?_
        · refine st_if ?_ ?_
          · refine st_len (n := rA4.2.length) (by simp only [List.length_map, List.length_cons, List.length_nil]) ?_
            refine st_if ?_ ?_
            · refine st_idx (f := MV.s) (rfl) fun y => ?_
              refine st_gS ?_
              refine st_if ?_ ?_
              · exact st_some (rfl)
              · exact st_some (rfl)
            · exact st_some (rfl)
          · exact st_some (rfl)
        · exact st_some (rfl)
      · exact st_some (rfl)
    · exact st_some (rfl)
  · refine st_gC (st_gB (st_gN ?_))
    exact st_some (rfl)
theorem eR25Right (a : R25Window) : Sm MV.b (dR25Right (encR25Window a)) (tR25Right a) := by
  unfold dR25Right tR25Right
  refine st_gA (st_gC (st_gI (st_gC (st_gI (st_gC (st_gL (st_gN ?_)))))))
  refine st_bd (f := fun r => [.b r]) ?_ fun w => ?_
  · refine st_if ?_ ?_
    · exact st_some (rfl)
    · refine st_if ?_ ?_
      · exact st_some (rfl)
      · refine st_if ?_ ?_
        · exact st_some (rfl)
        · exact st_some (rfl)
  · refine st_gC (st_gB (st_gN ?_))
    refine st_ifb ?_ ?_
    · exact st_some (rfl)
    · refine st_bd (st_loop (fun r => [.i .i64 r]) (Sum.elim (fun r => (2, [])) (fun r => (1, [.b r]))) (rfl) fun st => ?_) fun w1 => ?_
      · unfold tR25RightL1
        refine st_gC (st_gI (st_gN (st_len (n := a.L.length) (by simp only [List.length_map, List.length_cons, List.length_nil]) ?_)))
        refine st_if ?_ ?_
        · refine st_idx (f := encR25Entry) (rfl) fun y => ?_
          refine st_gA (st_gC (st_gI (st_gC (st_gS (st_gN ?_)))))
          refine st_bd (f := fun r => [.b r]) ?_ fun w2 => ?_
          · refine st_if ?_ ?_
            · exact st_some (rfl)
            · refine st_if ?_ ?_
              · exact st_some (rfl)
              · refine st_if ?_ ?_
                · exact st_some (rfl)
                · refine st_if ?_ ?_
                  · exact st_some (rfl)
                  · refine st_if ?_ ?_
                    · refine st_idx (f := encR25Entry) (rfl) fun y1 => ?_
                      refine st_gA (st_gC (st_gI (st_gC (st_gS (st_gN ?_)))))
                      exact st_some (rfl)
                    · exact st_some (rfl)
          · refine st_gC (st_gB (st_gN ?_))
            refine st_ifb ?_ ?_
            · exact st_some (rfl)
            · exact st_some (rfl)
        · exact st_some (rfl)
      · rcases w1 with p1 | p2
        · refine st_ifT rfl (st_gN ?_)
          exact st_some (rfl)
        · refine st_ifF rfl (st_tt rfl (st_gC (st_gB (st_gN ?_))))
          exact st_some (rfl)
theorem eL25Plain (w : WindowWindow) : Sm encR25Window (dL25Plain (encWindowWindow w)) (tL25Plain w) := by
  unfold dL25Plain tL25Plain
  refine st_gA (st_gC (st_gI (st_gC (st_gI (st_gC (st_gL (st_gN ?_)))))))
  refine st_bd (st_loop (fun r => [.i .i64 r.1, .i .i64 r.2.1, .list (r.2.2.1.map encR25Entry), .i .i64 r.2.2.2]) (fun r => (2, [.i .i64 r.1, .i .i64 r.2.1, .list (r.2.2.map encR25Entry)])) (rfl) fun st => ?_) fun w1 => ?_
  · unfold tL25PlainL1
    refine st_gC (st_gI (st_gC (st_gI (st_gC (st_gL (st_gC (st_gI (st_gN (st_len (n := w.L.length) (by simp only [List.length_map, List.length_cons, List.length_nil]) ?_)))))))))
    refine st_if ?_ ?_
    · refine st_idx (f := encWindowEntry) (rfl) fun y => ?_
      refine st_gA (st_gC (st_gI (st_gC (st_gS (st_gN ?_)))))
      refine st_idx (f := encWindowEntry) (rfl) fun y1 => ?_
      refine st_gA (st_gC (st_gI (st_gC (st_gS (st_gN (st_len (n := st.2.2.1.length) (by simp only [List.length_map, List.length_cons, List.length_nil]) (st_len (n := ([(⟨y.Slot, y1.Value⟩ : R25Entry)] : List R25Entry).length) (by simp only [List.length_map, List.length_cons, List.length_nil]) (st_chk ?_))))))))
      exact st_some (by simp only [Sum.map_inl, List.map_append, List.map_cons, List.map_nil, List.map_take, List.map_drop, List.map_set])
    · exact st_some (rfl)
  · refine st_tt rfl (st_gC (st_gI (st_gC (st_gI (st_gC (st_gL (st_gN ?_)))))))
    exact st_some (rfl)
theorem eL25WindowOrders (a : Int) (a1 : List L25Word) : Sm MV.b (dL25WindowOrders (.i .i64 a) (.list (a1.map encL25Word))) (tL25WindowOrders a a1) := by
  unfold dL25WindowOrders tL25WindowOrders
  refine st_gI (st_gL ?_)
  refine st_bd (eWindowNew a) fun rA => ?_
  refine st_gT (st_gC (st_gA (st_gC (st_gI (st_gC (st_gI (st_gC (st_gL (st_gN (st_gC (st_gI ?_)))))))))))
  refine st_gN ?_
  refine st_bd (f := fun r => [.b r]) ?_ fun w => ?_
  · refine st_ifb ?_ ?_
    · exact st_some (rfl)
    · refine st_len (n := a1.length) (by simp only [List.length_map, List.length_cons, List.length_nil]) ?_
      exact st_some (rfl)
  · refine st_gC (st_gB (st_gN ?_))
    refine st_ifb ?_ ?_
    · refine st_bd (eL25Alive) fun rA1 => ?_
      refine st_gB ?_
      exact st_some (rfl)
    · refine st_bd (st_loop (fun r => [.i .i64 r.1, .i .i64 r.2.1, .list (r.2.2.1.map encWindowEntry), .list (r.2.2.2.1.map encWindowEntry), .list (r.2.2.2.2.1.map MV.s), .i .i64 r.2.2.2.2.2]) (Sum.elim (fun r => (2, [.list (r.1.map encWindowEntry), .list (r.2.map MV.s)])) (fun r => (1, [.b r]))) (rfl) fun st => ?_) fun w1 => ?_
      · unfold tL25WindowOrdersL2
        refine st_gC (st_gI (st_gC (st_gI (st_gC (st_gL (st_gC (st_gL (st_gC (st_gL (st_gC (st_gI ?_)))))))))))
        refine st_gN (st_len (n := a1.length) (by simp only [List.length_map, List.length_cons, List.length_nil]) ?_)
        refine st_if ?_ ?_
        · refine st_idx (f := encL25Word) (rfl) fun y => ?_
          refine st_gA (st_gC (st_gI (st_gC (st_gS (st_gC (st_gB (st_gN ?_)))))))
          refine st_if ?_ ?_
          · refine st_bd (eL25Alive) fun rA2 => ?_
            refine st_gB ?_
            exact st_some (rfl)
          · refine st_bd (st_loop (fun r => [.b r.1, .i .i64 r.2]) (fun r => (4, [.b r])) (rfl) fun st1 => ?_) fun w2 => ?_
            · unfold tL25WindowOrdersL1
              refine st_gC (st_gB (st_gC (st_gI (st_gN (st_len (n := st.2.2.2.1.length) (by simp only [List.length_map, List.length_cons, List.length_nil]) ?_)))))
              refine st_if ?_ ?_
              · refine st_bd (f := fun r => [.b r]) ?_ fun w3 => ?_
                · refine st_ifb ?_ ?_
                  · exact st_some (rfl)
                  · refine st_idx (f := encWindowEntry) (rfl) fun y1 => ?_
                    refine st_gA (st_gC (st_gI (st_gC (st_gS (st_gN ?_)))))
                    exact st_some (rfl)
                · refine st_gC (st_gB (st_gN ?_))
                  exact st_some (rfl)
              · exact st_some (rfl)
            · refine st_tt rfl (st_gC (st_gB (st_gN ?_)))
              refine st_bd (eWindowLearn (⟨st.1, st.2.1, st.2.2.1⟩ : WindowWindow) y.Slot y.Value) fun rA3 => ?_
              refine st_gT (st_gC (st_gA (st_gC (st_gI (st_gC (st_gI (st_gC (st_gL (st_gN (st_gC (st_gI ?_)))))))))))
              refine st_gN ?_
              refine st_bd (f := fun r => [.b r]) ?_ fun w4 => ?_
              · refine st_if ?_ ?_
                · exact st_some (rfl)
                · exact st_some (rfl)
              · refine st_gC (st_gB (st_gN ?_))
                refine st_bd (f := (fun r => (0, [.list (r.map encWindowEntry)]))) ?_ fun w5 => ?_
                · refine st_ifb ?_ ?_
                  · refine st_len (n := st.2.2.2.1.length) (by simp only [List.length_map, List.length_cons, List.length_nil]) (st_len (n := ([(⟨y.Slot, y.Value⟩ : WindowEntry)] : List WindowEntry).length) (by simp only [List.length_map, List.length_cons, List.length_nil]) (st_chk ?_))
                    exact st_some (by simp only [Sum.elim_inl, Sum.elim_inr, List.map_append, List.map_cons, List.map_nil, List.map_take, List.map_drop, List.map_set])
                  · exact st_some (rfl)
                · refine st_tt rfl (st_gC (st_gL (st_gN ?_)))
                  refine st_bd (f := (fun r => (0, [.i .i64 r.1, .i .i64 r.2.1, .list (r.2.2.1.map encWindowEntry), .list (r.2.2.2.map MV.s)]))) ?_ fun w6 => ?_
                  · refine st_ifb ?_ ?_
                    · refine st_bd (eWindowTake rA3.1) fun rA4 => ?_
                      refine st_gT (st_gC (st_gA (st_gC (st_gI (st_gC (st_gI (st_gC (st_gL (st_gN (st_gC (st_gL ?_)))))))))))
                      refine st_gN (st_tt (wids_of (rfl : _ = List.map MV.s rA4.2) fun _ => rfl) (st_len (n := st.2.2.2.2.1.length) (by simp only [List.length_map, List.length_cons, List.length_nil]) (st_len (n := rA4.2.length) (by simp only [List.length_map, List.length_cons, List.length_nil]) (st_chk ?_))))
                      exact st_some (by simp only [Sum.elim_inl, Sum.elim_inr, List.map_append, List.map_cons, List.map_nil, List.map_take, List.map_drop, List.map_set])
                    · exact st_some (rfl)
                  · refine st_tt rfl (st_gC (st_gI (st_gC (st_gI (st_gC (st_gL (st_gC (st_gL (st_gN ?_)))))))))
                    refine st_bd (f := fun r => [.b r]) ?_ fun w7 => ?_
                    · refine st_bd (eL25Plain (⟨w6.1, w6.2.1, w6.2.2.1⟩ : WindowWindow)) fun rA5 => ?_
                      refine st_gA (st_gC (st_gI (st_gC (st_gI (st_gC (st_gL (st_gN ?_)))))))
                      refine st_bd (eR25Right rA5) fun rA6 => ?_
                      refine st_gB ?_
                      refine st_ifb ?_ ?_
                      · exact st_some (rfl)
                      · refine st_len (n := w6.2.2.2.length) (by simp only [List.length_map, List.length_cons, List.length_nil]) ?_
                        refine st_ifb ?_ ?_
                        · exact st_some (rfl)
                        · refine st_len (n := w6.2.2.1.length) (by simp only [List.length_map, List.length_cons, List.length_nil]) ?_
                          refine st_if ?_ ?_
                          · exact st_some (rfl)
                          · refine st_len (n := w6.2.2.1.length) (by simp only [List.length_map, List.length_cons, List.length_nil]) (st_len (n := w6.2.2.2.length) (by simp only [List.length_map, List.length_cons, List.length_nil]) (st_len (n := w5.length) (by simp only [List.length_map, List.length_cons, List.length_nil]) ?_))
                            exact st_some (rfl)
                    · refine st_gC (st_gB (st_gN ?_))
                      refine st_ifb ?_ ?_
                      · exact st_some (rfl)
                      · exact st_some (rfl)
        · exact st_some (rfl)
      · rcases w1 with p4 | p5
        · refine st_ifT rfl (st_gC (st_gL (st_gC (st_gL (st_gN ?_)))))
          refine st_bd (st_loop (fun r => [.i .i64 r]) (Sum.elim (fun r => (6, [])) (fun r => (1, [.b r]))) (rfl) fun st2 => ?_) fun w8 => ?_
          · unfold tL25WindowOrdersL4
            refine st_gC (st_gI (st_gN (st_len (n := p4.2.length) (by simp only [List.length_map, List.length_cons, List.length_nil]) ?_)))
            refine st_if ?_ ?_
            · refine st_bd (st_loop (fun r => [.b r.1, .i .i64 r.2]) (fun r => (8, [.b r])) (rfl) fun st3 => ?_) fun w9 => ?_
              · unfold tL25WindowOrdersL3
                refine st_gC (st_gB (st_gC (st_gI (st_gN (st_len (n := p4.1.length) (by simp only [List.length_map, List.length_cons, List.length_nil]) ?_)))))
                refine st_if ?_ ?_
                · refine st_bd (f := fun r => [.b r]) ?_ fun w10 => ?_
                  · refine st_ifb ?_ ?_
                    · exact st_some (rfl)
                    · refine st_idx (f := encWindowEntry) (rfl) fun y2 => ?_
                      refine st_gA (st_gC (st_gI (st_gC (st_gS (st_gN ?_)))))
                      refine st_if ?_ ?_
                      · refine st_idx (f := encWindowEntry) (rfl) fun y3 => ?_
                        refine st_gA (st_gC (st_gI (st_gC (st_gS (st_gN ?_)))))
                        refine st_idx (f := MV.s) (rfl) fun y4 => ?_
                        refine st_gS ?_
                        exact st_some (rfl)
                      · exact st_some (rfl)
                  · refine st_gC (st_gB (st_gN ?_))
                    exact st_some (rfl)
                · exact st_some (rfl)
              · refine st_tt rfl (st_gC (st_gB (st_gN ?_)))
                refine st_ifb ?_ ?_
                · exact st_some (rfl)
                · exact st_some (rfl)
            · exact st_some (rfl)
          · rcases w8 with p8 | p9
            · refine st_ifT rfl (st_gN ?_)
              refine st_bd (eL25Alive) fun rA7 => ?_
              refine st_gB ?_
              exact st_some (rfl)
            · refine st_ifF rfl (st_tt rfl (st_gC (st_gB (st_gN ?_))))
              exact st_some (rfl)
        · refine st_ifF rfl (st_tt rfl (st_gC (st_gB (st_gN ?_))))
          exact st_some (rfl)
theorem eL25Few (w : WindowWindow) : Sm MV.b (dL25Few (encWindowWindow w)) (tL25Few w) := by
  unfold dL25Few tL25Few
  refine st_gA (st_gC (st_gI (st_gC (st_gI (st_gC (st_gL (st_gN ?_)))))))
  refine st_bd (st_loop (fun r => [.i .i64 r]) (Sum.elim (fun r => (2, [])) (fun r => (1, [.b r]))) (rfl) fun st => ?_) fun w1 => ?_
  · unfold tL25FewL1
    refine st_gC (st_gI (st_gN (st_len (n := w.L.length) (by simp only [List.length_map, List.length_cons, List.length_nil]) ?_)))
    refine st_if ?_ ?_
    · refine st_bd (f := fun r => [.b r]) ?_ fun w2 => ?_
      · refine st_if ?_ ?_
        · exact st_some (rfl)
        · refine st_idx (f := encWindowEntry) (rfl) fun y => ?_
          refine st_gA (st_gC (st_gI (st_gC (st_gS (st_gN ?_)))))
          exact st_some (rfl)
      · refine st_gC (st_gB (st_gN ?_))
        refine st_ifb ?_ ?_
        · exact st_some (rfl)
        · exact st_some (rfl)
    · exact st_some (rfl)
  · rcases w1 with p1 | p2
    · refine st_ifT rfl (st_gN ?_)
      exact st_some (rfl)
    · refine st_ifF rfl (st_tt rfl (st_gC (st_gB (st_gN ?_))))
      exact st_some (rfl)
theorem eR25Has (w : R25Window) (slot : Int) : Sm (fun r => .tup [.s r.1, .b r.2]) (dR25Has (encR25Window w) (.i .i64 slot)) (tR25Has w slot) := by
  unfold dR25Has tR25Has
  refine st_gA (st_gC (st_gI (st_gC (st_gI (st_gC (st_gL (st_gN (st_gI ?_))))))))
  refine st_bd (st_loop (fun r => [.i .i64 r]) (Sum.elim (fun r => (2, [])) (fun r => (1, [.s r.1, .b r.2]))) (rfl) fun st => ?_) fun w1 => ?_
  · unfold tR25HasL1
    refine st_gC (st_gI (st_gN (st_len (n := w.L.length) (by simp only [List.length_map, List.length_cons, List.length_nil]) ?_)))
    refine st_if ?_ ?_
    · refine st_idx (f := encR25Entry) (rfl) fun y => ?_
      refine st_gA (st_gC (st_gI (st_gC (st_gS (st_gN ?_)))))
      refine st_if ?_ ?_
      · refine st_idx (f := encR25Entry) (rfl) fun y1 => ?_
        refine st_gA (st_gC (st_gI (st_gC (st_gS (st_gN ?_)))))
        exact st_some (rfl)
      · exact st_some (rfl)
    · exact st_some (rfl)
  · rcases w1 with p1 | p2
    · refine st_ifT rfl (st_gN ?_)
      exact st_some (rfl)
    · refine st_ifF rfl (st_tt rfl (st_gC (st_gS (st_gC (st_gB (st_gN ?_))))))
      exact st_some (rfl)
theorem eR25Learn (a : R25Window) (a1 : Int) (a2 : List UInt8) : Sm (fun r => .tup [encR25Window r.1, .i .i64 r.2]) (dR25Learn (encR25Window a) (.i .i64 a1) (.s a2)) (tR25Learn a a1 a2) := by
  unfold dR25Learn tR25Learn
  refine st_gA (st_gC (st_gI (st_gC (st_gI (st_gC (st_gL (st_gN (st_gI (st_gS ?_)))))))))
  refine st_if ?_ ?_
  · exact st_some (rfl)
  · refine st_bd (f := fun r => [.b r]) ?_ fun w => ?_
    · refine st_if ?_ ?_
      · exact st_some (rfl)
      · exact st_some (rfl)
    · refine st_gC (st_gB (st_gN ?_))
      refine st_ifb ?_ ?_
      · exact st_some (rfl)
      · refine st_if ?_ ?_
        · exact st_some (rfl)
        · refine st_bd (eR25Has a a1) fun rA => ?_
          refine st_gT (st_gC (st_gS (st_gC (st_gB (st_gN ?_)))))
          refine st_bd (f := fun r => [.b r]) ?_ fun w1 => ?_
          · refine st_ifb ?_ ?_
            · exact st_some (rfl)
            · exact st_some (rfl)
          · refine st_gC (st_gB (st_gN ?_))
            refine st_ifb ?_ ?_
            · exact st_some (rfl)
            · refine st_ifb ?_ ?_
              · exact st_some (rfl)
              · refine st_bd (st_loop (fun r => [.list (r.1.map encR25Entry), .i .i64 r.2]) (fun r => (2, [.list (r.map encR25Entry)])) (rfl) fun st => ?_) fun w2 => ?_
                · unfold tR25LearnL1
                  refine st_gC (st_gL (st_gC (st_gI (st_gN ?_))))
                  refine st_if ?_ ?_
                  · refine st_bd (eR25Has a st.2) fun rA1 => ?_
                    refine st_gT (st_gC (st_gS (st_gC (st_gB (st_gN ?_)))))
                    refine st_bd (f := (fun r => (0, [.list (r.map encR25Entry)]))) ?_ fun w3 => ?_
                    · refine st_ifb ?_ ?_
                      · refine st_len (n := st.1.length) (by simp only [List.length_map, List.length_cons, List.length_nil]) (st_len (n := ([(⟨st.2, rA1.1⟩ : R25Entry)] : List R25Entry).length) (by simp only [List.length_map, List.length_cons, List.length_nil]) (st_chk ?_))
                        exact st_some (by simp only [Sum.elim_inl, Sum.elim_inr, List.map_append, List.map_cons, List.map_nil, List.map_take, List.map_drop, List.map_set])
                      · exact st_some (rfl)
                    · refine st_tt rfl (st_gC (st_gL (st_gN ?_)))
                      refine st_bd (f := (fun r => (0, [.list (r.map encR25Entry)]))) ?_ fun w4 => ?_
                      · refine st_if ?_ ?_
                        · refine st_len (n := w3.length) (by simp only [List.length_map, List.length_cons, List.length_nil]) (st_len (n := ([(⟨st.2, a2⟩ : R25Entry)] : List R25Entry).length) (by simp only [List.length_map, List.length_cons, List.length_nil]) (st_chk ?_))
                          exact st_some (by simp only [Sum.elim_inl, Sum.elim_inr, List.map_append, List.map_cons, List.map_nil, List.map_take, List.map_drop, List.map_set])
                        · exact st_some (rfl)
                      · refine st_tt rfl (st_gC (st_gL (st_gN ?_)))
                        exact st_some (rfl)
                  · exact st_some (rfl)
                · refine st_tt rfl (st_gC (st_gL (st_gN ?_)))
                  exact st_some (rfl)
theorem eR25Take (w : R25Window) : Sm (fun r => .tup [encR25Window r.1, .list (r.2.map MV.s)]) (dR25Take (encR25Window w)) (tR25Take w) := by
  unfold dR25Take tR25Take
  refine st_gA (st_gC (st_gI (st_gC (st_gI (st_gC (st_gL (st_gN ?_)))))))
  refine st_bd (st_loop (fun r => [.list (r.1.map MV.s), .i .i64 r.2]) (fun r => (2, [.list (r.1.map MV.s), .i .i64 r.2])) (rfl) fun st => ?_) fun w1 => ?_
  · unfold tR25TakeL1
    refine st_gC (st_gL (st_gC (st_gI (st_gN ?_))))
    refine st_bd (eR25Has w st.2) fun rA => ?_
    refine st_gT (st_gC (st_gS (st_gC (st_gB (st_gN ?_)))))
    refine st_ifb ?_ ?_
    · exact st_some (rfl)
    · refine st_len (n := st.1.length) (by simp only [List.length_map, List.length_cons, List.length_nil]) (st_len (n := ([rA.1] : List (List UInt8)).length) (by simp only [List.length_map, List.length_cons, List.length_nil]) (st_chk ?_))
      exact st_some (by simp only [Sum.map_inl, List.map_append, List.map_cons, List.map_nil, List.map_take, List.map_drop, List.map_set])
  · refine st_tt rfl (st_gC (st_gL (st_gC (st_gI (st_gN ?_)))))
    refine st_bd (st_loop (fun r => [.list (r.1.map encR25Entry), .i .i64 r.2]) (fun r => (4, [.list (r.map encR25Entry)])) (rfl) fun st1 => ?_) fun w2 => ?_
    · unfold tR25TakeL2
      refine st_gC (st_gL (st_gC (st_gI (st_gN (st_len (n := w.L.length) (by simp only [List.length_map, List.length_cons, List.length_nil]) ?_)))))
      refine st_if ?_ ?_
      · refine st_idx (f := encR25Entry) (rfl) fun y => ?_
        refine st_gA (st_gC (st_gI (st_gC (st_gS (st_gN ?_)))))
        refine st_bd (f := (fun r => (0, [.list (r.map encR25Entry)]))) ?_ fun w3 => ?_
        · refine st_if ?_ ?_
          · refine st_idx (f := encR25Entry) (rfl) fun y1 => ?_
            refine st_gA (st_gC (st_gI (st_gC (st_gS (st_gN (st_len (n := st1.1.length) (by simp only [List.length_map, List.length_cons, List.length_nil]) (st_len (n := ([y1] : List R25Entry).length) (by simp only [List.length_map, List.length_cons, List.length_nil]) (st_chk ?_))))))))
            exact st_some (by simp only [Sum.elim_inl, Sum.elim_inr, List.map_append, List.map_cons, List.map_nil, List.map_take, List.map_drop, List.map_set])
          · exact st_some (rfl)
        · refine st_tt rfl (st_gC (st_gL (st_gN ?_)))
          exact st_some (rfl)
      · exact st_some (rfl)
    · refine st_tt rfl (st_gC (st_gL (st_gN ?_)))
      exact st_some (rfl)
theorem eR25Same (a : R25Window) (b : R25Window) : Sm MV.b (dR25Same (encR25Window a) (encR25Window b)) (tR25Same a b) := by
  unfold dR25Same tR25Same
  refine st_gA (st_gC (st_gI (st_gC (st_gI (st_gC (st_gL (st_gN (st_gA (st_gC (st_gI (st_gC ?_)))))))))))
  refine st_gI (st_gC (st_gL (st_gN ?_)))
  refine st_bd (f := fun r => [.b r]) ?_ fun w => ?_
  · refine st_ifb ?_ ?_
    · exact st_some (rfl)
    · refine st_ifb ?_ ?_
      · exact st_some (rfl)
      · refine st_len (n := a.L.length) (by simp only [List.length_map, List.length_cons, List.length_nil]) (st_len (n := b.L.length) (by simp only [List.length_map, List.length_cons, List.length_nil]) ?_)
        exact st_some (rfl)
  · refine st_gC (st_gB (st_gN ?_))
    refine st_ifb ?_ ?_
    · exact st_some (rfl)
    · refine st_bd (st_loop (fun r => [.i .i64 r]) (Sum.elim (fun r => (2, [])) (fun r => (1, [.b r]))) (rfl) fun st => ?_) fun w1 => ?_
      · unfold tR25SameL1
        refine st_gC (st_gI (st_gN (st_len (n := a.L.length) (by simp only [List.length_map, List.length_cons, List.length_nil]) ?_)))
        refine st_if ?_ ?_
        · refine st_idx (f := encR25Entry) (rfl) fun y => ?_
          refine st_gA (st_gC (st_gI (st_gC (st_gS (st_gN ?_)))))
          refine st_idx (f := encR25Entry) (rfl) fun y1 => ?_
          refine st_gA (st_gC (st_gI (st_gC (st_gS (st_gN ?_)))))
          refine st_ifb ?_ ?_
          · exact st_some (rfl)
          · exact st_some (rfl)
        · exact st_some (rfl)
      · rcases w1 with p1 | p2
        · refine st_ifT rfl (st_gN ?_)
          exact st_some (rfl)
        · refine st_ifF rfl (st_tt rfl (st_gC (st_gB (st_gN ?_))))
          exact st_some (rfl)
theorem eR01Strings (a : List (List UInt8)) (b : List (List UInt8)) : Sm MV.b (dR01Strings (.list (a.map MV.s)) (.list (b.map MV.s))) (tR01Strings a b) := by
  unfold dR01Strings tR01Strings
  refine st_gL (st_gL (st_len (n := a.length) (by simp only [List.length_map, List.length_cons, List.length_nil]) (st_len (n := b.length) (by simp only [List.length_map, List.length_cons, List.length_nil]) ?_)))
  refine st_ifb ?_ ?_
  · exact st_some (rfl)
  · refine st_bd (st_loop (fun r => [.i .i64 r]) (Sum.elim (fun r => (2, [])) (fun r => (1, [.b r]))) (rfl) fun st => ?_) fun w => ?_
    · unfold tR01StringsL1
      refine st_gC (st_gI (st_gN (st_len (n := a.length) (by simp only [List.length_map, List.length_cons, List.length_nil]) ?_)))
      refine st_if ?_ ?_
      · refine st_idx (f := MV.s) (rfl) fun y => ?_
        refine st_gS ?_
        refine st_idx (f := MV.s) (rfl) fun y1 => ?_
        refine st_gS ?_
        refine st_ifb ?_ ?_
        · exact st_some (rfl)
        · exact st_some (rfl)
      · exact st_some (rfl)
    · rcases w with p1 | p2
      · refine st_ifT rfl (st_gN ?_)
        exact st_some (rfl)
      · refine st_ifF rfl (st_tt rfl (st_gC (st_gB (st_gN ?_))))
        exact st_some (rfl)
theorem eR01Ints (a : List Int) (b : List Int) : Sm MV.b (dR01Ints (.list (a.map (MV.i .i64))) (.list (b.map (MV.i .i64)))) (tR01Ints a b) := by
  unfold dR01Ints tR01Ints
  refine st_gL (st_gL (st_len (n := a.length) (by simp only [List.length_map, List.length_cons, List.length_nil]) (st_len (n := b.length) (by simp only [List.length_map, List.length_cons, List.length_nil]) ?_)))
  refine st_ifb ?_ ?_
  · exact st_some (rfl)
  · refine st_bd (st_loop (fun r => [.i .i64 r]) (Sum.elim (fun r => (2, [])) (fun r => (1, [.b r]))) (rfl) fun st => ?_) fun w => ?_
    · unfold tR01IntsL1
      refine st_gC (st_gI (st_gN (st_len (n := a.length) (by simp only [List.length_map, List.length_cons, List.length_nil]) ?_)))
      refine st_if ?_ ?_
      · refine st_idx (f := (MV.i .i64)) (rfl) fun y => ?_
        refine st_gI ?_
        refine st_idx (f := (MV.i .i64)) (rfl) fun y1 => ?_
        refine st_gI ?_
        refine st_ifb ?_ ?_
        · exact st_some (rfl)
        · exact st_some (rfl)
      · exact st_some (rfl)
    · rcases w with p1 | p2
      · refine st_ifT rfl (st_gN ?_)
        exact st_some (rfl)
      · refine st_ifF rfl (st_tt rfl (st_gC (st_gB (st_gN ?_))))
        exact st_some (rfl)
theorem eWindowOpen (w : WindowWindow) : Sm (encL (MV.i .i64)) (dWindowOpen (encWindowWindow w)) (tWindowOpen w) := by
  unfold dWindowOpen tWindowOpen
  refine st_gA (st_gC (st_gI (st_gC (st_gI (st_gC (st_gL (st_gN ?_)))))))
  refine st_bd (st_loop (fun r => [.list (r.1.map (MV.i .i64)), .i .i64 r.2]) (fun r => (2, [.list (r.map (MV.i .i64))])) (rfl) fun st => ?_) fun w1 => ?_
  · unfold tWindowOpenL1
    refine st_gC (st_gL (st_gC (st_gI (st_gN ?_))))
    refine st_bd (eWindowWindowEnd w) fun rA => ?_
    refine st_gI ?_
    refine st_if ?_ ?_
    · refine st_bd (eWindowWindowPlace w st.2) fun rA1 => ?_
      refine st_gT (st_gC (st_gI (st_gC (st_gB (st_gN ?_)))))
      refine st_bd (f := (fun r => (0, [.list (r.map (MV.i .i64))]))) ?_ fun w2 => ?_
      · refine st_ifb ?_ ?_
        · refine st_len (n := st.1.length) (by simp only [List.length_map, List.length_cons, List.length_nil]) (st_len (n := ([st.2] : List Int).length) (by simp only [List.length_map, List.length_cons, List.length_nil]) (st_chk ?_))
          exact st_some (by simp only [Sum.elim_inl, Sum.elim_inr, List.map_append, List.map_cons, List.map_nil, List.map_take, List.map_drop, List.map_set])
        · exact st_some (rfl)
      · refine st_tt rfl (st_gC (st_gL (st_gN ?_)))
        exact st_some (rfl)
    · exact st_some (rfl)
  · refine st_tt rfl (st_gC (st_gL (st_gN ?_)))
    exact st_some (rfl)
theorem eR25Open (w : R25Window) : Sm (encL (MV.i .i64)) (dR25Open (encR25Window w)) (tR25Open w) := by
  unfold dR25Open tR25Open
  refine st_gA (st_gC (st_gI (st_gC (st_gI (st_gC (st_gL (st_gN ?_)))))))
  refine st_bd (st_loop (fun r => [.list (r.1.map (MV.i .i64)), .i .i64 r.2]) (fun r => (2, [.list (r.map (MV.i .i64))])) (rfl) fun st => ?_) fun w1 => ?_
  · unfold tR25OpenL1
    refine st_gC (st_gL (st_gC (st_gI (st_gN ?_))))
    refine st_bd (f := fun r => [.b r]) ?_ fun w2 => ?_
    · refine st_if ?_ ?_
      · exact st_some (rfl)
      · exact st_some (rfl)
    · refine st_gC (st_gB (st_gN ?_))
      refine st_ifb ?_ ?_
      · refine st_bd (eR25Has w st.2) fun rA => ?_
        refine st_gT (st_gC (st_gS (st_gC (st_gB (st_gN ?_)))))
        refine st_bd (f := (fun r => (0, [.list (r.map (MV.i .i64))]))) ?_ fun w3 => ?_
        · refine st_ifb ?_ ?_
          · refine st_len (n := st.1.length) (by simp only [List.length_map, List.length_cons, List.length_nil]) (st_len (n := ([st.2] : List Int).length) (by simp only [List.length_map, List.length_cons, List.length_nil]) (st_chk ?_))
            exact st_some (by simp only [Sum.elim_inl, Sum.elim_inr, List.map_append, List.map_cons, List.map_nil, List.map_take, List.map_drop, List.map_set])
          · exact st_some (rfl)
        · refine st_tt rfl (st_gC (st_gL (st_gN ?_)))
          exact st_some (rfl)
      · exact st_some (rfl)
  · refine st_tt rfl (st_gC (st_gL (st_gN ?_)))
    exact st_some (rfl)
theorem eL25WindowTurns (a : WindowWindow) (a1 : Int) (a2 : List UInt8) : Sm MV.b (dL25WindowTurns (encWindowWindow a) (.i .i64 a1) (.s a2)) (tL25WindowTurns a a1 a2) := by
  unfold dL25WindowTurns tL25WindowTurns
  refine st_gA (st_gC (st_gI (st_gC (st_gI (st_gC (st_gL (st_gN (st_gI (st_gS ?_)))))))))
  refine st_bd (f := fun r => [.b r]) ?_ fun w => ?_
  · refine st_bd (eL25Few a) fun rA => ?_
    refine st_gB ?_
    refine st_ifb ?_ ?_
    · exact st_some (rfl)
    · refine st_if ?_ ?_
      · exact st_some (rfl)
      · refine st_bd (eL25Plain a) fun rA1 => ?_
        refine st_gA (st_gC (st_gI (st_gC (st_gI (st_gC (st_gL (st_gN ?_)))))))
        refine st_bd (eR25Right rA1) fun rA2 => ?_
        refine st_gB ?_
        exact st_some (rfl)
  · refine st_gC (st_gB (st_gN ?_))
    refine st_ifb ?_ ?_
    · refine st_bd (eL25Alive) fun rA3 => ?_
      refine st_gB ?_
      exact st_some (rfl)
    · refine st_bd (eL25Plain a) fun rA4 => ?_
      refine st_gA (st_gC (st_gI (st_gC (st_gI (st_gC (st_gL (st_gN ?_)))))))
      refine st_bd (eWindowLearn a a1 a2) fun rA5 => ?_
      refine st_gT (st_gC (st_gA (st_gC (st_gI (st_gC (st_gI (st_gC (st_gL (st_gN (st_gC (st_gI ?_)))))))))))
      refine st_gN ?_
      refine st_bd (eR25Learn rA4 a1 a2) fun rA6 => ?_
      refine st_gT (st_gC (st_gA (st_gC (st_gI (st_gC (st_gI (st_gC (st_gL (st_gN (st_gC (st_gI ?_)))))))))))
      refine st_gN ?_
      refine st_bd (eWindowTake a) fun rA7 => ?_
      refine st_gT (st_gC (st_gA (st_gC (st_gI (st_gC (st_gI (st_gC (st_gL (st_gN (st_gC (st_gL ?_)))))))))))
      refine st_gN ?_
      refine st_bd (eR25Take rA4) fun rA8 => ?_
      refine st_gT (st_gC (st_gA (st_gC (st_gI (st_gC (st_gI (st_gC (st_gL (st_gN (st_gC (st_gL ?_)))))))))))
      refine st_gN ?_
      refine st_bd (f := fun r => [.b r]) ?_ fun w1 => ?_
      · refine st_bd (eL25Plain rA5.1) fun rA9 => ?_
        refine st_gA (st_gC (st_gI (st_gC (st_gI (st_gC (st_gL (st_gN ?_)))))))
        refine st_bd (eR25Same rA9 rA6.1) fun rA10 => ?_
        refine st_gB ?_
        refine st_ifb ?_ ?_
        · refine st_if ?_ ?_
          · refine st_bd (eL25Plain rA7.1) fun rA11 => ?_
            refine st_gA (st_gC (st_gI (st_gC (st_gI (st_gC (st_gL (st_gN ?_)))))))
            refine st_bd (eR25Same rA11 rA8.1) fun rA12 => ?_
            refine st_gB ?_
            refine st_ifb ?_ ?_
            · refine st_bd (eR01Strings rA7.2 rA8.2) fun rA13 => ?_
              refine st_gB ?_
              exact st_some (rfl)
            · exact st_some (rfl)
          · exact st_some (rfl)
        · exact st_some (rfl)
      · refine st_gC (st_gB (st_gN ?_))
        refine st_bd (f := fun r => [.b r]) ?_ fun w2 => ?_
        · refine st_bd (eL25Alive) fun rA14 => ?_
          refine st_gB ?_
          refine st_ifb ?_ ?_
          · refine st_ifb ?_ ?_
            · refine st_bd (eWindowOpen a) fun rA15 => ?_
              refine st_gL ?_
              refine st_bd (eR25Open rA4) fun rA16 => ?_
              refine st_gL ?_
              refine st_bd (eR01Ints rA15 rA16) fun rA17 => ?_
              refine st_gB ?_
              refine st_ifb ?_ ?_
              · refine st_bd (eL25Plain a) fun rA18 => ?_
                refine st_gA (st_gC (st_gI (st_gC (st_gI (st_gC (st_gL (st_gN ?_)))))))
                refine st_bd (eR25Same rA18 rA4) fun rA19 => ?_
                refine st_gB ?_
                exact st_some (rfl)
              · exact st_some (rfl)
            · exact st_some (rfl)
          · exact st_some (rfl)
        · refine st_gC (st_gB (st_gN ?_))
          exact st_some (rfl)
theorem eL25WindowOpens (a : WindowWindow) (a1 : Int) : Sm MV.b (dL25WindowOpens (encWindowWindow a) (.i .i64 a1)) (tL25WindowOpens a a1) := by
  unfold dL25WindowOpens tL25WindowOpens
  refine st_gA (st_gC (st_gI (st_gC (st_gI (st_gC (st_gL (st_gN (st_gI ?_))))))))
  refine st_bd (f := fun r => [.b r]) ?_ fun w => ?_
  · refine st_bd (eL25Few a) fun rA => ?_
    refine st_gB ?_
    refine st_ifb ?_ ?_
    · exact st_some (rfl)
    · refine st_bd (eL25Plain a) fun rA1 => ?_
      refine st_gA (st_gC (st_gI (st_gC (st_gI (st_gC (st_gL (st_gN ?_)))))))
      refine st_bd (eR25Right rA1) fun rA2 => ?_
      refine st_gB ?_
      exact st_some (rfl)
  · refine st_gC (st_gB (st_gN ?_))
    refine st_ifb ?_ ?_
    · refine st_bd (eL25Alive) fun rA3 => ?_
      refine st_gB ?_
      exact st_some (rfl)
    · refine st_bd (eWindowOpen a) fun rA4 => ?_
      refine st_gL ?_
      refine st_bd (st_loop (fun r => [.b r.1, .i .i64 r.2]) (Sum.elim (fun r => (2, [.b r])) (fun r => (1, [.b r]))) (rfl) fun st => ?_) fun w1 => ?_
      · unfold tL25WindowOpensL1
        refine st_gC (st_gB (st_gC (st_gI (st_gN (st_len (n := rA4.length) (by simp only [List.length_map, List.length_cons, List.length_nil]) ?_)))))
        refine st_if ?_ ?_
        · refine st_bd (f := fun r => [.b r]) ?_ fun w2 => ?_
          · refine st_ifb ?_ ?_
            · exact st_some (rfl)
            · refine st_idx (f := (MV.i .i64)) (rfl) fun y => ?_
              refine st_gI ?_
              exact st_some (rfl)
          · refine st_gC (st_gB (st_gN ?_))
            refine st_bd (f := fun r => [.b r]) ?_ fun w3 => ?_
            · refine st_if ?_ ?_
              · refine st_idx (f := (MV.i .i64)) (rfl) fun y1 => ?_
                refine st_gI ?_
                refine st_idx (f := (MV.i .i64)) (rfl) fun y2 => ?_
                refine st_gI ?_
                exact st_some (rfl)
              · exact st_some (rfl)
            · refine st_gC (st_gB (st_gN ?_))
              refine st_ifb ?_ ?_
              · exact st_some (rfl)
              · exact st_some (rfl)
        · exact st_some (rfl)
      · rcases w1 with p1 | p2
        · refine st_ifT rfl (st_gC (st_gB (st_gN ?_)))
          refine st_bd (eWindowLearn a a1 ([118] : List UInt8)) fun rA5 => ?_
          refine st_gT (st_gC (st_gA (st_gC (st_gI (st_gC (st_gI (st_gC (st_gL (st_gN (st_gC (st_gI ?_)))))))))))
          refine st_gN ?_
          refine st_bd (f := fun r => [.b r]) ?_ fun w4 => ?_
          · refine st_if ?_ ?_
            · refine st_len (n := rA5.1.L.length) (by simp only [List.length_map, List.length_cons, List.length_nil]) (st_len (n := a.L.length) (by simp only [List.length_map, List.length_cons, List.length_nil]) ?_)
              exact st_some (rfl)
            · exact st_some (rfl)
          · refine st_gC (st_gB (st_gN ?_))
            refine st_ifb ?_ ?_
            · exact st_some (rfl)
            · refine st_bd (f := fun r => [.b r]) ?_ fun w5 => ?_
              · refine st_bd (eL25Alive) fun rA6 => ?_
                refine st_gB ?_
                refine st_ifb ?_ ?_
                · refine st_len (n := rA4.length) (by simp only [List.length_map, List.length_cons, List.length_nil]) (st_len (n := a.L.length) (by simp only [List.length_map, List.length_cons, List.length_nil]) ?_)
                  exact st_some (rfl)
                · exact st_some (rfl)
              · refine st_gC (st_gB (st_gN ?_))
                exact st_some (rfl)
        · refine st_ifF rfl (st_tt rfl (st_gC (st_gB (st_gN ?_))))
          exact st_some (rfl)
theorem eR25New (size : Int) : Sm (fun r => .tup [encR25Window r.1, .i .i64 r.2]) (dR25New (.i .i64 size)) (tR25New size) := by
  unfold dR25New tR25New
  refine st_gI ?_
  refine st_bd (f := fun r => [.b r]) ?_ fun w => ?_
  · refine st_if ?_ ?_
    · exact st_some (rfl)
    · exact st_some (rfl)
  · refine st_gC (st_gB (st_gN ?_))
    refine st_ifb ?_ ?_
    · exact st_some (rfl)
    · exact st_some (rfl)
theorem eWindowRight (w : WindowWindow) : Sm MV.b (dWindowRight (encWindowWindow w)) (tWindowRight w) := by
  unfold dWindowRight tWindowRight
  refine st_gA (st_gC (st_gI (st_gC (st_gI (st_gC (st_gL (st_gN ?_)))))))
  refine st_bd (eWindowNew w.Size) fun rA => ?_
  refine st_gT (st_gC (st_gA (st_gC (st_gI (st_gC (st_gI (st_gC (st_gL (st_gN (st_gC (st_gI ?_)))))))))))
  refine st_gN ?_
  refine st_bd (f := fun r => [.b r]) ?_ fun w1 => ?_
  · refine st_ifb ?_ ?_
    · exact st_some (rfl)
    · refine st_if ?_ ?_
      · exact st_some (rfl)
      · exact st_some (rfl)
  · refine st_gC (st_gB (st_gN ?_))
    refine st_ifb ?_ ?_
    · exact st_some (rfl)
    · refine st_len (n := w.L.length) (by simp only [List.length_map, List.length_cons, List.length_nil]) ?_
      refine st_bd (st_loop (fun r => [.i .i64 r.1, .i .i64 r.2]) (Sum.elim (fun r => (2, [])) (fun r => (1, [.b r]))) (rfl) fun st => ?_) fun w2 => ?_
      · unfold tWindowRightL1
        refine st_gC (st_gI (st_gC (st_gI (st_gN ?_))))
        refine st_if ?_ ?_
        · refine st_idx (f := encWindowEntry) (rfl) fun y => ?_
          refine st_gA (st_gC (st_gI (st_gC (st_gS (st_gN ?_)))))
          refine st_bd (f := fun r => [.b r]) ?_ fun w3 => ?_
          · refine st_if ?_ ?_
            · exact st_some (rfl)
            · refine st_bd (eWindowWindowEnd w) fun rA1 => ?_
              refine st_gI ?_
              refine st_if ?_ ?_
              · exact st_some (rfl)
              · exact st_some (rfl)
          · refine st_gC (st_gB (st_gN ?_))
            refine st_ifb ?_ ?_
            · exact st_some (rfl)
            · exact st_some (rfl)
        · exact st_some (rfl)
      · rcases w2 with p1 | p2
        · refine st_ifT rfl (st_gN ?_)
          exact st_some (rfl)
        · refine st_ifF rfl (st_tt rfl (st_gC (st_gB (st_gN ?_))))
          exact st_some (rfl)
theorem eSlicesEqualWindowEntry (s1 : List WindowEntry) (s2 : List WindowEntry) : Sm MV.b (dSlicesEqualWindowEntry (.list (s1.map encWindowEntry)) (.list (s2.map encWindowEntry))) (tSlicesEqualWindowEntry s1 s2) := by
  unfold dSlicesEqualWindowEntry tSlicesEqualWindowEntry
  refine st_gL (st_gL (st_len (n := s1.length) (by simp only [List.length_map, List.length_cons, List.length_nil]) (st_len (n := s2.length) (by simp only [List.length_map, List.length_cons, List.length_nil]) ?_)))
  refine st_ifb ?_ ?_
  · exact st_some (rfl)
  · refine st_len (n := s1.length) (by simp only [List.length_map, List.length_cons, List.length_nil]) ?_
    refine st_bd (st_loop (fun r => [.i .i64 r]) (Sum.elim (fun r => (2, [])) (fun r => (1, [.b r]))) (rfl) fun st => ?_) fun w => ?_
    · unfold tSlicesEqualWindowEntryL1
      refine st_gC (st_gI (st_gN ?_))
      refine st_if ?_ ?_
      · refine st_idx (f := encWindowEntry) (rfl) fun y => ?_
        refine st_gA (st_gC (st_gI (st_gC (st_gS (st_gN ?_)))))
        refine st_idx (f := encWindowEntry) (rfl) fun y1 => ?_
        refine st_gA (st_gC (st_gI (st_gC (st_gS (st_gN ?_)))))
        refine st_ifb ?_ ?_
        · exact st_some (rfl)
        · exact st_some (rfl)
      · exact st_some (rfl)
    · rcases w with p1 | p2
      · refine st_ifT rfl (st_gN ?_)
        exact st_some (rfl)
      · refine st_ifF rfl (st_tt rfl (st_gC (st_gB (st_gN ?_))))
        exact st_some (rfl)
theorem eWindowSame (a : WindowWindow) (b : WindowWindow) : Sm MV.b (dWindowSame (encWindowWindow a) (encWindowWindow b)) (tWindowSame a b) := by
  unfold dWindowSame tWindowSame
  refine st_gA (st_gC (st_gI (st_gC (st_gI (st_gC (st_gL (st_gN (st_gA (st_gC (st_gI (st_gC ?_)))))))))))
  refine st_gI (st_gC (st_gL (st_gN ?_)))
  refine st_bd (f := fun r => [.b r]) ?_ fun w => ?_
  · refine st_if ?_ ?_
    · refine st_if ?_ ?_
      · refine st_bd (eSlicesEqualWindowEntry a.L b.L) fun rA => ?_
        refine st_gB ?_
        exact st_some (rfl)
      · exact st_some (rfl)
    · exact st_some (rfl)
  · refine st_gC (st_gB (st_gN ?_))
    exact st_some (rfl)
theorem eL25WindowMay (a : WindowWindow) (b : WindowWindow) (size : Int) : Sm MV.b (dL25WindowMay (encWindowWindow a) (encWindowWindow b) (.i .i64 size)) (tL25WindowMay a b size) := by
  unfold dL25WindowMay tL25WindowMay
  refine st_gA (st_gC (st_gI (st_gC (st_gI (st_gC (st_gL (st_gN (st_gA (st_gC (st_gI (st_gC ?_)))))))))))
  refine st_gI (st_gC (st_gL (st_gN (st_gI ?_))))
  refine st_bd (f := fun r => [.b r]) ?_ fun w => ?_
  · refine st_bd (eL25Few a) fun rA => ?_
    refine st_gB ?_
    refine st_ifb ?_ ?_
    · exact st_some (rfl)
    · refine st_bd (eL25Few b) fun rA1 => ?_
      refine st_gB ?_
      exact st_some (rfl)
  · refine st_gC (st_gB (st_gN ?_))
    refine st_ifb ?_ ?_
    · refine st_bd (eL25Alive) fun rA2 => ?_
      refine st_gB ?_
      exact st_some (rfl)
    · refine st_bd (eWindowNew size) fun rA3 => ?_
      refine st_gT (st_gC (st_gA (st_gC (st_gI (st_gC (st_gI (st_gC (st_gL (st_gN (st_gC (st_gI ?_)))))))))))
      refine st_gN ?_
      refine st_bd (eR25New size) fun rA4 => ?_
      refine st_gT (st_gC (st_gA (st_gC (st_gI (st_gC (st_gI (st_gC (st_gL (st_gN (st_gC (st_gI ?_)))))))))))
      refine st_gN ?_
      refine st_bd (f := fun r => [.b r]) ?_ fun w1 => ?_
      · refine st_bd (eL25Alive) fun rA5 => ?_
        refine st_gB ?_
        refine st_ifb ?_ ?_
        · refine st_bd (eWindowRight a) fun rA6 => ?_
          refine st_gB ?_
          refine st_bd (eL25Plain a) fun rA7 => ?_
          refine st_gA (st_gC (st_gI (st_gC (st_gI (st_gC (st_gL (st_gN ?_)))))))
          refine st_bd (eR25Right rA7) fun rA8 => ?_
          refine st_gB ?_
          refine st_if ?_ ?_
          · refine st_bd (eWindowSame a b) fun rA9 => ?_
            refine st_gB ?_
            refine st_bd (eL25Plain a) fun rA10 => ?_
            refine st_gA (st_gC (st_gI (st_gC (st_gI (st_gC (st_gL (st_gN ?_)))))))
            refine st_bd (eL25Plain b) fun rA11 => ?_
            refine st_gA (st_gC (st_gI (st_gC (st_gI (st_gC (st_gL (st_gN ?_)))))))
            refine st_bd (eR25Same rA10 rA11) fun rA12 => ?_
            refine st_gB ?_
            refine st_if ?_ ?_
            · refine st_bd (eL25Plain rA3.1) fun rA13 => ?_
              refine st_gA (st_gC (st_gI (st_gC (st_gI (st_gC (st_gL (st_gN ?_)))))))
              refine st_bd (eR25Same rA13 rA4.1) fun rA14 => ?_
              refine st_gB ?_
              refine st_ifb ?_ ?_
              · exact st_some (rfl)
              · exact st_some (rfl)
            · exact st_some (rfl)
          · exact st_some (rfl)
        · exact st_some (rfl)
      · refine st_gC (st_gB (st_gN ?_))
        exact st_some (rfl)
end Dn.S
