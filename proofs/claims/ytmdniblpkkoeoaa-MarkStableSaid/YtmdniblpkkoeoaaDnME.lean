import Derived.Test.YtmdniblpkkoeoaaDnMD
/-
  Typed and plain functions agree. Conditions: none.
-/
open Go Dn
set_option linter.unusedVariables false
set_option linter.unusedSimpArgs false
set_option maxRecDepth 100000
namespace Dn.S
theorem eR07Right (sA : R07Size) : Sm MV.b (dR07Right (encR07Size sA)) (tR07Right sA) := by
  unfold dR07Right tR07Right
  refine st_gA (st_gC (st_gI (st_gC (st_gI (st_gN ?_)))))
  refine st_bd (f := fun r => [.b r]) ?_ fun w => ?_
  · refine st_if ?_ ?_
    · refine st_if ?_ ?_
      · refine st_if ?_ ?_
        · exact st_some (rfl)
        · exact st_some (rfl)
      · exact st_some (rfl)
    · exact st_some (rfl)
  · refine st_gC (st_gB (st_gN ?_))
    exact st_some (rfl)
theorem eR07N (sA : R07Size) : Sm (MV.i .i64) (dR07N (encR07Size sA)) (tR07N sA) := by
  unfold dR07N tR07N
  refine st_gA (st_gC (st_gI (st_gC (st_gI (st_gN ?_)))))
  exact st_some (rfl)
theorem eR26May (sA : R07Size) (x : R26Mark) : Sm MV.b (dR26May (encR07Size sA) (encR26Mark x)) (tR26May sA x) := by
  unfold dR26May tR26May
  refine st_gA (st_gC (st_gI (st_gC (st_gI (st_gN (st_gA (st_gC (st_gI (st_gC (st_gI (st_gC ?_)))))))))))
  refine st_gH (st_gN ?_)
  refine st_bd (f := fun r => [.b r]) ?_ fun w => ?_
  · refine st_if ?_ ?_
    · refine st_bd (eR07N sA) fun rA => ?_
      refine st_gI ?_
      refine st_if ?_ ?_
      · refine st_if ?_ ?_
        · exact st_some (rfl)
        · exact st_some (rfl)
      · exact st_some (rfl)
    · exact st_some (rfl)
  · refine st_gC (st_gB (st_gN ?_))
    exact st_some (rfl)
theorem eR26Right (a : R26Marks) : Sm MV.b (dR26Right (encR26Marks a)) (tR26Right a) := by
  unfold dR26Right tR26Right
  refine st_gA (st_gC (st_gI (st_gC (st_gI (st_gC (st_gL (st_gC (st_gI (st_gC (st_gH (st_gN ?_)))))))))))
  refine st_bd (f := fun r => [.b r]) ?_ fun w => ?_
  · refine st_bd (eR07Right a.S) fun rA => ?_
    refine st_gB ?_
    refine st_ifb ?_ ?_
    · exact st_some (rfl)
    · refine st_if ?_ ?_
      · exact st_some (rfl)
      · refine st_if ?_ ?_
        · exact st_some (rfl)
        · refine st_if ?_ ?_
          · exact st_some (rfl)
          · exact st_some (rfl)
  · refine st_gC (st_gB (st_gN ?_))
    refine st_ifb ?_ ?_
    · exact st_some (rfl)
    · refine st_bd (st_loop (fun r => [.i .i64 r]) (Sum.elim (fun r => (2, [])) (fun r => (1, [.b r]))) (rfl) fun st => ?_) fun w1 => ?_
      · unfold tR26RightL1
        refine st_gC (st_gI (st_gN (st_len (n := a.L.length) (by simp only [List.length_map, List.length_cons, List.length_nil]) ?_)))
        refine st_if ?_ ?_
        · refine st_bd (f := fun r => [.b r]) ?_ fun w2 => ?_
          · refine st_idx (f := encR26Mark) (rfl) fun y => ?_
            refine st_gA (st_gC (st_gI (st_gC (st_gI (st_gC (st_gH (st_gN ?_)))))))
            refine st_bd (eR26May a.S y) fun rA1 => ?_
            refine st_gB ?_
            refine st_ifb ?_ ?_
            · exact st_some (rfl)
            · refine st_if ?_ ?_
              · refine st_idx (f := encR26Mark) (rfl) fun y1 => ?_
                refine st_gA (st_gC (st_gI (st_gC (st_gI (st_gC (st_gH (st_gN ?_)))))))
                refine st_idx (f := encR26Mark) (rfl) fun y2 => ?_
                refine st_gA (st_gC (st_gI (st_gC (st_gI (st_gC (st_gH (st_gN ?_)))))))
                exact st_some (rfl)
              · exact st_some (rfl)
          · refine st_gC (st_gB (st_gN ?_))
            refine st_ifb ?_ ?_
            · exact st_some (rfl)
            · exact st_some (rfl)
        · exact st_some (rfl)
      · rcases w1 with p1 | p2
        · refine st_ifT rfl (st_gN ?_)
          exact st_some (rfl)
        · refine st_ifF rfl (st_tt rfl (st_gC (st_gB (st_gN ?_))))
          exact st_some (rfl)
theorem eL26One (x : MarkMark) : Sm encR26Mark (dL26One (encMarkMark x)) (tL26One x) := by
  unfold dL26One tL26One
  refine st_gA (st_gC (st_gI (st_gC (st_gI (st_gC (st_gH (st_gN ?_)))))))
  exact st_some (rfl)
theorem eL26Sized (sA : SizeSize) : Sm encR07Size (dL26Sized (encSizeSize sA)) (tL26Sized sA) := by
  unfold dL26Sized tL26Sized
  refine st_gA (st_gC (st_gI (st_gC (st_gI (st_gN ?_)))))
  exact st_some (rfl)
theorem eL26Plain (m : MarkMarks) : Sm encR26Marks (dL26Plain (encMarkMarks m)) (tL26Plain m) := by
  unfold dL26Plain tL26Plain
  refine st_gA (st_gC (st_gI (st_gC (st_gI (st_gC (st_gL (st_gC (st_gI (st_gC (st_gH (st_gN ?_)))))))))))
  refine st_bd (eL26Sized m.S) fun rA => ?_
  refine st_gA (st_gC (st_gI (st_gC (st_gI (st_gN ?_)))))
  refine st_bd (st_loop (fun r => [.i .i64 r.1, .i .i64 r.2.1, .list (r.2.2.1.map encR26Mark), .i .i64 r.2.2.2.1, .h r.2.2.2.2.1, .i .i64 r.2.2.2.2.2]) (fun r => (2, [.i .i64 r.1, .i .i64 r.2.1, .list (r.2.2.1.map encR26Mark), .i .i64 r.2.2.2.1, .h r.2.2.2.2])) (rfl) fun st => ?_) fun w => ?_
  · unfold tL26PlainL1
    refine st_gC (st_gI (st_gC (st_gI (st_gC (st_gL (st_gC (st_gI (st_gC (st_gH (st_gC (st_gI ?_)))))))))))
    refine st_gN (st_len (n := m.L.length) (by simp only [List.length_map, List.length_cons, List.length_nil]) ?_)
    refine st_if ?_ ?_
    · refine st_idx (f := encMarkMark) (rfl) fun y => ?_
      refine st_gA (st_gC (st_gI (st_gC (st_gI (st_gC (st_gH (st_gN ?_)))))))
      refine st_bd (eL26One y) fun rA1 => ?_
      refine st_gA (st_gC (st_gI (st_gC (st_gI (st_gC (st_gH (st_gN (st_len (n := st.2.2.1.length) (by simp only [List.length_map, List.length_cons, List.length_nil]) (st_len (n := ([rA1] : List R26Mark).length) (by simp only [List.length_map, List.length_cons, List.length_nil]) (st_chk ?_))))))))))
      exact st_some (by simp only [Sum.map_inl, List.map_append, List.map_cons, List.map_nil, List.map_take, List.map_drop, List.map_set])
    · exact st_some (rfl)
  · refine st_tt rfl (st_gC (st_gI (st_gC (st_gI (st_gC (st_gL (st_gC (st_gI (st_gC (st_gH (st_gN ?_)))))))))))
    exact st_some (rfl)
theorem eCmpIsNaNInt (x : Int) : Sm MV.b (dCmpIsNaNInt (.i .i64 x)) (tCmpIsNaNInt x) := by
  unfold dCmpIsNaNInt tCmpIsNaNInt
  refine st_gI ?_
  exact st_some (rfl)
theorem eCmpCompareInt (x : Int) (y : Int) : Sm (MV.i .i64) (dCmpCompareInt (.i .i64 x) (.i .i64 y)) (tCmpCompareInt x y) := by
  unfold dCmpCompareInt tCmpCompareInt
  refine st_gI (st_gI ?_)
  refine st_bd (eCmpIsNaNInt x) fun rA => ?_
  refine st_gB ?_
  refine st_bd (eCmpIsNaNInt y) fun rA1 => ?_
  refine st_gB ?_
  refine st_ifb ?_ ?_
  · refine st_ifb ?_ ?_
    · exact st_some (rfl)
    · exact st_some (rfl)
  · refine st_ifb ?_ ?_
    · exact st_some (rfl)
    · refine st_if ?_ ?_
      · exact st_some (rfl)
      · refine st_if ?_ ?_
        · exact st_some (rfl)
        · exact st_some (rfl)
theorem eMarkHearF1 (y : MarkMark) (byA : Int) : Sm (MV.i .i64) (dMarkHearF1 (encMarkMark y) (.i .i64 byA)) (tMarkHearF1 y byA) := by
  unfold dMarkHearF1 tMarkHearF1
  refine st_gA (st_gC (st_gI (st_gC (st_gI (st_gC (st_gH (st_gN (st_gI ?_))))))))
  refine st_bd (eCmpCompareInt y.By byA) fun rA => ?_
  refine st_gI ?_
  exact st_some (rfl)
theorem eSlicesBinarySearchFuncMarkMarkInt (x : List MarkMark) (target : Int) (cmp : MarkMark → Int → Option Int) {fn2 : Nat} {cap2 : List MV} (hgcmp : gv fn2 = false) (hccmpSlicesBinarySearchFuncMarkMarkInt : ∀ (u0 : MarkMark) (u1 : Int), Sm (MV.i .i64) (preSlicesBinarySearchFuncMarkMarkInt fn2 ([encMarkMark u0, .i .i64 u1] ++ cap2)) (cmp u0 u1)) : Sm (fun r => .tup [.i .i64 r.1, .b r.2]) (dSlicesBinarySearchFuncMarkMarkInt (.list (x.map encMarkMark)) (.i .i64 target) (.func fn2 cap2)) (tSlicesBinarySearchFuncMarkMarkInt x target cmp) := by
  unfold dSlicesBinarySearchFuncMarkMarkInt tSlicesBinarySearchFuncMarkMarkInt
  refine st_gL (st_gI (st_gRf (st_len (n := x.length) (by simp only [List.length_map, List.length_cons, List.length_nil]) ?_)))
  refine st_bd (st_loop (fun r => [.i .i64 r.1, .i .i64 r.2]) (fun r => (2, [.i .i64 r])) (rfl) fun st => ?_) fun w => ?_
  · unfold tSlicesBinarySearchFuncMarkMarkIntL1
    refine st_gC (st_gI (st_gC (st_gI (st_gN ?_))))
    refine st_if ?_ ?_
    · refine st_chk ?_
      refine st_idx (f := encMarkMark) (rfl) fun y => ?_
      refine st_gA (st_gC (st_gI (st_gC (st_gI (st_gC (st_gH (st_gN (st_gFn (st_tt (by rw [hgcmp]; rfl) ?_)))))))))
      refine st_bd (hccmpSlicesBinarySearchFuncMarkMarkInt y target) fun rA => ?_
      refine st_gI ?_
      refine st_bd (f := (fun r => (0, [.i .i64 r.1, .i .i64 r.2]))) ?_ fun w1 => ?_
      · refine st_if ?_ ?_
        · exact st_some (rfl)
        · exact st_some (rfl)
      · refine st_tt rfl (st_gC (st_gI (st_gC (st_gI (st_gN ?_)))))
        exact st_some (rfl)
    · exact st_some (rfl)
  · refine st_tt rfl (st_gC (st_gI (st_gN ?_)))
    refine st_bd (f := fun r => [.i .i64 r.1, .b r.2]) ?_ fun w2 => ?_
    · refine st_if ?_ ?_
      · refine st_idx (f := encMarkMark) (rfl) fun y1 => ?_
        refine st_gA (st_gC (st_gI (st_gC (st_gI (st_gC (st_gH (st_gN (st_gFn (st_tt (by rw [hgcmp]; rfl) ?_)))))))))
        refine st_bd (hccmpSlicesBinarySearchFuncMarkMarkInt y1 target) fun rA1 => ?_
        refine st_gI ?_
        exact st_some (rfl)
      · exact st_some (rfl)
    · refine st_gC (st_gI (st_gC (st_gB (st_gN ?_))))
      exact st_some (rfl)
theorem eSizeSizePair (sA : SizeSize) : Sm (fun x : Nat × Nat => MV.raw (.complex .f64 x.1 x.2)) (dSizeSizePair (encSizeSize sA)) (tSizeSizePair sA) := by
  unfold dSizeSizePair tSizeSizePair
  refine st_gA (st_gC (st_gI (st_gC (st_gI (st_gN ?_)))))
  exact st_some (rfl)
theorem eSizeSizeOf (sA : SizeSize) (times : Nat × Nat) : Sm (MV.i .i64) (dSizeSizeOf (encSizeSize sA) (.raw (.complex .f64 times.1 times.2))) (tSizeSizeOf sA times) := by
  unfold dSizeSizeOf tSizeSizeOf
  refine st_gA (st_gC (st_gI (st_gC (st_gI (st_gN (st_gRr ?_))))))
  refine st_bd (eSizeSizePair sA) fun rA => ?_
  refine st_gRr (st_gCx (st_gCx ?_))
  refine st_same fun f => ?_
  refine st_gCx (st_gCx ?_)
  refine st_same fun f1 => ?_
  refine st_same fun f2 => ?_
  refine st_same fun n => ?_
  refine st_chk ?_
  exact st_some (rfl)
theorem eSizeN (sA : SizeSize) : Sm (MV.i .i64) (dSizeN (encSizeSize sA)) (tSizeN sA) := by
  unfold dSizeN tSizeN
  refine st_gA (st_gC (st_gI (st_gC (st_gI (st_gN ?_)))))
  refine st_bd (eSizeSizeOf sA (4613937818241073152, 4611686018427387904)) fun rA => ?_
  refine st_gI ?_
  exact st_some (rfl)
theorem eMarkMarksMay (m : MarkMarks) (x : MarkMark) : Sm MV.b (dMarkMarksMay (encMarkMarks m) (encMarkMark x)) (tMarkMarksMay m x) := by
  unfold dMarkMarksMay tMarkMarksMay
  refine st_gA (st_gC (st_gI (st_gC (st_gI (st_gC (st_gL (st_gC (st_gI (st_gC (st_gH (st_gN ?_)))))))))))
  refine st_gA (st_gC (st_gI (st_gC (st_gI (st_gC (st_gH (st_gN ?_)))))))
  refine st_bd (f := fun r => [.b r]) ?_ fun w => ?_
  · refine st_if ?_ ?_
    · refine st_bd (eSizeN m.S) fun rA => ?_
      refine st_gI ?_
      refine st_if ?_ ?_
      · refine st_if ?_ ?_
        · exact st_some (rfl)
        · exact st_some (rfl)
      · exact st_some (rfl)
    · exact st_some (rfl)
  · refine st_gC (st_gB (st_gN ?_))
    exact st_some (rfl)
theorem eMarkBehindF1 (x : MarkMark) (c : Int) : Sm MV.b (dMarkBehindF1 (encMarkMark x) (.rp [.i .i64 c])) (tMarkBehindF1 x c) := by
  unfold dMarkBehindF1 tMarkBehindF1
  refine st_gA (st_gC (st_gI (st_gC (st_gI (st_gC (st_gH (st_gN (st_gP (st_gC (st_gI (st_gN ?_)))))))))))
  exact st_some (rfl)
theorem eMarkMarksSayF1 (x : MarkMark) (c : Int) (c1 : Hash) : Sm MV.b (dMarkMarksSayF1 (encMarkMark x) (.rp [.i .i64 c]) (.rp [.h c1])) (tMarkMarksSayF1 x c c1) := by
  unfold dMarkMarksSayF1 tMarkMarksSayF1
  refine st_gA (st_gC (st_gI (st_gC (st_gI (st_gC (st_gH (st_gN (st_gP (st_gC (st_gI (st_gN ?_)))))))))))
  refine st_gP (st_gC (st_gH (st_gN ?_)))
  refine st_bd (f := fun r => [.b r]) ?_ fun w => ?_
  · refine st_if ?_ ?_
    · exact st_some (rfl)
    · exact st_some (rfl)
  · refine st_gC (st_gB (st_gN ?_))
    exact st_some (rfl)
theorem eMarkMarksCount (m : MarkMarks) (isA : MarkMark → Option Bool) {fn1 : Nat} {cap1 : List MV} (hgisA : gv fn1 = false) (hcisAMarkMarksCount : ∀ (u0 : MarkMark), Sm MV.b (preMarkMarksCount fn1 ([encMarkMark u0] ++ cap1)) (isA u0)) : Sm (MV.i .i64) (dMarkMarksCount (encMarkMarks m) (.func fn1 cap1)) (tMarkMarksCount m isA) := by
  unfold dMarkMarksCount tMarkMarksCount
  refine st_gA (st_gC (st_gI (st_gC (st_gI (st_gC (st_gL (st_gC (st_gI (st_gC (st_gH (st_gN ?_)))))))))))
  refine st_gRf (st_len (n := m.L.length) (by simp only [List.length_map, List.length_cons, List.length_nil]) ?_)
  refine st_bd (st_loop (fun r => [.i .i64 r.1, .i .i64 r.2]) (fun r => (2, [.i .i64 r])) (rfl) fun st => ?_) fun w => ?_
  · unfold tMarkMarksCountL1
    refine st_gC (st_gI (st_gC (st_gI (st_gN ?_))))
    refine st_if ?_ ?_
    · refine st_idx (f := encMarkMark) (rfl) fun y => ?_
      refine st_gA (st_gC (st_gI (st_gC (st_gI (st_gC (st_gH (st_gN (st_gFn (st_tt (by rw [hgisA]; rfl) ?_)))))))))
      refine st_bd (hcisAMarkMarksCount y) fun rA => ?_
      refine st_gB ?_
      refine st_bd (f := (fun r => (0, [.i .i64 r]))) ?_ fun w1 => ?_
      · refine st_ifb ?_ ?_
        · exact st_some (rfl)
        · exact st_some (rfl)
      · refine st_tt rfl (st_gC (st_gI (st_gN ?_)))
        exact st_some (rfl)
    · exact st_some (rfl)
  · refine st_tt rfl (st_gC (st_gI (st_gN ?_)))
    exact st_some (rfl)
theorem eMarkMarksSay (m : MarkMarks) (slot : Int) (sum : Hash) : Sm (MV.i .i64) (dMarkMarksSay (encMarkMarks m) (.i .i64 slot) (.h sum)) (tMarkMarksSay m slot sum) := by
  unfold dMarkMarksSay tMarkMarksSay
  refine st_gA (st_gC (st_gI (st_gC (st_gI (st_gC (st_gL (st_gC (st_gI (st_gC (st_gH (st_gN ?_)))))))))))
  refine st_gI (st_gH ?_)
  refine st_bd (eMarkMarksCount m (fun u => tMarkMarksSayF1 u slot sum) (fn1 := 108) (cap1 := [.rp [.i .i64 slot], .rp [.h sum]]) rfl (fun u1 => Sm.at (atMarkMarksCountMarkMarksSayF1 _ _ _) (eMarkMarksSayF1 u1 slot sum))) fun rA => ?_
  refine st_gI ?_
  exact st_some (rfl)
theorem eSizeProof (sA : SizeSize) : Sm (MV.i .i64) (dSizeProof (encSizeSize sA)) (tSizeProof sA) := by
  unfold dSizeProof tSizeProof
  refine st_gA (st_gC (st_gI (st_gC (st_gI (st_gN ?_)))))
  refine st_bd (eSizeSizeOf sA (4611686018427387904, 4607182418800017408)) fun rA => ?_
  refine st_gI ?_
  exact st_some (rfl)
theorem eMarkHear (a : MarkMarks) (a1 : MarkMark) : Sm (fun r => .tup [encMarkMarks r.1, .b r.2]) (dMarkHear (encMarkMarks a) (encMarkMark a1)) (tMarkHear a a1) := by
  unfold dMarkHear tMarkHear
  refine st_gA (st_gC (st_gI (st_gC (st_gI (st_gC (st_gL (st_gC (st_gI (st_gC (st_gH (st_gN ?_)))))))))))
  refine st_gA (st_gC (st_gI (st_gC (st_gI (st_gC (st_gH (st_gN ?_)))))))
  refine st_bd (eSlicesBinarySearchFuncMarkMarkInt a.L a1.By tMarkHearF1 (fn2 := 81) (cap2 := []) rfl (fun u2 u3 => Sm.at (atSlicesBinarySearchFuncMarkMarkIntMarkHearF1 _ _) (eMarkHearF1 u2 u3))) fun rA => ?_
  refine st_gT (st_gC (st_gI (st_gC (st_gB (st_gN ?_)))))
  refine st_bd (f := fun r => [.b r]) ?_ fun w => ?_
  · refine st_bd (eMarkMarksMay a a1) fun rA1 => ?_
    refine st_gB ?_
    refine st_ifb ?_ ?_
    · exact st_some (rfl)
    · refine st_ifb ?_ ?_
      · refine st_idx (f := encMarkMark) (rfl) fun y => ?_
        refine st_gA (st_gC (st_gI (st_gC (st_gI (st_gC (st_gH (st_gN ?_)))))))
        exact st_some (rfl)
      · exact st_some (rfl)
  · refine st_gC (st_gB (st_gN ?_))
    refine st_ifb ?_ ?_
    · exact st_some (rfl)
    · refine st_bd (e_clone (size := 34) (f := encMarkMark) (fun _ => rfl) a.L) fun rA2 => ?_
      refine st_gF ?_
      refine st_bd (f := (fun r => (0, [.i .i64 r.1, .i .i64 r.2.1, .list (r.2.2.1.map encMarkMark), .i .i64 r.2.2.2.1, .h r.2.2.2.2]))) ?_ fun w1 => ?_
      · refine st_ifb ?_ ?_
        · refine st_idx (f := encMarkMark) (rfl) fun y1 => ?_
          refine st_gA (st_gC (st_gI (st_gC (st_gI (st_gC (st_gH (st_gN ?_)))))))
          exact st_some (by simp only [Sum.elim_inl, Sum.elim_inr, List.map_append, List.map_cons, List.map_nil, List.map_take, List.map_drop, List.map_set])
        · refine st_bd (e_insert (f := encMarkMark) rA2 rA.1 ([a1] : List MarkMark)) fun rA3 => ?_
          refine st_gF ?_
          exact st_some (rfl)
      · refine st_tt rfl (st_gC (st_gI (st_gC (st_gI (st_gC (st_gL (st_gC (st_gI (st_gC (st_gH (st_gN ?_)))))))))))
        refine st_bd (f := fun r => [.b r]) ?_ fun w2 => ?_
        · refine st_if ?_ ?_
          · exact st_some (rfl)
          · refine st_bd (eMarkMarksSay (⟨(⟨w1.1, w1.2.1⟩ : SizeSize), w1.2.2.1, w1.2.2.2.1, w1.2.2.2.2⟩ : MarkMarks) a1.Slot a1.Sum) fun rA4 => ?_
            refine st_gI ?_
            refine st_bd (eSizeProof (⟨w1.1, w1.2.1⟩ : SizeSize)) fun rA5 => ?_
            refine st_gI ?_
            exact st_some (rfl)
        · refine st_gC (st_gB (st_gN ?_))
          refine st_ifb ?_ ?_
          · exact st_some (rfl)
          · exact st_some (rfl)
theorem eSizeWeak (sA : SizeSize) : Sm (MV.i .i64) (dSizeWeak (encSizeSize sA)) (tSizeWeak sA) := by
  unfold dSizeWeak tSizeWeak
  refine st_gA (st_gC (st_gI (st_gC (st_gI (st_gN ?_)))))
  refine st_bd (eSizeSizeOf sA (4607182418800017408, 0)) fun rA => ?_
  refine st_gI ?_
  exact st_some (rfl)
theorem eMarkTrusted (m : MarkMarks) (slot : Int) (sum : Hash) : Sm MV.b (dMarkTrusted (encMarkMarks m) (.i .i64 slot) (.h sum)) (tMarkTrusted m slot sum) := by
  unfold dMarkTrusted tMarkTrusted
  refine st_gA (st_gC (st_gI (st_gC (st_gI (st_gC (st_gL (st_gC (st_gI (st_gC (st_gH (st_gN ?_)))))))))))
  refine st_gI (st_gH ?_)
  refine st_bd (eMarkMarksSay m slot sum) fun rA => ?_
  refine st_gI ?_
  refine st_bd (eSizeWeak m.S) fun rA1 => ?_
  refine st_gI ?_
  exact st_some (rfl)
theorem eMarkBehind (m : MarkMarks) (slot : Int) : Sm (MV.i .i64) (dMarkBehind (encMarkMarks m) (.i .i64 slot)) (tMarkBehind m slot) := by
  unfold dMarkBehind tMarkBehind
  refine st_gA (st_gC (st_gI (st_gC (st_gI (st_gC (st_gL (st_gC (st_gI (st_gC (st_gH (st_gN ?_)))))))))))
  refine st_gI ?_
  refine st_bd (eMarkMarksCount m (fun u => tMarkBehindF1 u slot) (fn1 := 92) (cap1 := [.rp [.i .i64 slot]]) rfl (fun u1 => Sm.at (atMarkMarksCountMarkBehindF1 _ _) (eMarkBehindF1 u1 slot))) fun rA => ?_
  refine st_gI ?_
  exact st_some (rfl)
theorem eSizeRight (sA : SizeSize) : Sm MV.b (dSizeRight (encSizeSize sA)) (tSizeRight sA) := by
  unfold dSizeRight tSizeRight
  refine st_gA (st_gC (st_gI (st_gC (st_gI (st_gN ?_)))))
  refine st_bd (f := fun r => [.b r]) ?_ fun w => ?_
  · refine st_if ?_ ?_
    · refine st_if ?_ ?_
      · refine st_if ?_ ?_
        · exact st_some (rfl)
        · exact st_some (rfl)
      · exact st_some (rfl)
    · exact st_some (rfl)
  · refine st_gC (st_gB (st_gN ?_))
    exact st_some (rfl)
theorem eMarkNew (sA : SizeSize) : Sm (fun r => .tup [encMarkMarks r.1, .i .i64 r.2]) (dMarkNew (encSizeSize sA)) (tMarkNew sA) := by
  unfold dMarkNew tMarkNew
  refine st_gA (st_gC (st_gI (st_gC (st_gI (st_gN ?_)))))
  refine st_bd (eSizeRight sA) fun rA => ?_
  refine st_gB ?_
  refine st_ifb ?_ ?_
  · exact st_some (rfl)
  · exact st_some (rfl)
theorem eL26Alive : Sm MV.b (dL26Alive) (tL26Alive) := by
  unfold dL26Alive tL26Alive
  refine st_bd (eMarkNew (⟨1, 0⟩ : SizeSize)) fun rA => ?_
  refine st_gT (st_gC (st_gA (st_gC (st_gI (st_gC (st_gI (st_gC (st_gL (st_gC (st_gI (st_gC ?_)))))))))))
  refine st_gH (st_gN (st_gC (st_gI (st_gN ?_))))
  refine st_bd (st_loop (fun r => [.i .i64 r.1, .i .i64 r.2.1, .list (r.2.2.1.map encMarkMark), .i .i64 r.2.2.2.1, .h r.2.2.2.2.1, .b r.2.2.2.2.2.1, .i .i64 r.2.2.2.2.2.2]) (fun r => (2, [.i .i64 r.1, .i .i64 r.2.1, .list (r.2.2.1.map encMarkMark), .i .i64 r.2.2.2.1, .h r.2.2.2.2.1, .b r.2.2.2.2.2])) (rfl) fun st => ?_) fun w => ?_
  · unfold tL26AliveL1
    refine st_gC (st_gI (st_gC (st_gI (st_gC (st_gL (st_gC (st_gI (st_gC (st_gH (st_gC (st_gB ?_)))))))))))
    refine st_gC (st_gI (st_gN ?_))
    refine st_if ?_ ?_
    · refine st_chkb ?_
      refine st_bd (eMarkHear (⟨(⟨st.1, st.2.1⟩ : SizeSize), st.2.2.1, st.2.2.2.1, st.2.2.2.2.1⟩ : MarkMarks) (⟨st.2.2.2.2.2.2, 2, Hash.zero.put 0 (UInt8.ofNat (Int.toNat 7))⟩ : MarkMark)) fun rA1 => ?_
      refine st_gT (st_gC (st_gA (st_gC (st_gI (st_gC (st_gI (st_gC (st_gL (st_gC (st_gI (st_gC ?_)))))))))))
      refine st_gH (st_gN (st_gC (st_gB (st_gN ?_))))
      exact st_some (rfl)
    · exact st_some (rfl)
  · refine st_tt rfl (st_gC (st_gI (st_gC (st_gI (st_gC (st_gL (st_gC (st_gI (st_gC (st_gH (st_gC ?_)))))))))))
    refine st_gB (st_gN ?_)
    refine st_bd (f := fun r => [.b r]) ?_ fun w1 => ?_
    · refine st_if ?_ ?_
      · refine st_ifb ?_ ?_
        · refine st_if ?_ ?_
          · refine st_chk ?_
            refine st_if ?_ ?_
            · refine st_chkb ?_
              refine st_bd (eMarkTrusted (⟨(⟨w.1, w.2.1⟩ : SizeSize), w.2.2.1, w.2.2.2.1, w.2.2.2.2.1⟩ : MarkMarks) 2 (Hash.zero.put 0 (UInt8.ofNat (Int.toNat 7)))) fun rA2 => ?_
              refine st_gB ?_
              refine st_ifb ?_ ?_
              · refine st_bd (eMarkBehind (⟨(⟨w.1, w.2.1⟩ : SizeSize), w.2.2.1, w.2.2.2.1, w.2.2.2.2.1⟩ : MarkMarks) 2) fun rA3 => ?_
                refine st_gI ?_
                exact st_some (rfl)
              · exact st_some (rfl)
            · exact st_some (rfl)
          · exact st_some (rfl)
        · exact st_some (rfl)
      · exact st_some (rfl)
    · refine st_gC (st_gB (st_gN ?_))
      exact st_some (rfl)
theorem eR26Count (m : R26Marks) (slot : Int) (sum : Hash) : Sm (MV.i .i64) (dR26Count (encR26Marks m) (.i .i64 slot) (.h sum)) (tR26Count m slot sum) := by
  unfold dR26Count tR26Count
  refine st_gA (st_gC (st_gI (st_gC (st_gI (st_gC (st_gL (st_gC (st_gI (st_gC (st_gH (st_gN ?_)))))))))))
  refine st_gI (st_gH ?_)
  refine st_bd (st_loop (fun r => [.i .i64 r.1, .i .i64 r.2]) (fun r => (2, [.i .i64 r])) (rfl) fun st => ?_) fun w => ?_
  · unfold tR26CountL1
    refine st_gC (st_gI (st_gC (st_gI (st_gN (st_len (n := m.L.length) (by simp only [List.length_map, List.length_cons, List.length_nil]) ?_)))))
    refine st_if ?_ ?_
    · refine st_bd (f := fun r => [.b r]) ?_ fun w1 => ?_
      · refine st_idx (f := encR26Mark) (rfl) fun y => ?_
        refine st_gA (st_gC (st_gI (st_gC (st_gI (st_gC (st_gH (st_gN ?_)))))))
        refine st_if ?_ ?_
        · refine st_idx (f := encR26Mark) (rfl) fun y1 => ?_
          refine st_gA (st_gC (st_gI (st_gC (st_gI (st_gC (st_gH (st_gN ?_)))))))
          exact st_some (rfl)
        · exact st_some (rfl)
      · refine st_gC (st_gB (st_gN ?_))
        refine st_bd (f := (fun r => (0, [.i .i64 r]))) ?_ fun w2 => ?_
        · refine st_ifb ?_ ?_
          · exact st_some (rfl)
          · exact st_some (rfl)
        · refine st_tt rfl (st_gC (st_gI (st_gN ?_)))
          exact st_some (rfl)
    · exact st_some (rfl)
  · refine st_tt rfl (st_gC (st_gI (st_gN ?_)))
    exact st_some (rfl)
theorem eR07Proof (sA : R07Size) : Sm (MV.i .i64) (dR07Proof (encR07Size sA)) (tR07Proof sA) := by
  unfold dR07Proof tR07Proof
  refine st_gA (st_gC (st_gI (st_gC (st_gI (st_gN ?_)))))
  exact st_some (rfl)
theorem eR26Hear (a : R26Marks) (a1 : R26Mark) : Sm (fun r => .tup [encR26Marks r.1, .b r.2]) (dR26Hear (encR26Marks a) (encR26Mark a1)) (tR26Hear a a1) := by
  unfold dR26Hear tR26Hear
  refine st_gA (st_gC (st_gI (st_gC (st_gI (st_gC (st_gL (st_gC (st_gI (st_gC (st_gH (st_gN ?_)))))))))))
  refine st_gA (st_gC (st_gI (st_gC (st_gI (st_gC (st_gH (st_gN ?_)))))))
  refine st_bd (eR26May a.S a1) fun rA => ?_
  refine st_gB ?_
  refine st_ifb ?_ ?_
  · exact st_some (rfl)
  · refine st_bd (st_loop (fun r => [.i .i64 r.1, .i .i64 r.2.1, .list (r.2.2.1.map encR26Mark), .i .i64 r.2.2.2.1, .h r.2.2.2.2.1, .list (r.2.2.2.2.2.1.map encR26Mark), .b r.2.2.2.2.2.2.1, .i .i64 r.2.2.2.2.2.2.2]) (Sum.elim (fun r => (2, [.i .i64 r.1, .i .i64 r.2.1, .list (r.2.2.1.map encR26Mark), .i .i64 r.2.2.2.1, .h r.2.2.2.2.1, .list (r.2.2.2.2.2.1.map encR26Mark), .b r.2.2.2.2.2.2])) (fun r => (1, [.i .i64 r.1, .i .i64 r.2.1, .list (r.2.2.1.map encR26Mark), .i .i64 r.2.2.2.1, .h r.2.2.2.2.1, .b r.2.2.2.2.2]))) (rfl) fun st => ?_) fun w => ?_
    · unfold tR26HearL1
      refine st_gC (st_gI (st_gC (st_gI (st_gC (st_gL (st_gC (st_gI (st_gC (st_gH (st_gC (st_gL ?_)))))))))))
      refine st_gC (st_gB (st_gC (st_gI (st_gN (st_len (n := a.L.length) (by simp only [List.length_map, List.length_cons, List.length_nil]) ?_)))))
      refine st_if ?_ ?_
      · refine st_idx (f := encR26Mark) (rfl) fun y => ?_
        refine st_gA (st_gC (st_gI (st_gC (st_gI (st_gC (st_gH (st_gN ?_)))))))
        refine st_bd (f := fun r => [.b r]) ?_ fun w1 => ?_
        · refine st_if ?_ ?_
          · exact st_some (rfl)
          · exact st_some (rfl)
        · refine st_gC (st_gB (st_gN ?_))
          refine st_ifb ?_ ?_
          · exact st_some (rfl)
          · refine st_bd (f := fun r => [.b r]) ?_ fun w2 => ?_
            · refine st_ifb ?_ ?_
              · exact st_some (rfl)
              · exact st_some (rfl)
            · refine st_gC (st_gB (st_gN ?_))
              refine st_bd (f := (fun r => (0, [.list (r.1.map encR26Mark), .b r.2]))) ?_ fun w3 => ?_
              · refine st_ifb ?_ ?_
                · refine st_len (n := st.2.2.2.2.2.1.length) (by simp only [List.length_map, List.length_cons, List.length_nil]) (st_len (n := ([a1] : List R26Mark).length) (by simp only [List.length_map, List.length_cons, List.length_nil]) (st_chk ?_))
                  exact st_some (by simp only [Sum.elim_inl, Sum.elim_inr, List.map_append, List.map_cons, List.map_nil, List.map_take, List.map_drop, List.map_set])
                · exact st_some (rfl)
              · refine st_tt rfl (st_gC (st_gL (st_gC (st_gB (st_gN ?_)))))
                refine st_bd (f := (fun r => (0, [.list (r.map encR26Mark)]))) ?_ fun w4 => ?_
                · refine st_ifb ?_ ?_
                  · refine st_len (n := w3.1.length) (by simp only [List.length_map, List.length_cons, List.length_nil]) (st_len (n := ([y] : List R26Mark).length) (by simp only [List.length_map, List.length_cons, List.length_nil]) (st_chk ?_))
                    exact st_some (by simp only [Sum.elim_inl, Sum.elim_inr, List.map_append, List.map_cons, List.map_nil, List.map_take, List.map_drop, List.map_set])
                  · exact st_some (rfl)
                · refine st_tt rfl (st_gC (st_gL (st_gN ?_)))
                  exact st_some (rfl)
      · exact st_some (rfl)
    · rcases w with p3 | p4
      · refine st_ifT rfl (st_gC (st_gI (st_gC (st_gI (st_gC (st_gL (st_gC (st_gI (st_gC (st_gH (st_gC ?_)))))))))))
        refine st_gL (st_gC (st_gB (st_gN ?_)))
        refine st_bd (f := (fun r => (0, [.list (r.map encR26Mark)]))) ?_ fun w5 => ?_
        · refine st_ifb ?_ ?_
          · refine st_len (n := p3.2.2.2.2.2.1.length) (by simp only [List.length_map, List.length_cons, List.length_nil]) (st_len (n := ([a1] : List R26Mark).length) (by simp only [List.length_map, List.length_cons, List.length_nil]) (st_chk ?_))
            exact st_some (by simp only [Sum.elim_inl, Sum.elim_inr, List.map_append, List.map_cons, List.map_nil, List.map_take, List.map_drop, List.map_set])
          · exact st_some (rfl)
        · refine st_tt rfl (st_gC (st_gL (st_gN ?_)))
          refine st_bd (f := fun r => [.b r]) ?_ fun w6 => ?_
          · refine st_if ?_ ?_
            · exact st_some (rfl)
            · refine st_bd (eR26Count (⟨a.S, w5, a.Stable, a.Sum⟩ : R26Marks) a1.Slot a1.Sum) fun rA1 => ?_
              refine st_gI ?_
              refine st_bd (eR07Proof a.S) fun rA2 => ?_
              refine st_gI ?_
              exact st_some (rfl)
          · refine st_gC (st_gB (st_gN ?_))
            refine st_ifb ?_ ?_
            · exact st_some (rfl)
            · exact st_some (rfl)
      · refine st_ifF rfl (st_tt rfl (st_gC (st_gI (st_gC (st_gI (st_gC (st_gL (st_gC (st_gI (st_gC (st_gH ?_)))))))))))
        refine st_gC (st_gB (st_gN ?_))
        exact st_some (rfl)
theorem eR26Same (a : R26Marks) (b : R26Marks) : Sm MV.b (dR26Same (encR26Marks a) (encR26Marks b)) (tR26Same a b) := by
  unfold dR26Same tR26Same
  refine st_gA (st_gC (st_gI (st_gC (st_gI (st_gC (st_gL (st_gC (st_gI (st_gC (st_gH (st_gN ?_)))))))))))
  refine st_gA (st_gC (st_gI (st_gC (st_gI (st_gC (st_gL (st_gC (st_gI (st_gC (st_gH (st_gN ?_)))))))))))
  refine st_bd (f := fun r => [.b r]) ?_ fun w => ?_
  · refine st_ifb ?_ ?_
    · exact st_some (rfl)
    · refine st_ifb ?_ ?_
      · exact st_some (rfl)
      · refine st_ifb ?_ ?_
        · exact st_some (rfl)
        · refine st_len (n := a.L.length) (by simp only [List.length_map, List.length_cons, List.length_nil]) (st_len (n := b.L.length) (by simp only [List.length_map, List.length_cons, List.length_nil]) ?_)
          exact st_some (rfl)
  · refine st_gC (st_gB (st_gN ?_))
    refine st_ifb ?_ ?_
    · exact st_some (rfl)
    · refine st_bd (st_loop (fun r => [.i .i64 r]) (Sum.elim (fun r => (2, [])) (fun r => (1, [.b r]))) (rfl) fun st => ?_) fun w1 => ?_
      · unfold tR26SameL1
        refine st_gC (st_gI (st_gN (st_len (n := a.L.length) (by simp only [List.length_map, List.length_cons, List.length_nil]) ?_)))
        refine st_if ?_ ?_
        · refine st_idx (f := encR26Mark) (rfl) fun y => ?_
          refine st_gA (st_gC (st_gI (st_gC (st_gI (st_gC (st_gH (st_gN ?_)))))))
          refine st_idx (f := encR26Mark) (rfl) fun y1 => ?_
          refine st_gA (st_gC (st_gI (st_gC (st_gI (st_gC (st_gH (st_gN ?_)))))))
          refine st_ifb ?_ ?_
          · exact st_some (rfl)
          · exact st_some (rfl)
        · exact st_some (rfl)
      · rcases w1 with p1 | p2
        · refine st_ifT rfl (st_gN ?_)
          exact st_some (rfl)
        · refine st_ifF rfl (st_tt rfl (st_gC (st_gB (st_gN ?_))))
          exact st_some (rfl)
theorem eR07Weak (sA : R07Size) : Sm (MV.i .i64) (dR07Weak (encR07Size sA)) (tR07Weak sA) := by
  unfold dR07Weak tR07Weak
  refine st_gA (st_gC (st_gI (st_gC (st_gI (st_gN ?_)))))
  exact st_some (rfl)
theorem eR26Trusted (m : R26Marks) (slot : Int) (sum : Hash) : Sm MV.b (dR26Trusted (encR26Marks m) (.i .i64 slot) (.h sum)) (tR26Trusted m slot sum) := by
  unfold dR26Trusted tR26Trusted
  refine st_gA (st_gC (st_gI (st_gC (st_gI (st_gC (st_gL (st_gC (st_gI (st_gC (st_gH (st_gN ?_)))))))))))
  refine st_gI (st_gH ?_)
  refine st_bd (eR26Count m slot sum) fun rA => ?_
  refine st_gI ?_
  refine st_bd (eR07Weak m.S) fun rA1 => ?_
  refine st_gI ?_
  exact st_some (rfl)
theorem eR26Behind (m : R26Marks) (slot : Int) : Sm (MV.i .i64) (dR26Behind (encR26Marks m) (.i .i64 slot)) (tR26Behind m slot) := by
  unfold dR26Behind tR26Behind
  refine st_gA (st_gC (st_gI (st_gC (st_gI (st_gC (st_gL (st_gC (st_gI (st_gC (st_gH (st_gN ?_)))))))))))
  refine st_gI ?_
  refine st_bd (st_loop (fun r => [.i .i64 r.1, .i .i64 r.2]) (fun r => (2, [.i .i64 r])) (rfl) fun st => ?_) fun w => ?_
  · unfold tR26BehindL1
    refine st_gC (st_gI (st_gC (st_gI (st_gN (st_len (n := m.L.length) (by simp only [List.length_map, List.length_cons, List.length_nil]) ?_)))))
    refine st_if ?_ ?_
    · refine st_idx (f := encR26Mark) (rfl) fun y => ?_
      refine st_gA (st_gC (st_gI (st_gC (st_gI (st_gC (st_gH (st_gN ?_)))))))
      refine st_bd (f := (fun r => (0, [.i .i64 r]))) ?_ fun w1 => ?_
      · refine st_if ?_ ?_
        · exact st_some (rfl)
        · exact st_some (rfl)
      · refine st_tt rfl (st_gC (st_gI (st_gN ?_)))
        exact st_some (rfl)
    · exact st_some (rfl)
  · refine st_tt rfl (st_gC (st_gI (st_gN ?_)))
    exact st_some (rfl)
theorem eL26MarkTurns (a : MarkMarks) (a1 : MarkMark) (a2 : Int) : Sm MV.b (dL26MarkTurns (encMarkMarks a) (encMarkMark a1) (.i .i64 a2)) (tL26MarkTurns a a1 a2) := by
  unfold dL26MarkTurns tL26MarkTurns
  refine st_gA (st_gC (st_gI (st_gC (st_gI (st_gC (st_gL (st_gC (st_gI (st_gC (st_gH (st_gN ?_)))))))))))
  refine st_gA (st_gC (st_gI (st_gC (st_gI (st_gC (st_gH (st_gN (st_gI ?_))))))))
  refine st_bd (f := fun r => [.b r]) ?_ fun w => ?_
  · refine st_len (n := a.L.length) (by simp only [List.length_map, List.length_cons, List.length_nil]) ?_
    refine st_if ?_ ?_
    · exact st_some (rfl)
    · refine st_bd (eL26Plain a) fun rA => ?_
      refine st_gA (st_gC (st_gI (st_gC (st_gI (st_gC (st_gL (st_gC (st_gI (st_gC (st_gH (st_gN ?_)))))))))))
      refine st_bd (eR26Right rA) fun rA1 => ?_
      refine st_gB ?_
      exact st_some (rfl)
  · refine st_gC (st_gB (st_gN ?_))
    refine st_ifb ?_ ?_
    · refine st_bd (eL26Alive) fun rA2 => ?_
      refine st_gB ?_
      exact st_some (rfl)
    · refine st_bd (eL26Plain a) fun rA3 => ?_
      refine st_gA (st_gC (st_gI (st_gC (st_gI (st_gC (st_gL (st_gC (st_gI (st_gC (st_gH (st_gN ?_)))))))))))
      refine st_bd (eMarkHear a a1) fun rA4 => ?_
      refine st_gT (st_gC (st_gA (st_gC (st_gI (st_gC (st_gI (st_gC (st_gL (st_gC (st_gI (st_gC ?_)))))))))))
      refine st_gH (st_gN (st_gC (st_gB (st_gN ?_))))
      refine st_bd (eL26One a1) fun rA5 => ?_
      refine st_gA (st_gC (st_gI (st_gC (st_gI (st_gC (st_gH (st_gN ?_)))))))
      refine st_bd (eR26Hear rA3 rA5) fun rA6 => ?_
      refine st_gT (st_gC (st_gA (st_gC (st_gI (st_gC (st_gI (st_gC (st_gL (st_gC (st_gI (st_gC ?_)))))))))))
      refine st_gH (st_gN (st_gC (st_gB (st_gN ?_))))
      refine st_bd (f := fun r => [.b r]) ?_ fun w1 => ?_
      · refine st_bd (eL26Plain rA4.1) fun rA7 => ?_
        refine st_gA (st_gC (st_gI (st_gC (st_gI (st_gC (st_gL (st_gC (st_gI (st_gC (st_gH (st_gN ?_)))))))))))
        refine st_bd (eR26Same rA7 rA6.1) fun rA8 => ?_
        refine st_gB ?_
        refine st_ifb ?_ ?_
        · refine st_if ?_ ?_
          · refine st_bd (eMarkTrusted a a1.Slot a1.Sum) fun rA9 => ?_
            refine st_gB ?_
            refine st_bd (eR26Trusted rA3 a1.Slot a1.Sum) fun rA10 => ?_
            refine st_gB ?_
            exact st_some (rfl)
          · exact st_some (rfl)
        · exact st_some (rfl)
      · refine st_gC (st_gB (st_gN ?_))
        refine st_bd (f := fun r => [.b r]) ?_ fun w2 => ?_
        · refine st_bd (eL26Alive) fun rA11 => ?_
          refine st_gB ?_
          refine st_ifb ?_ ?_
          · refine st_ifb ?_ ?_
            · refine st_bd (eMarkBehind a a2) fun rA12 => ?_
              refine st_gI ?_
              refine st_bd (eR26Behind rA3 a2) fun rA13 => ?_
              refine st_gI ?_
              refine st_if ?_ ?_
              · refine st_bd (eL26Plain a) fun rA14 => ?_
                refine st_gA (st_gC (st_gI (st_gC (st_gI (st_gC (st_gL (st_gC (st_gI (st_gC (st_gH (st_gN ?_)))))))))))
                refine st_bd (eR26Same rA14 rA3) fun rA15 => ?_
                refine st_gB ?_
                exact st_some (rfl)
              · exact st_some (rfl)
            · exact st_some (rfl)
          · exact st_some (rfl)
        · refine st_gC (st_gB (st_gN ?_))
          exact st_some (rfl)
theorem eL26Truth (slot : Int) : Sm MV.h (dL26Truth (.i .i64 slot)) (tL26Truth slot) := by
  unfold dL26Truth tL26Truth
  refine st_gI (st_chk (st_chkb (st_chkb (st_chk (st_chkb (st_chk (st_chkb ?_)))))))
  exact st_some (rfl)
theorem eL26MarkStable (a : SizeSize) (a1 : List Bool) (a2 : List MarkMark) : Sm MV.b (dL26MarkStable (encSizeSize a) (.list (a1.map MV.b)) (.list (a2.map encMarkMark))) (tL26MarkStable a a1 a2) := by
  unfold dL26MarkStable tL26MarkStable
  refine st_gA (st_gC (st_gI (st_gC (st_gI (st_gN (st_gL (st_gL ?_)))))))
  refine st_bd (eMarkNew a) fun rA => ?_
  refine st_gT (st_gC (st_gA (st_gC (st_gI (st_gC (st_gI (st_gC (st_gL (st_gC (st_gI (st_gC ?_)))))))))))
  refine st_gH (st_gN (st_gC (st_gI (st_gN ?_))))
  refine st_bd (f := fun r => [.b r]) ?_ fun w => ?_
  · refine st_ifb ?_ ?_
    · exact st_some (rfl)
    · refine st_len (n := a1.length) (by simp only [List.length_map, List.length_cons, List.length_nil]) ?_
      refine st_bd (eSizeN a) fun rA1 => ?_
      refine st_gI ?_
      refine st_ifb ?_ ?_
      · exact st_some (rfl)
      · refine st_len (n := a2.length) (by simp only [List.length_map, List.length_cons, List.length_nil]) ?_
        exact st_some (rfl)
  · refine st_gC (st_gB (st_gN ?_))
    refine st_ifb ?_ ?_
    · refine st_bd (eL26Alive) fun rA2 => ?_
      refine st_gB ?_
      exact st_some (rfl)
    · refine st_bd (st_loop (fun r => [.i .i64 r.1, .i .i64 r.2]) (fun r => (2, [.i .i64 r])) (rfl) fun st => ?_) fun w1 => ?_
      · unfold tL26MarkStableL1
        refine st_gC (st_gI (st_gC (st_gI (st_gN (st_len (n := a1.length) (by simp only [List.length_map, List.length_cons, List.length_nil]) ?_)))))
        refine st_if ?_ ?_
        · refine st_idx (f := MV.b) (rfl) fun y => ?_
          refine st_gB ?_
          refine st_bd (f := (fun r => (0, [.i .i64 r]))) ?_ fun w2 => ?_
          · refine st_ifb ?_ ?_
            · exact st_some (rfl)
            · exact st_some (rfl)
          · refine st_tt rfl (st_gC (st_gI (st_gN ?_)))
            exact st_some (rfl)
        · exact st_some (rfl)
      · refine st_tt rfl (st_gC (st_gI (st_gN ?_)))
        refine st_if ?_ ?_
        · refine st_bd (eL26Alive) fun rA3 => ?_
          refine st_gB ?_
          exact st_some (rfl)
        · refine st_bd (st_loop (fun r => [.i .i64 r.1, .i .i64 r.2.1, .list (r.2.2.1.map encMarkMark), .i .i64 r.2.2.2.1, .h r.2.2.2.2.1, .i .i64 r.2.2.2.2.2]) (Sum.elim (fun r => (4, [])) (fun r => (1, [.b r]))) (rfl) fun st1 => ?_) fun w3 => ?_
          · unfold tL26MarkStableL2
            refine st_gC (st_gI (st_gC (st_gI (st_gC (st_gL (st_gC (st_gI (st_gC (st_gH (st_gC (st_gI ?_)))))))))))
            refine st_gN (st_len (n := a2.length) (by simp only [List.length_map, List.length_cons, List.length_nil]) ?_)
            refine st_if ?_ ?_
            · refine st_idx (f := encMarkMark) (rfl) fun y1 => ?_
              refine st_gA (st_gC (st_gI (st_gC (st_gI (st_gC (st_gH (st_gN ?_)))))))
              refine st_bd (f := fun r => [.b r]) ?_ fun w4 => ?_
              · refine st_if ?_ ?_
                · exact st_some (rfl)
                · refine st_len (n := a1.length) (by simp only [List.length_map, List.length_cons, List.length_nil]) ?_
                  refine st_if ?_ ?_
                  · exact st_some (rfl)
                  · refine st_idx (f := MV.b) (rfl) fun y2 => ?_
                    refine st_gB ?_
                    exact st_some (rfl)
              · refine st_gC (st_gB (st_gN ?_))
                refine st_bd (f := (fun r => (0, [.i .i64 r.1, .i .i64 r.2.1, .h r.2.2]))) ?_ fun w5 => ?_
                · refine st_ifb ?_ ?_
                  · refine st_bd (eL26Truth y1.Slot) fun rA4 => ?_
                    refine st_gH ?_
                    exact st_some (rfl)
                  · exact st_some (rfl)
                · refine st_tt rfl (st_gC (st_gI (st_gC (st_gI (st_gC (st_gH (st_gN ?_)))))))
                  refine st_bd (eMarkHear (⟨(⟨st1.1, st1.2.1⟩ : SizeSize), st1.2.2.1, st1.2.2.2.1, st1.2.2.2.2.1⟩ : MarkMarks) (⟨w5.1, w5.2.1, w5.2.2⟩ : MarkMark)) fun rA5 => ?_
                  refine st_gT (st_gC (st_gA (st_gC (st_gI (st_gC (st_gI (st_gC (st_gL (st_gC (st_gI (st_gC ?_)))))))))))
                  refine st_gH (st_gN (st_gC (st_gB (st_gN ?_))))
                  refine st_bd (f := fun r => [.b r]) ?_ fun w6 => ?_
                  · refine st_if ?_ ?_
                    · exact st_some (rfl)
                    · refine st_ifb ?_ ?_
                      · exact st_some (rfl)
                      · refine st_bd (eL26Plain rA5.1) fun rA6 => ?_
                        refine st_gA (st_gC (st_gI (st_gC (st_gI (st_gC (st_gL (st_gC (st_gI (st_gC (st_gH (st_gN ?_)))))))))))
                        refine st_bd (eR26Right rA6) fun rA7 => ?_
                        refine st_gB ?_
                        exact st_some (rfl)
                  · refine st_gC (st_gB (st_gN ?_))
                    refine st_ifb ?_ ?_
                    · exact st_some (rfl)
                    · refine st_bd (f := fun r => [.b r]) ?_ fun w7 => ?_
                      · refine st_if ?_ ?_
                        · refine st_bd (eL26Truth rA5.1.Stable) fun rA8 => ?_
                          refine st_gH ?_
                          refine st_ifb ?_ ?_
                          · exact st_some (rfl)
                          · refine st_bd (eMarkTrusted rA5.1 w5.2.1 w5.2.2) fun rA9 => ?_
                            refine st_gB ?_
                            refine st_ifb ?_ ?_
                            · refine st_bd (eL26Truth w5.2.1) fun rA10 => ?_
                              refine st_gH ?_
                              exact st_some (rfl)
                            · exact st_some (rfl)
                        · refine st_bd (eMarkTrusted rA5.1 w5.2.1 w5.2.2) fun rA11 => ?_
                          refine st_gB ?_
                          refine st_ifb ?_ ?_
                          · refine st_bd (eL26Truth w5.2.1) fun rA12 => ?_
                            refine st_gH ?_
                            exact st_some (rfl)
                          · exact st_some (rfl)
                      · refine st_gC (st_gB (st_gN ?_))
                        refine st_ifb ?_ ?_
                        · exact st_some (rfl)
                        · exact st_some (rfl)
            · exact st_some (rfl)
          · rcases w3 with p4 | p5
            · refine st_ifT rfl (st_gN ?_)
              refine st_bd (eL26Alive) fun rA13 => ?_
              refine st_gB ?_
              exact st_some (rfl)
            · refine st_ifF rfl (st_tt rfl (st_gC (st_gB (st_gN ?_))))
              exact st_some (rfl)
theorem eSlicesEqualMarkMark (s1 : List MarkMark) (s2 : List MarkMark) : Sm MV.b (dSlicesEqualMarkMark (.list (s1.map encMarkMark)) (.list (s2.map encMarkMark))) (tSlicesEqualMarkMark s1 s2) := by
  unfold dSlicesEqualMarkMark tSlicesEqualMarkMark
  refine st_gL (st_gL (st_len (n := s1.length) (by simp only [List.length_map, List.length_cons, List.length_nil]) (st_len (n := s2.length) (by simp only [List.length_map, List.length_cons, List.length_nil]) ?_)))
  refine st_ifb ?_ ?_
  · exact st_some (rfl)
  · refine st_len (n := s1.length) (by simp only [List.length_map, List.length_cons, List.length_nil]) ?_
    refine st_bd (st_loop (fun r => [.i .i64 r]) (Sum.elim (fun r => (2, [])) (fun r => (1, [.b r]))) (rfl) fun st => ?_) fun w => ?_
    · unfold tSlicesEqualMarkMarkL1
      refine st_gC (st_gI (st_gN ?_))
      refine st_if ?_ ?_
      · refine st_idx (f := encMarkMark) (rfl) fun y => ?_
        refine st_gA (st_gC (st_gI (st_gC (st_gI (st_gC (st_gH (st_gN ?_)))))))
        refine st_idx (f := encMarkMark) (rfl) fun y1 => ?_
        refine st_gA (st_gC (st_gI (st_gC (st_gI (st_gC (st_gH (st_gN ?_)))))))
        refine st_ifb ?_ ?_
        · exact st_some (rfl)
        · exact st_some (rfl)
      · exact st_some (rfl)
    · rcases w with p1 | p2
      · refine st_ifT rfl (st_gN ?_)
        exact st_some (rfl)
      · refine st_ifF rfl (st_tt rfl (st_gC (st_gB (st_gN ?_))))
        exact st_some (rfl)
theorem eMarkSame (a : MarkMarks) (b : MarkMarks) : Sm MV.b (dMarkSame (encMarkMarks a) (encMarkMarks b)) (tMarkSame a b) := by
  unfold dMarkSame tMarkSame
  refine st_gA (st_gC (st_gI (st_gC (st_gI (st_gC (st_gL (st_gC (st_gI (st_gC (st_gH (st_gN ?_)))))))))))
  refine st_gA (st_gC (st_gI (st_gC (st_gI (st_gC (st_gL (st_gC (st_gI (st_gC (st_gH (st_gN ?_)))))))))))
  refine st_bd (f := fun r => [.b r]) ?_ fun w => ?_
  · refine st_ifb ?_ ?_
    · refine st_if ?_ ?_
      · refine st_if ?_ ?_
        · refine st_bd (eSlicesEqualMarkMark a.L b.L) fun rA => ?_
          refine st_gB ?_
          exact st_some (rfl)
        · exact st_some (rfl)
      · exact st_some (rfl)
    · exact st_some (rfl)
  · refine st_gC (st_gB (st_gN ?_))
    exact st_some (rfl)
theorem eL26MarkNewest (a : MarkMarks) (a1 : MarkMark) (a2 : Int) : Sm MV.b (dL26MarkNewest (encMarkMarks a) (encMarkMark a1) (.i .u8 a2)) (tL26MarkNewest a a1 a2) := by
  unfold dL26MarkNewest tL26MarkNewest
  refine st_gA (st_gC (st_gI (st_gC (st_gI (st_gC (st_gL (st_gC (st_gI (st_gC (st_gH (st_gN ?_)))))))))))
  refine st_gA (st_gC (st_gI (st_gC (st_gI (st_gC (st_gH (st_gN (st_gI ?_))))))))
  refine st_bd (f := fun r => [.b r]) ?_ fun w => ?_
  · refine st_len (n := a.L.length) (by simp only [List.length_map, List.length_cons, List.length_nil]) ?_
    refine st_if ?_ ?_
    · exact st_some (rfl)
    · refine st_bd (eL26Plain a) fun rA => ?_
      refine st_gA (st_gC (st_gI (st_gC (st_gI (st_gC (st_gL (st_gC (st_gI (st_gC (st_gH (st_gN ?_)))))))))))
      refine st_bd (eR26Right rA) fun rA1 => ?_
      refine st_gB ?_
      exact st_some (rfl)
  · refine st_gC (st_gB (st_gN ?_))
    refine st_ifb ?_ ?_
    · refine st_bd (eL26Alive) fun rA2 => ?_
      refine st_gB ?_
      exact st_some (rfl)
    · refine st_bd (eMarkHear a a1) fun rA3 => ?_
      refine st_gT (st_gC (st_gA (st_gC (st_gI (st_gC (st_gI (st_gC (st_gL (st_gC (st_gI (st_gC ?_)))))))))))
      refine st_gH (st_gN (st_gC (st_gB (st_gN (st_chkb ?_)))))
      refine st_bd (eMarkHear rA3.1 (⟨a1.By, IntKind.wrap .i64 (a1.Slot - (IntKind.wrap .i64 a2)), Hash.zero.put 0 (UInt8.ofNat (Int.toNat 9))⟩ : MarkMark)) fun rA4 => ?_
      refine st_gT (st_gC (st_gA (st_gC (st_gI (st_gC (st_gI (st_gC (st_gL (st_gC (st_gI (st_gC ?_)))))))))))
      refine st_gH (st_gN (st_gC (st_gB (st_gN ?_))))
      refine st_bd (eMarkSame rA3.1 a) fun rA5 => ?_
      refine st_gB ?_
      refine st_ifb ?_ ?_
      · refine st_bd (eL26Alive) fun rA6 => ?_
        refine st_gB ?_
        exact st_some (rfl)
      · refine st_bd (st_loop (fun r => [.b r.1, .i .i64 r.2]) (fun r => (2, [.b r])) (rfl) fun st => ?_) fun w1 => ?_
        · unfold tL26MarkNewestL1
          refine st_gC (st_gB (st_gC (st_gI (st_gN (st_len (n := rA3.1.L.length) (by simp only [List.length_map, List.length_cons, List.length_nil]) ?_)))))
          refine st_if ?_ ?_
          · refine st_bd (f := fun r => [.b r]) ?_ fun w2 => ?_
            · refine st_ifb ?_ ?_
              · exact st_some (rfl)
              · refine st_idx (f := encMarkMark) (rfl) fun y => ?_
                refine st_gA (st_gC (st_gI (st_gC (st_gI (st_gC (st_gH (st_gN ?_)))))))
                exact st_some (rfl)
            · refine st_gC (st_gB (st_gN ?_))
              exact st_some (rfl)
          · exact st_some (rfl)
        · refine st_tt rfl (st_gC (st_gB (st_gN ?_)))
          refine st_bd (f := fun r => [.b r]) ?_ fun w3 => ?_
          · refine st_bd (eL26Alive) fun rA7 => ?_
            refine st_gB ?_
            refine st_ifb ?_ ?_
            · refine st_ifb ?_ ?_
              · refine st_ifb ?_ ?_
                · refine st_bd (eMarkSame rA3.1 rA4.1) fun rA8 => ?_
                  refine st_gB ?_
                  refine st_ifb ?_ ?_
                  · refine st_bd (eMarkBehind rA3.1 a1.Slot) fun rA9 => ?_
                    refine st_gI ?_
                    exact st_some (rfl)
                  · exact st_some (rfl)
                · exact st_some (rfl)
              · exact st_some (rfl)
            · exact st_some (rfl)
          · refine st_gC (st_gB (st_gN ?_))
            exact st_some (rfl)
theorem eR26New (sA : R07Size) : Sm (fun r => .tup [encR26Marks r.1, .i .i64 r.2]) (dR26New (encR07Size sA)) (tR26New sA) := by
  unfold dR26New tR26New
  refine st_gA (st_gC (st_gI (st_gC (st_gI (st_gN ?_)))))
  refine st_bd (eR07Right sA) fun rA => ?_
  refine st_gB ?_
  refine st_ifb ?_ ?_
  · exact st_some (rfl)
  · exact st_some (rfl)
theorem eMarkRight (m : MarkMarks) : Sm MV.b (dMarkRight (encMarkMarks m)) (tMarkRight m) := by
  unfold dMarkRight tMarkRight
  refine st_gA (st_gC (st_gI (st_gC (st_gI (st_gC (st_gL (st_gC (st_gI (st_gC (st_gH (st_gN ?_)))))))))))
  refine st_bd (f := fun r => [.b r]) ?_ fun w => ?_
  · refine st_bd (eSizeRight m.S) fun rA => ?_
    refine st_gB ?_
    refine st_ifb ?_ ?_
    · exact st_some (rfl)
    · refine st_if ?_ ?_
      · exact st_some (rfl)
      · refine st_if ?_ ?_
        · exact st_some (rfl)
        · refine st_if ?_ ?_
          · exact st_some (rfl)
          · exact st_some (rfl)
  · refine st_gC (st_gB (st_gN ?_))
    refine st_ifb ?_ ?_
    · exact st_some (rfl)
    · refine st_len (n := m.L.length) (by simp only [List.length_map, List.length_cons, List.length_nil]) ?_
      refine st_bd (st_loop (fun r => [.i .i64 r]) (Sum.elim (fun r => (2, [])) (fun r => (1, [.b r]))) (rfl) fun st => ?_) fun w1 => ?_
      · unfold tMarkRightL1
        refine st_gC (st_gI (st_gN ?_))
        refine st_if ?_ ?_
        · refine st_idx (f := encMarkMark) (rfl) fun y => ?_
          refine st_gA (st_gC (st_gI (st_gC (st_gI (st_gC (st_gH (st_gN ?_)))))))
          refine st_bd (f := fun r => [.b r]) ?_ fun w2 => ?_
          · refine st_bd (eMarkMarksMay m y) fun rA1 => ?_
            refine st_gB ?_
            refine st_ifb ?_ ?_
            · exact st_some (rfl)
            · refine st_if ?_ ?_
              · refine st_idx (f := encMarkMark) (rfl) fun y1 => ?_
                refine st_gA (st_gC (st_gI (st_gC (st_gI (st_gC (st_gH (st_gN ?_)))))))
                exact st_some (rfl)
              · exact st_some (rfl)
          · refine st_gC (st_gB (st_gN ?_))
            refine st_ifb ?_ ?_
            · exact st_some (rfl)
            · exact st_some (rfl)
        · exact st_some (rfl)
      · rcases w1 with p1 | p2
        · refine st_ifT rfl (st_gN ?_)
          exact st_some (rfl)
        · refine st_ifF rfl (st_tt rfl (st_gC (st_gB (st_gN ?_))))
          exact st_some (rfl)
theorem eL26MarkMay (a : MarkMarks) (b : MarkMarks) (sA : SizeSize) : Sm MV.b (dL26MarkMay (encMarkMarks a) (encMarkMarks b) (encSizeSize sA)) (tL26MarkMay a b sA) := by
  unfold dL26MarkMay tL26MarkMay
  refine st_gA (st_gC (st_gI (st_gC (st_gI (st_gC (st_gL (st_gC (st_gI (st_gC (st_gH (st_gN ?_)))))))))))
  refine st_gA (st_gC (st_gI (st_gC (st_gI (st_gC (st_gL (st_gC (st_gI (st_gC (st_gH (st_gN ?_)))))))))))
  refine st_gA (st_gC (st_gI (st_gC (st_gI (st_gN ?_)))))
  refine st_bd (f := fun r => [.b r]) ?_ fun w => ?_
  · refine st_len (n := a.L.length) (by simp only [List.length_map, List.length_cons, List.length_nil]) ?_
    refine st_if ?_ ?_
    · exact st_some (rfl)
    · refine st_len (n := b.L.length) (by simp only [List.length_map, List.length_cons, List.length_nil]) ?_
      exact st_some (rfl)
  · refine st_gC (st_gB (st_gN ?_))
    refine st_ifb ?_ ?_
    · refine st_bd (eL26Alive) fun rA => ?_
      refine st_gB ?_
      exact st_some (rfl)
    · refine st_bd (eMarkNew sA) fun rA1 => ?_
      refine st_gT (st_gC (st_gA (st_gC (st_gI (st_gC (st_gI (st_gC (st_gL (st_gC (st_gI (st_gC ?_)))))))))))
      refine st_gH (st_gN (st_gC (st_gI (st_gN ?_))))
      refine st_bd (eL26Sized sA) fun rA2 => ?_
      refine st_gA (st_gC (st_gI (st_gC (st_gI (st_gN ?_)))))
      refine st_bd (eR26New rA2) fun rA3 => ?_
      refine st_gT (st_gC (st_gA (st_gC (st_gI (st_gC (st_gI (st_gC (st_gL (st_gC (st_gI (st_gC ?_)))))))))))
      refine st_gH (st_gN (st_gC (st_gI (st_gN ?_))))
      refine st_bd (f := fun r => [.b r]) ?_ fun w1 => ?_
      · refine st_bd (eL26Alive) fun rA4 => ?_
        refine st_gB ?_
        refine st_ifb ?_ ?_
        · refine st_bd (eL26Plain rA1.1) fun rA5 => ?_
          refine st_gA (st_gC (st_gI (st_gC (st_gI (st_gC (st_gL (st_gC (st_gI (st_gC (st_gH (st_gN ?_)))))))))))
          refine st_bd (eR26Same rA5 rA3.1) fun rA6 => ?_
          refine st_gB ?_
          refine st_ifb ?_ ?_
          · refine st_if ?_ ?_
            · refine st_bd (eMarkRight a) fun rA7 => ?_
              refine st_gB ?_
              refine st_bd (eL26Plain a) fun rA8 => ?_
              refine st_gA (st_gC (st_gI (st_gC (st_gI (st_gC (st_gL (st_gC (st_gI (st_gC (st_gH (st_gN ?_)))))))))))
              refine st_bd (eR26Right rA8) fun rA9 => ?_
              refine st_gB ?_
              refine st_if ?_ ?_
              · refine st_bd (eMarkSame a b) fun rA10 => ?_
                refine st_gB ?_
                refine st_bd (eL26Plain a) fun rA11 => ?_
                refine st_gA (st_gC (st_gI (st_gC (st_gI (st_gC (st_gL (st_gC (st_gI (st_gC (st_gH (st_gN ?_)))))))))))
                refine st_bd (eL26Plain b) fun rA12 => ?_
                refine st_gA (st_gC (st_gI (st_gC (st_gI (st_gC (st_gL (st_gC (st_gI (st_gC (st_gH (st_gN ?_)))))))))))
                refine st_bd (eR26Same rA11 rA12) fun rA13 => ?_
                refine st_gB ?_
                exact st_some (rfl)
              · exact st_some (rfl)
            · exact st_some (rfl)
          · exact st_some (rfl)
        · exact st_some (rfl)
      · refine st_gC (st_gB (st_gN ?_))
        exact st_some (rfl)
end Dn.S
