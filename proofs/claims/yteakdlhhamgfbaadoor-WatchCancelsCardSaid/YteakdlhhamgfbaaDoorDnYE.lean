import Derived.Test.YteakdlhhamgfbaaDoorDnYD
/-
  Typed and plain functions agree. Conditions: none.
-/
open Go Dn
set_option linter.unusedVariables false
set_option linter.unusedSimpArgs false
set_option maxRecDepth 100000
namespace Dn.S
theorem eStringsliteHasPrefix (sA : List UInt8) (prefixA : List UInt8) : Sm MV.b (dStringsliteHasPrefix (.s sA) (.s prefixA)) (tStringsliteHasPrefix sA prefixA) := by
  unfold dStringsliteHasPrefix tStringsliteHasPrefix
  refine st_gS (st_gS ?_)
  refine st_bd (f := fun r => [.b r]) ?_ fun w => ?_
  · refine st_if ?_ ?_
    · refine st_chk ?_
      exact st_some (rfl)
    · exact st_some (rfl)
  · refine st_gC (st_gB (st_gN ?_))
    exact st_some (rfl)
theorem eStringsliteCutPrefix (sA : List UInt8) (prefixA : List UInt8) : Sm (fun r => .tup [.s r.1, .b r.2]) (dStringsliteCutPrefix (.s sA) (.s prefixA)) (tStringsliteCutPrefix sA prefixA) := by
  unfold dStringsliteCutPrefix tStringsliteCutPrefix
  refine st_gS (st_gS ?_)
  refine st_bd (eStringsliteHasPrefix sA prefixA) fun rA => ?_
  refine st_gB ?_
  refine st_ifb ?_ ?_
  · exact st_some (rfl)
  · refine st_chk ?_
    exact st_some (rfl)
theorem eStringsCutPrefix (sA : List UInt8) (prefixA : List UInt8) : Sm (fun r => .tup [.s r.1, .b r.2]) (dStringsCutPrefix (.s sA) (.s prefixA)) (tStringsCutPrefix sA prefixA) := by
  unfold dStringsCutPrefix tStringsCutPrefix
  refine st_gS (st_gS ?_)
  refine st_bd (eStringsliteCutPrefix sA prefixA) fun rA => ?_
  refine st_gT (st_gC (st_gS (st_gC (st_gB (st_gN ?_)))))
  exact st_some (rfl)
theorem ePathIsNameF1 (c : Int) : Sm MV.b (dPathIsNameF1 (.i .i32 c)) (tPathIsNameF1 c) := by
  unfold dPathIsNameF1 tPathIsNameF1
  refine st_gI ?_
  refine st_bd (e_hasRune ([97, 98, 99, 100, 101, 102, 103, 104, 105, 106, 107, 108, 109, 110, 111, 112, 113, 114, 115, 116, 117, 118, 119, 120, 121, 122, 48, 49, 50, 51, 52, 53, 54, 55, 56, 57, 45, 95] : List UInt8) c) fun rA => ?_
  refine st_gB ?_
  exact st_some (rfl)
theorem eStringsIndexIn (sA : List UInt8) (f : Int → Option Bool) (truth : Bool) {fn1 : Nat} {cap1 : List MV} (hgf : gv fn1 = false) (hcfStringsIndexIn : ∀ (u0 : Int), Sm MV.b (preStringsIndexIn fn1 ([.i .i32 u0] ++ cap1)) (f u0)) : Sm (MV.i .i64) (dStringsIndexIn (.s sA) (.func fn1 cap1) (.b truth)) (tStringsIndexIn sA f truth) := by
  unfold dStringsIndexIn tStringsIndexIn
  refine st_gS (st_gRf (st_gB ?_))
  refine st_bd (st_loop (fun r => [.list r]) (Sum.elim (fun r => (2, [])) (fun r => (1, [.i .i64 r]))) (rfl) fun st => ?_) fun w => ?_
  · unfold tStringsIndexInL1
    refine st_gC (st_gL (st_gN ?_))
    refine st_ifb ?_ ?_
    · refine st_gFn (st_tt (by rw [hgf]; rfl) ?_)
      refine st_bd (hcfStringsIndexIn (itRune st)) fun rA => ?_
      refine st_gB ?_
      refine st_if ?_ ?_
      · exact st_some (rfl)
      · exact st_some (rfl)
    · exact st_some (rfl)
  · rcases w with p1 | p2
    · refine st_ifT rfl (st_gN ?_)
      exact st_some (rfl)
    · refine st_ifF rfl (st_tt rfl (st_gC (st_gI (st_gN ?_))))
      exact st_some (rfl)
theorem eStringsIndexFunc (sA : List UInt8) (f : Int → Option Bool) {fn1 : Nat} {cap1 : List MV} (hgf : gv fn1 = false) (hcfStringsIndexIn : ∀ (u0 : Int), Sm MV.b (preStringsIndexIn fn1 ([.i .i32 u0] ++ cap1)) (f u0)) : Sm (MV.i .i64) (dStringsIndexFunc (.s sA) (.func fn1 cap1)) (tStringsIndexFunc sA f) := by
  unfold dStringsIndexFunc tStringsIndexFunc
  refine st_gS (st_gRf ?_)
  refine st_bd (eStringsIndexIn sA f true hgf hcfStringsIndexIn) fun rA => ?_
  refine st_gI ?_
  exact st_some (rfl)
theorem eStringsContainsFunc (sA : List UInt8) (f : Int → Option Bool) {fn1 : Nat} {cap1 : List MV} (hgf : gv fn1 = false) (hcfStringsIndexIn : ∀ (u0 : Int), Sm MV.b (preStringsIndexIn fn1 ([.i .i32 u0] ++ cap1)) (f u0)) : Sm MV.b (dStringsContainsFunc (.s sA) (.func fn1 cap1)) (tStringsContainsFunc sA f) := by
  unfold dStringsContainsFunc tStringsContainsFunc
  refine st_gS (st_gRf ?_)
  refine st_bd (eStringsIndexFunc sA f hgf hcfStringsIndexIn) fun rA => ?_
  refine st_gI ?_
  exact st_some (rfl)
theorem ePathIsName (sA : List UInt8) : Sm MV.b (dPathIsName (.s sA)) (tPathIsName sA) := by
  unfold dPathIsName tPathIsName
  refine st_gS ?_
  refine st_bd (f := fun r => [.b r]) ?_ fun w => ?_
  · refine st_ifb ?_ ?_
    · refine st_if ?_ ?_
      · refine st_bd (e_trim sA ([97, 98, 99, 100, 101, 102, 103, 104, 105, 106, 107, 108, 109, 110, 111, 112, 113, 114, 115, 116, 117, 118, 119, 120, 121, 122, 48, 49, 50, 51, 52, 53, 54, 55, 56, 57, 45, 95] : List UInt8)) fun rA => ?_
        refine st_gS ?_
        refine st_if ?_ ?_
        · refine st_bd (eStringsContainsFunc sA tPathIsNameF1 (fn1 := 82) (cap1 := []) rfl (fun u1 => Sm.at (atStringsIndexInPathIsNameF1 _) (ePathIsNameF1 u1))) fun rA1 => ?_
          refine st_gB ?_
          exact st_some (rfl)
        · exact st_some (rfl)
      · exact st_some (rfl)
    · exact st_some (rfl)
  · refine st_gC (st_gB (st_gN ?_))
    exact st_some (rfl)
theorem ePathInnerF1 (sA : List UInt8) : Sm MV.b (dPathInnerF1 (.s sA)) (tPathInnerF1 sA) := by
  unfold dPathInnerF1 tPathInnerF1
  refine st_gS ?_
  refine st_bd (ePathIsName sA) fun rA => ?_
  refine st_gB ?_
  exact st_some (rfl)
theorem eSlicesIndexFuncString (sA : List (List UInt8)) (f : (List UInt8) → Option Bool) {fn1 : Nat} {cap1 : List MV} (hgf : gv fn1 = false) (hcfSlicesIndexFuncString : ∀ (u0 : List UInt8), Sm MV.b (preSlicesIndexFuncString fn1 ([.s u0] ++ cap1)) (f u0)) : Sm (MV.i .i64) (dSlicesIndexFuncString (.list (sA.map MV.s)) (.func fn1 cap1)) (tSlicesIndexFuncString sA f) := by
  unfold dSlicesIndexFuncString tSlicesIndexFuncString
  refine st_gL (st_gRf (st_len (n := sA.length) (by simp only [List.length_map, List.length_cons, List.length_nil]) ?_))
  refine st_bd (st_loop (fun r => [.i .i64 r]) (Sum.elim (fun r => (2, [])) (fun r => (1, [.i .i64 r]))) (rfl) fun st => ?_) fun w => ?_
  · unfold tSlicesIndexFuncStringL1
    refine st_gC (st_gI (st_gN ?_))
    refine st_if ?_ ?_
    · refine st_idx (f := MV.s) (rfl) fun y => ?_
      refine st_gS (st_gFn (st_tt (by rw [hgf]; rfl) ?_))
      refine st_bd (hcfSlicesIndexFuncString y) fun rA => ?_
      refine st_gB ?_
      refine st_ifb ?_ ?_
      · exact st_some (rfl)
      · exact st_some (rfl)
    · exact st_some (rfl)
  · rcases w with p1 | p2
    · refine st_ifT rfl (st_gN ?_)
      exact st_some (rfl)
    · refine st_ifF rfl (st_tt rfl (st_gC (st_gI (st_gN ?_))))
      exact st_some (rfl)
theorem eSlicesContainsFuncString (sA : List (List UInt8)) (f : (List UInt8) → Option Bool) {fn1 : Nat} {cap1 : List MV} (hgf : gv fn1 = false) (hcfSlicesIndexFuncString : ∀ (u0 : List UInt8), Sm MV.b (preSlicesIndexFuncString fn1 ([.s u0] ++ cap1)) (f u0)) : Sm MV.b (dSlicesContainsFuncString (.list (sA.map MV.s)) (.func fn1 cap1)) (tSlicesContainsFuncString sA f) := by
  unfold dSlicesContainsFuncString tSlicesContainsFuncString
  refine st_gL (st_gRf ?_)
  refine st_bd (eSlicesIndexFuncString sA f hgf hcfSlicesIndexFuncString) fun rA => ?_
  refine st_gI ?_
  exact st_some (rfl)
theorem ePathInner (p : List UInt8) : Sm (fun r => .tup [.list (r.1.map MV.s), .b r.2]) (dPathInner (.s p)) (tPathInner p) := by
  unfold dPathInner tPathInner
  refine st_gS ?_
  refine st_bd (eStringsCutPrefix p ([47] : List UInt8)) fun rA => ?_
  refine st_gT (st_gC (st_gS (st_gC (st_gB (st_gN ?_)))))
  refine st_bd (f := fun r => [.b r]) ?_ fun w => ?_
  · refine st_ifb ?_ ?_
    · exact st_some (rfl)
    · exact st_some (rfl)
  · refine st_gC (st_gB (st_gN ?_))
    refine st_ifb ?_ ?_
    · exact st_some (rfl)
    · refine st_if ?_ ?_
      · exact st_some (rfl)
      · refine st_bd (e_split rA.1 ([47] : List UInt8)) fun rA1 => ?_
        refine st_gF ?_
        refine st_bd (f := fun r => [.list (r.1.map MV.s), .b r.2.1, .list (r.2.2.map MV.s)]) ?_ fun w1 => ?_
        · refine st_len (n := rA1.length) (by simp only [List.length_map, List.length_cons, List.length_nil]) ?_
          refine st_if ?_ ?_
          · refine st_bd (eSlicesContainsFuncString rA1 tPathInnerF1 (fn1 := 108) (cap1 := []) rfl (fun u1 => Sm.at (atSlicesIndexFuncStringPathInnerF1 _) (ePathInnerF1 u1))) fun rA2 => ?_
            refine st_gB ?_
            exact st_some (rfl)
          · exact st_some (rfl)
        · refine st_gC (st_gL (st_gC (st_gB (st_gC (st_gL (st_gN ?_))))))
          exact st_some (rfl)
theorem ePathRight (p : List UInt8) : Sm MV.b (dPathRight (.s p)) (tPathRight p) := by
  unfold dPathRight tPathRight
  refine st_gS ?_
  refine st_bd (ePathInner p) fun rA => ?_
  refine st_gT (st_gC (st_gL (st_gC (st_gB (st_gN ?_)))))
  exact st_some (rfl)
theorem eBytealgLastIndexByteString (sA : List UInt8) (c : Int) : Sm (MV.i .i64) (dBytealgLastIndexByteString (.s sA) (.i .u8 c)) (tBytealgLastIndexByteString sA c) := by
  unfold dBytealgLastIndexByteString tBytealgLastIndexByteString
  refine st_gS (st_gI ?_)
  refine st_bd (st_loop (fun r => [.i .i64 r]) (Sum.elim (fun r => (2, [])) (fun r => (1, [.i .i64 r]))) (rfl) fun st => ?_) fun w => ?_
  · unfold tBytealgLastIndexByteStringL1
    refine st_gC (st_gI (st_gN ?_))
    refine st_if ?_ ?_
    · refine st_chk ?_
      refine st_if ?_ ?_
      · exact st_some (rfl)
      · exact st_some (rfl)
    · exact st_some (rfl)
  · rcases w with p1 | p2
    · refine st_ifT rfl (st_gN ?_)
      exact st_some (rfl)
    · refine st_ifF rfl (st_tt rfl (st_gC (st_gI (st_gN ?_))))
      exact st_some (rfl)
theorem eBytealgHashStrRevString (sep : List UInt8) : Sm (fun r => .tup [.i .u32 r.1, .i .u32 r.2]) (dBytealgHashStrRevString (.s sep)) (tBytealgHashStrRevString sep) := by
  unfold dBytealgHashStrRevString tBytealgHashStrRevString
  refine st_gS ?_
  refine st_bd (st_loop (fun r => [.i .u32 r.1, .i .i64 r.2]) (fun r => (2, [.i .u32 r])) (rfl) fun st => ?_) fun w => ?_
  · unfold tBytealgHashStrRevStringL1
    refine st_gC (st_gI (st_gC (st_gI (st_gN ?_))))
    refine st_if ?_ ?_
    · refine st_chk ?_
      exact st_some (rfl)
    · exact st_some (rfl)
  · refine st_tt rfl (st_gC (st_gI (st_gN ?_)))
    refine st_bd (st_loop (fun r => [.i .u32 r.1, .i .u32 r.2.1, .i .i64 r.2.2]) (fun r => (4, [.i .u32 r])) (rfl) fun st1 => ?_) fun w1 => ?_
    · unfold tBytealgHashStrRevStringL2
      refine st_gC (st_gI (st_gC (st_gI (st_gC (st_gI (st_gN ?_))))))
      refine st_if ?_ ?_
      · exact st_none
      · exact st_some (rfl)
    · refine st_tt rfl (st_gC (st_gI (st_gN ?_)))
      exact st_some (rfl)
theorem eBytealgLastIndexRabinKarpString (a : List UInt8) (a1 : List UInt8) : Sm (MV.i .i64) (dBytealgLastIndexRabinKarpString (.s a) (.s a1)) (tBytealgLastIndexRabinKarpString a a1) := by
  unfold dBytealgLastIndexRabinKarpString tBytealgLastIndexRabinKarpString
  refine st_gS (st_gS ?_)
  refine st_bd (eBytealgHashStrRevString a1) fun rA => ?_
  refine st_gT (st_gC (st_gI (st_gC (st_gI (st_gN ?_)))))
  refine st_bd (st_loop (fun r => [.i .u32 r.1, .i .i64 r.2]) (fun r => (2, [.i .u32 r])) (rfl) fun st => ?_) fun w => ?_
  · unfold tBytealgLastIndexRabinKarpStringL1
    refine st_gC (st_gI (st_gC (st_gI (st_gN ?_))))
    refine st_if ?_ ?_
    · refine st_chk ?_
      exact st_some (rfl)
    · exact st_some (rfl)
  · refine st_tt rfl (st_gC (st_gI (st_gN ?_)))
    refine st_bd (f := fun r => [.b r]) ?_ fun w1 => ?_
    · refine st_if ?_ ?_
      · refine st_chk ?_
        exact st_some (rfl)
      · exact st_some (rfl)
    · refine st_gC (st_gB (st_gN ?_))
      refine st_ifb ?_ ?_
      · exact st_some (rfl)
      · refine st_bd (st_loop (fun r => [.i .u32 r.1, .i .i64 r.2]) (Sum.elim (fun r => (4, [])) (fun r => (1, [.i .i64 r]))) (rfl) fun st1 => ?_) fun w2 => ?_
        · unfold tBytealgLastIndexRabinKarpStringL2
          refine st_gC (st_gI (st_gC (st_gI (st_gN ?_))))
          refine st_if ?_ ?_
          · refine st_chk (st_chk ?_)
            refine st_bd (f := fun r => [.b r]) ?_ fun w3 => ?_
            · refine st_if ?_ ?_
              · refine st_chk ?_
                exact st_some (rfl)
              · exact st_some (rfl)
            · refine st_gC (st_gB (st_gN ?_))
              refine st_ifb ?_ ?_
              · exact st_some (rfl)
              · exact st_some (rfl)
          · exact st_some (rfl)
        · rcases w2 with p2 | p3
          · refine st_ifT rfl (st_gN ?_)
            exact st_some (rfl)
          · refine st_ifF rfl (st_tt rfl (st_gC (st_gI (st_gN ?_))))
            exact st_some (rfl)
theorem eStringsLastIndex (sA : List UInt8) (substr : List UInt8) : Sm (MV.i .i64) (dStringsLastIndex (.s sA) (.s substr)) (tStringsLastIndex sA substr) := by
  unfold dStringsLastIndex tStringsLastIndex
  refine st_gS (st_gS ?_)
  refine st_if ?_ ?_
  · exact st_some (rfl)
  · refine st_if ?_ ?_
    · refine st_chk ?_
      refine st_bd (eBytealgLastIndexByteString sA ((substr.getD (Int.toNat 0) 0).toNat : Int)) fun rA => ?_
      refine st_gI ?_
      exact st_some (rfl)
    · refine st_if ?_ ?_
      · refine st_if ?_ ?_
        · exact st_some (rfl)
        · exact st_some (rfl)
      · refine st_if ?_ ?_
        · exact st_some (rfl)
        · refine st_bd (eBytealgLastIndexRabinKarpString sA substr) fun rA1 => ?_
          refine st_gI ?_
          exact st_some (rfl)
theorem ePathParent (p : List UInt8) : Sm (fun r => .tup [.s r.1, .i .i64 r.2]) (dPathParent (.s p)) (tPathParent p) := by
  unfold dPathParent tPathParent
  refine st_gS ?_
  refine st_bd (ePathRight p) fun rA => ?_
  refine st_gB ?_
  refine st_ifb ?_ ?_
  · exact st_some (rfl)
  · refine st_if ?_ ?_
    · exact st_some (rfl)
    · refine st_bd (eStringsLastIndex p ([47] : List UInt8)) fun rA1 => ?_
      refine st_gI (st_chk ?_)
      exact st_some (rfl)
theorem eR08IsName (sA : List UInt8) : Sm MV.b (dR08IsName (.s sA)) (tR08IsName sA) := by
  unfold dR08IsName tR08IsName
  refine st_gS ?_
  refine st_bd (st_loop (fun r => [.i .i64 r]) (Sum.elim (fun r => (2, [])) (fun r => (1, [.b r]))) (rfl) fun st => ?_) fun w => ?_
  · unfold tR08IsNameL1
    refine st_gC (st_gI (st_gN ?_))
    refine st_if ?_ ?_
    · refine st_chk ?_
      refine st_bd (f := fun r => [.b r]) ?_ fun w1 => ?_
      · refine st_if ?_ ?_
        · refine st_if ?_ ?_
          · exact st_some (rfl)
          · refine st_if ?_ ?_
            · refine st_if ?_ ?_
              · exact st_some (rfl)
              · refine st_if ?_ ?_
                · exact st_some (rfl)
                · exact st_some (rfl)
            · refine st_if ?_ ?_
              · exact st_some (rfl)
              · exact st_some (rfl)
        · refine st_if ?_ ?_
          · refine st_if ?_ ?_
            · exact st_some (rfl)
            · refine st_if ?_ ?_
              · exact st_some (rfl)
              · exact st_some (rfl)
          · refine st_if ?_ ?_
            · exact st_some (rfl)
            · exact st_some (rfl)
      · refine st_gC (st_gB (st_gN ?_))
        refine st_ifb ?_ ?_
        · exact st_some (rfl)
        · exact st_some (rfl)
    · exact st_some (rfl)
  · rcases w with p1 | p2
    · refine st_ifT rfl (st_gN ?_)
      refine st_bd (f := fun r => [.b r]) ?_ fun w2 => ?_
      · refine st_if ?_ ?_
        · exact st_some (rfl)
        · exact st_some (rfl)
      · refine st_gC (st_gB (st_gN ?_))
        exact st_some (rfl)
    · refine st_ifF rfl (st_tt rfl (st_gC (st_gB (st_gN ?_))))
      exact st_some (rfl)
theorem eR08Cut (p : List UInt8) : Sm (fun r => .tup [.list (r.1.map MV.s), .b r.2]) (dR08Cut (.s p)) (tR08Cut p) := by
  unfold dR08Cut tR08Cut
  refine st_gS ?_
  refine st_bd (f := fun r => [.b r]) ?_ fun w => ?_
  · refine st_if ?_ ?_
    · exact st_some (rfl)
    · refine st_chk ?_
      exact st_some (rfl)
  · refine st_gC (st_gB (st_gN ?_))
    refine st_ifb ?_ ?_
    · exact st_some (rfl)
    · refine st_if ?_ ?_
      · exact st_some (rfl)
      · refine st_bd (st_loop (fun r => [.list (r.1.map MV.s), .s r.2.1, .i .i64 r.2.2]) (fun r => (2, [.list (r.1.map MV.s), .s r.2])) (rfl) fun st => ?_) fun w1 => ?_
        · unfold tR08CutL1
          refine st_gC (st_gL (st_gC (st_gS (st_gC (st_gI (st_gN ?_))))))
          refine st_if ?_ ?_
          · refine st_chk ?_
            refine st_bd (f := (fun r => (0, [.list (r.1.map MV.s), .s r.2]))) ?_ fun w2 => ?_
            · refine st_if ?_ ?_
              · refine st_len (n := st.1.length) (by simp only [List.length_map, List.length_cons, List.length_nil]) (st_len (n := ([st.2.1] : List (List UInt8)).length) (by simp only [List.length_map, List.length_cons, List.length_nil]) (st_chk ?_))
                exact st_some (by first | (simp only [Sum.elim_inl, Sum.elim_inr, List.map_replicate, List.map_append, List.map_cons, List.map_nil, List.map_take, List.map_drop, List.map_set]; done))
              · refine st_chk ?_
                refine st_bys (M := ([((p.getD (Int.toNat st.2.2) 0).toNat : Int)] : List Int)) (rfl) fun bs => ?_
                refine st_chk ?_
                exact st_some (rfl)
            · refine st_tt rfl (st_gC (st_gL (st_gC (st_gS (st_gN ?_)))))
              exact st_some (rfl)
          · exact st_some (rfl)
        · refine st_tt rfl (st_gC (st_gL (st_gC (st_gS (st_gN (st_len (n := w1.1.length) (by simp only [List.length_map, List.length_cons, List.length_nil]) (st_len (n := ([w1.2] : List (List UInt8)).length) (by simp only [List.length_map, List.length_cons, List.length_nil]) (st_chk ?_))))))))
          exact st_some (by first | (simp only [List.map_replicate, List.map_append, List.map_cons, List.map_nil, List.map_take, List.map_drop, List.map_set]; done))
theorem eR08Right (p : List UInt8) : Sm MV.b (dR08Right (.s p)) (tR08Right p) := by
  unfold dR08Right tR08Right
  refine st_gS ?_
  refine st_if ?_ ?_
  · exact st_some (rfl)
  · refine st_bd (eR08Cut p) fun rA => ?_
    refine st_gT (st_gC (st_gL (st_gC (st_gB (st_gN ?_)))))
    refine st_bd (st_loop (fun r => [.i .i64 r]) (Sum.elim (fun r => (2, [])) (fun r => (1, [.b r]))) (rfl) fun st => ?_) fun w => ?_
    · unfold tR08RightL1
      refine st_gC (st_gI (st_gN (st_len (n := rA.1.length) (by simp only [List.length_map, List.length_cons, List.length_nil]) ?_)))
      refine st_if ?_ ?_
      · refine st_idx (f := MV.s) (rfl) fun y => ?_
        refine st_gS ?_
        refine st_bd (eR08IsName y) fun rA1 => ?_
        refine st_gB ?_
        refine st_ifb ?_ ?_
        · exact st_some (rfl)
        · exact st_some (rfl)
      · exact st_some (rfl)
    · rcases w with p3 | p4
      · refine st_ifT rfl (st_gN ?_)
        refine st_bd (f := fun r => [.b r]) ?_ fun w1 => ?_
        · refine st_ifb ?_ ?_
          · refine st_len (n := rA.1.length) (by simp only [List.length_map, List.length_cons, List.length_nil]) ?_
            exact st_some (rfl)
          · exact st_some (rfl)
        · refine st_gC (st_gB (st_gN ?_))
          exact st_some (rfl)
      · refine st_ifF rfl (st_tt rfl (st_gC (st_gB (st_gN ?_))))
        exact st_some (rfl)
theorem eL11Few (t : WatchTable) : Sm MV.b (dL11Few (encWatchTable t)) (tL11Few t) := by
  unfold dL11Few tL11Few
  refine st_gA (st_gC (st_gL (st_gN ?_)))
  refine st_bd (st_loop (fun r => [.i .i64 r]) (Sum.elim (fun r => (2, [])) (fun r => (1, [.b r]))) (rfl) fun st => ?_) fun w => ?_
  · unfold tL11FewL1
    refine st_gC (st_gI (st_gN (st_len (n := t.L.length) (by simp only [List.length_map, List.length_cons, List.length_nil]) ?_)))
    refine st_if ?_ ?_
    · refine st_bd (f := fun r => [.b r]) ?_ fun w1 => ?_
      · refine st_if ?_ ?_
        · exact st_some (rfl)
        · refine st_idx (f := encWatchWatch) (rfl) fun y => ?_
          refine st_gA (st_gC (st_gS (st_gC (st_gI (st_gC (st_gB (st_gN ?_)))))))
          exact st_some (rfl)
      · refine st_gC (st_gB (st_gN ?_))
        refine st_ifb ?_ ?_
        · exact st_some (rfl)
        · exact st_some (rfl)
    · exact st_some (rfl)
  · rcases w with p1 | p2
    · refine st_ifT rfl (st_gN ?_)
      exact st_some (rfl)
    · refine st_ifF rfl (st_tt rfl (st_gC (st_gB (st_gN ?_))))
      exact st_some (rfl)
theorem eR11Has (lA : List R11Watch) (w : R11Watch) : Sm MV.b (dR11Has (.list (lA.map encR11Watch)) (encR11Watch w)) (tR11Has lA w) := by
  unfold dR11Has tR11Has
  refine st_gL (st_gA (st_gC (st_gS (st_gC (st_gI (st_gC (st_gB (st_gN ?_))))))))
  refine st_bd (st_loop (fun r => [.i .i64 r]) (Sum.elim (fun r => (2, [])) (fun r => (1, [.b r]))) (rfl) fun st => ?_) fun w1 => ?_
  · unfold tR11HasL1
    refine st_gC (st_gI (st_gN (st_len (n := lA.length) (by simp only [List.length_map, List.length_cons, List.length_nil]) ?_)))
    refine st_if ?_ ?_
    · refine st_idx (f := encR11Watch) (rfl) fun y => ?_
      refine st_gA (st_gC (st_gS (st_gC (st_gI (st_gC (st_gB (st_gN ?_)))))))
      refine st_ifb ?_ ?_
      · exact st_some (rfl)
      · exact st_some (rfl)
    · exact st_some (rfl)
  · rcases w1 with p1 | p2
    · refine st_ifT rfl (st_gN ?_)
      exact st_some (rfl)
    · refine st_ifF rfl (st_tt rfl (st_gC (st_gB (st_gN ?_))))
      exact st_some (rfl)
theorem eR11Right (t : R11Table) : Sm MV.b (dR11Right (encR11Table t)) (tR11Right t) := by
  unfold dR11Right tR11Right
  refine st_gA (st_gC (st_gL (st_gN ?_)))
  refine st_bd (st_loop (fun r => [.i .i64 r]) (Sum.elim (fun r => (2, [])) (fun r => (1, [.b r]))) (rfl) fun st => ?_) fun w => ?_
  · unfold tR11RightL1
    refine st_gC (st_gI (st_gN (st_len (n := t.L.length) (by simp only [List.length_map, List.length_cons, List.length_nil]) ?_)))
    refine st_if ?_ ?_
    · refine st_bd (f := fun r => [.b r]) ?_ fun w1 => ?_
      · refine st_idx (f := encR11Watch) (rfl) fun y => ?_
        refine st_gA (st_gC (st_gS (st_gC (st_gI (st_gC (st_gB (st_gN ?_)))))))
        refine st_bd (eR08Right y.Path) fun rA => ?_
        refine st_gB ?_
        refine st_ifb ?_ ?_
        · exact st_some (rfl)
        · refine st_idx (f := encR11Watch) (rfl) fun y1 => ?_
          refine st_gA (st_gC (st_gS (st_gC (st_gI (st_gC (st_gB (st_gN ?_)))))))
          refine st_if ?_ ?_
          · exact st_some (rfl)
          · refine st_len (n := t.L.length) (by simp only [List.length_map, List.length_cons, List.length_nil]) (st_chk ?_)
            refine st_idx (f := encR11Watch) (rfl) fun y2 => ?_
            refine st_gA (st_gC (st_gS (st_gC (st_gI (st_gC (st_gB (st_gN ?_)))))))
            refine st_bd (by simpa only [List.map_replicate, List.map_append, List.map_cons, List.map_nil, List.map_take, List.map_drop, List.map_set] using eR11Has (List.drop (Int.toNat 0) (List.take (Int.toNat st) t.L)) y2) fun rA1 => ?_
            refine st_gB ?_
            exact st_some (rfl)
      · refine st_gC (st_gB (st_gN ?_))
        refine st_ifb ?_ ?_
        · exact st_some (rfl)
        · exact st_some (rfl)
    · exact st_some (rfl)
  · rcases w with p1 | p2
    · refine st_ifT rfl (st_gN (st_len (n := t.L.length) (by simp only [List.length_map, List.length_cons, List.length_nil]) ?_))
      exact st_some (rfl)
    · refine st_ifF rfl (st_tt rfl (st_gC (st_gB (st_gN ?_))))
      exact st_some (rfl)
theorem eL11One (w : WatchWatch) : Sm encR11Watch (dL11One (encWatchWatch w)) (tL11One w) := by
  unfold dL11One tL11One
  refine st_gA (st_gC (st_gS (st_gC (st_gI (st_gC (st_gB (st_gN ?_)))))))
  exact st_some (rfl)
theorem eL11Plain (t : WatchTable) : Sm encR11Table (dL11Plain (encWatchTable t)) (tL11Plain t) := by
  unfold dL11Plain tL11Plain
  refine st_gA (st_gC (st_gL (st_gN ?_)))
  refine st_bd (st_loop (fun r => [.list (r.1.map encR11Watch), .i .i64 r.2]) (fun r => (2, [.list (r.map encR11Watch)])) (rfl) fun st => ?_) fun w => ?_
  · unfold tL11PlainL1
    refine st_gC (st_gL (st_gC (st_gI (st_gN (st_len (n := t.L.length) (by simp only [List.length_map, List.length_cons, List.length_nil]) ?_)))))
    refine st_if ?_ ?_
    · refine st_idx (f := encWatchWatch) (rfl) fun y => ?_
      refine st_gA (st_gC (st_gS (st_gC (st_gI (st_gC (st_gB (st_gN ?_)))))))
      refine st_bd (eL11One y) fun rA => ?_
      refine st_gA (st_gC (st_gS (st_gC (st_gI (st_gC (st_gB (st_gN (st_len (n := st.1.length) (by simp only [List.length_map, List.length_cons, List.length_nil]) (st_len (n := ([rA] : List R11Watch).length) (by simp only [List.length_map, List.length_cons, List.length_nil]) (st_chk ?_))))))))))
      exact st_some (by first | (simp only [Sum.map_inl, List.map_replicate, List.map_append, List.map_cons, List.map_nil, List.map_take, List.map_drop, List.map_set]; done) | (simp only [Sum.map_inl, List.map_replicate, List.map_append, List.map_cons, List.map_nil, List.map_take, List.map_drop, List.map_set, encWatchTable, lvWatchTable, encWatchWatch, lvWatchWatch, encR11Watch, lvR11Watch, encR11Table, lvR11Table]; done))
    · exact st_some (rfl)
  · refine st_tt rfl (st_gC (st_gL (st_gN ?_)))
    exact st_some (rfl)
theorem eL11Short (lA : List WatchChange) : Sm MV.b (dL11Short (.list (lA.map encWatchChange))) (tL11Short lA) := by
  unfold dL11Short tL11Short
  refine st_gL ?_
  refine st_bd (st_loop (fun r => [.i .i64 r]) (Sum.elim (fun r => (2, [])) (fun r => (1, [.b r]))) (rfl) fun st => ?_) fun w => ?_
  · unfold tL11ShortL1
    refine st_gC (st_gI (st_gN (st_len (n := lA.length) (by simp only [List.length_map, List.length_cons, List.length_nil]) ?_)))
    refine st_if ?_ ?_
    · refine st_bd (f := fun r => [.b r]) ?_ fun w1 => ?_
      · refine st_if ?_ ?_
        · exact st_some (rfl)
        · refine st_idx (f := encWatchChange) (rfl) fun y => ?_
          refine st_gA (st_gC (st_gI (st_gC (st_gS (st_gN ?_)))))
          exact st_some (rfl)
      · refine st_gC (st_gB (st_gN ?_))
        refine st_ifb ?_ ?_
        · exact st_some (rfl)
        · exact st_some (rfl)
    · exact st_some (rfl)
  · rcases w with p1 | p2
    · refine st_ifT rfl (st_gN ?_)
      exact st_some (rfl)
    · refine st_ifF rfl (st_tt rfl (st_gC (st_gB (st_gN ?_))))
      exact st_some (rfl)
theorem eWatchTouches (c : WatchChange) (w : WatchWatch) : Sm MV.b (dWatchTouches (encWatchChange c) (encWatchWatch w)) (tWatchTouches c w) := by
  unfold dWatchTouches tWatchTouches
  refine st_gA (st_gC (st_gI (st_gC (st_gS (st_gN (st_gA (st_gC (st_gS (st_gC (st_gI (st_gC ?_)))))))))))
  refine st_gB (st_gN ?_)
  refine st_bd (f := fun r => [.b r]) ?_ fun w1 => ?_
  · refine st_if ?_ ?_
    · exact st_some (rfl)
    · refine st_if ?_ ?_
      · exact st_some (rfl)
      · refine st_bd (ePathRight c.Path) fun rA => ?_
        refine st_gB ?_
        exact st_some (rfl)
  · refine st_gC (st_gB (st_gN ?_))
    refine st_ifb ?_ ?_
    · exact st_some (rfl)
    · refine st_ifb ?_ ?_
      · exact st_some (rfl)
      · refine st_bd (ePathParent c.Path) fun rA1 => ?_
        refine st_gT (st_gC (st_gS (st_gC (st_gI (st_gN ?_)))))
        refine st_bd (f := fun r => [.b r]) ?_ fun w2 => ?_
        · refine st_if ?_ ?_
          · refine st_ifb ?_ ?_
            · exact st_some (rfl)
            · exact st_some (rfl)
          · exact st_some (rfl)
        · refine st_gC (st_gB (st_gN ?_))
          exact st_some (rfl)
theorem eWatchFireF1 (w : WatchWatch) (c : WatchChange) (c1 : List WatchEvent) : Sm (fun r => .wback (MV.b r.1) [.list (r.2.map encWatchEvent)]) (dWatchFireF1 (encWatchWatch w) (.rp [.i .i64 c.Kind, .s c.Path]) [.list (c1.map encWatchEvent)]) (tWatchFireF1 w c c1) := by
  unfold dWatchFireF1 tWatchFireF1
  refine st_gA (st_gC (st_gS (st_gC (st_gI (st_gC (st_gB (st_gN (st_gP (st_gC (st_gI (st_gC ?_)))))))))))
  refine st_gS (st_gN (st_gC (st_gL (st_gN ?_))))
  refine st_bd (eWatchTouches c w) fun rA => ?_
  refine st_gB ?_
  refine st_bd (f := (fun r => (0, [.list (r.map encWatchEvent)]))) ?_ fun w1 => ?_
  · refine st_ifb ?_ ?_
    · refine st_len (n := c1.length) (by simp only [List.length_map, List.length_cons, List.length_nil]) (st_len (n := ([(⟨w, c⟩ : WatchEvent)] : List WatchEvent).length) (by simp only [List.length_map, List.length_cons, List.length_nil]) (st_chk ?_))
      exact st_some (by first | (simp only [Sum.elim_inl, Sum.elim_inr, List.map_replicate, List.map_append, List.map_cons, List.map_nil, List.map_take, List.map_drop, List.map_set]; done) | (simp only [Sum.elim_inl, Sum.elim_inr, List.map_replicate, List.map_append, List.map_cons, List.map_nil, List.map_take, List.map_drop, List.map_set, encWatchTable, lvWatchTable, encWatchWatch, lvWatchWatch, encR11Watch, lvR11Watch, encR11Table, lvR11Table, encWatchChange, lvWatchChange, encWatchEvent, lvWatchEvent]; done))
    · exact st_some (rfl)
  · refine st_tt rfl (st_gC (st_gL (st_gN ?_)))
    exact st_some (rfl)
theorem eWatchFire (t : WatchTable) (lA : List WatchChange) : Sm (fun r => .tup [encWatchTable r.1, .list (r.2.map encWatchEvent)]) (dWatchFire (encWatchTable t) (.list (lA.map encWatchChange))) (tWatchFire t lA) := by
  unfold dWatchFire tWatchFire
  refine st_gA (st_gC (st_gL (st_gN (st_gL ?_))))
  refine st_bd (e_clone (size := 3) (f := encWatchWatch) (fun _ => rfl) t.L) fun rA => ?_
  refine st_gF (st_len (n := lA.length) (by simp only [List.length_map, List.length_cons, List.length_nil]) ?_)
  refine st_bd (st_loop (fun r => [.list (r.1.map encWatchWatch), .list (r.2.1.map encWatchEvent), .i .i64 r.2.2]) (fun r => (2, [.list (r.1.map encWatchWatch), .list (r.2.map encWatchEvent)])) (rfl) fun st => ?_) fun w => ?_
  · unfold tWatchFireL1
    refine st_gC (st_gL (st_gC (st_gL (st_gC (st_gI (st_gN ?_))))))
    refine st_if ?_ ?_
    · refine st_idx (f := encWatchChange) (rfl) fun y => ?_
      refine st_gA (st_gC (st_gI (st_gC (st_gS (st_gN (st_tt (aggs_map (rfl : _ = List.map encWatchWatch st.1) fun _ => rfl) ?_))))))
      refine st_bd (e_delC (f := encWatchWatch) (lv := (fun sA => [.list (sA.map encWatchEvent)])) (caps := [.rp [.i .i64 y.Kind, .s y.Path]]) (fun u sA => Sm.at (atWatchFireWatchFireF1 (encWatchWatch u) (.rp [.i .i64 y.Kind, .s y.Path]) [.list (sA.map encWatchEvent)]) (eWatchFireF1 u y sA)) st.2.1 st.1) fun rA1 => ?_
      refine st_gC (st_gL (st_gN ?_))
      exact st_some (rfl)
    · exact st_some (rfl)
  · refine st_tt rfl (st_gC (st_gL (st_gC (st_gL (st_gN ?_)))))
    exact st_some (rfl)
theorem eSlicesIndexWatchWatch (sA : List WatchWatch) (v : WatchWatch) : Sm (MV.i .i64) (dSlicesIndexWatchWatch (.list (sA.map encWatchWatch)) (encWatchWatch v)) (tSlicesIndexWatchWatch sA v) := by
  unfold dSlicesIndexWatchWatch tSlicesIndexWatchWatch
  refine st_gL (st_gA (st_gC (st_gS (st_gC (st_gI (st_gC (st_gB (st_gN (st_len (n := sA.length) (by simp only [List.length_map, List.length_cons, List.length_nil]) ?_)))))))))
  refine st_bd (st_loop (fun r => [.i .i64 r]) (Sum.elim (fun r => (2, [])) (fun r => (1, [.i .i64 r]))) (rfl) fun st => ?_) fun w => ?_
  · unfold tSlicesIndexWatchWatchL1
    refine st_gC (st_gI (st_gN ?_))
    refine st_if ?_ ?_
    · refine st_idx (f := encWatchWatch) (rfl) fun y => ?_
      refine st_gA (st_gC (st_gS (st_gC (st_gI (st_gC (st_gB (st_gN ?_)))))))
      refine st_ifb ?_ ?_
      · exact st_some (rfl)
      · exact st_some (rfl)
    · exact st_some (rfl)
  · rcases w with p1 | p2
    · refine st_ifT rfl (st_gN ?_)
      exact st_some (rfl)
    · refine st_ifF rfl (st_tt rfl (st_gC (st_gI (st_gN ?_))))
      exact st_some (rfl)
theorem eSlicesContainsWatchWatch (sA : List WatchWatch) (v : WatchWatch) : Sm MV.b (dSlicesContainsWatchWatch (.list (sA.map encWatchWatch)) (encWatchWatch v)) (tSlicesContainsWatchWatch sA v) := by
  unfold dSlicesContainsWatchWatch tSlicesContainsWatchWatch
  refine st_gL (st_gA (st_gC (st_gS (st_gC (st_gI (st_gC (st_gB (st_gN ?_))))))))
  refine st_bd (eSlicesIndexWatchWatch sA v) fun rA => ?_
  refine st_gI ?_
  exact st_some (rfl)
theorem eWatchAdd (t : WatchTable) (w : WatchWatch) : Sm (fun r => .tup [encWatchTable r.1, .i .i64 r.2]) (dWatchAdd (encWatchTable t) (encWatchWatch w)) (tWatchAdd t w) := by
  unfold dWatchAdd tWatchAdd
  refine st_gA (st_gC (st_gL (st_gN (st_gA (st_gC (st_gS (st_gC (st_gI (st_gC (st_gB (st_gN ?_)))))))))))
  refine st_bd (ePathRight w.Path) fun rA => ?_
  refine st_gB ?_
  refine st_ifb ?_ ?_
  · exact st_some (rfl)
  · refine st_if ?_ ?_
    · exact st_some (rfl)
    · refine st_bd (eSlicesContainsWatchWatch t.L w) fun rA1 => ?_
      refine st_gB ?_
      refine st_ifb ?_ ?_
      · exact st_some (rfl)
      · refine st_len (n := t.L.length) (by simp only [List.length_map, List.length_cons, List.length_nil]) ?_
        refine st_if ?_ ?_
        · exact st_some (rfl)
        · refine st_both ?_
          refine st_bd (e_clone (size := 3) (f := encWatchWatch) (fun _ => rfl) t.L) fun rA2 => ?_
          refine st_gF (st_len (n := rA2.length) (by simp only [List.length_map, List.length_cons, List.length_nil]) (st_len (n := ([w] : List WatchWatch).length) (by simp only [List.length_map, List.length_cons, List.length_nil]) (st_chk ?_)))
          exact st_some (by first | (simp only [List.map_replicate, List.map_append, List.map_cons, List.map_nil, List.map_take, List.map_drop, List.map_set]; done) | (simp only [List.map_replicate, List.map_append, List.map_cons, List.map_nil, List.map_take, List.map_drop, List.map_set, encWatchTable, lvWatchTable, encWatchWatch, lvWatchWatch, encR11Watch, lvR11Watch, encR11Table, lvR11Table, encWatchChange, lvWatchChange, encWatchEvent, lvWatchEvent]; done))
theorem eL11Alive : Sm MV.b (dL11Alive) (tL11Alive) := by
  unfold dL11Alive tL11Alive
  refine st_bd (eWatchAdd (⟨([] : List WatchWatch)⟩ : WatchTable) (⟨([47, 97] : List UInt8), 1, true⟩ : WatchWatch)) fun rA => ?_
  refine st_gT (st_gC (st_gA (st_gC (st_gL (st_gN (st_gC (st_gI (st_gN ?_))))))))
  refine st_bd (eWatchFire rA.1 ([(⟨2, ([47, 97, 47, 98] : List UInt8)⟩ : WatchChange), (⟨1, ([47, 97, 47, 98] : List UInt8)⟩ : WatchChange)] : List WatchChange)) fun rA1 => ?_
  refine st_gT (st_gC (st_gA (st_gC (st_gL (st_gN (st_gC (st_gL (st_gN ?_))))))))
  refine st_bd (f := fun r => [.b r]) ?_ fun w => ?_
  · refine st_if ?_ ?_
    · refine st_len (n := rA.1.L.length) (by simp only [List.length_map, List.length_cons, List.length_nil]) ?_
      refine st_if ?_ ?_
      · refine st_len (n := rA1.1.L.length) (by simp only [List.length_map, List.length_cons, List.length_nil]) ?_
        refine st_if ?_ ?_
        · refine st_len (n := rA1.2.length) (by simp only [List.length_map, List.length_cons, List.length_nil]) ?_
          refine st_if ?_ ?_
          · refine st_idx (f := encWatchEvent) (rfl) fun y => ?_
            refine st_gA (st_gC (st_gS (st_gC (st_gI (st_gC (st_gB (st_gC (st_gI (st_gC (st_gS (st_gN ?_)))))))))))
            exact st_some (rfl)
          · exact st_some (rfl)
        · exact st_some (rfl)
      · exact st_some (rfl)
    · exact st_some (rfl)
  · refine st_gC (st_gB (st_gN ?_))
    exact st_some (rfl)
theorem eR11Events (a : List R11Event) (b : List R11Event) : Sm MV.b (dR11Events (.list (a.map encR11Event)) (.list (b.map encR11Event))) (tR11Events a b) := by
  unfold dR11Events tR11Events
  refine st_gL (st_gL (st_len (n := a.length) (by simp only [List.length_map, List.length_cons, List.length_nil]) (st_len (n := b.length) (by simp only [List.length_map, List.length_cons, List.length_nil]) ?_)))
  refine st_ifb ?_ ?_
  · exact st_some (rfl)
  · refine st_bd (st_loop (fun r => [.i .i64 r]) (Sum.elim (fun r => (2, [])) (fun r => (1, [.b r]))) (rfl) fun st => ?_) fun w => ?_
    · unfold tR11EventsL1
      refine st_gC (st_gI (st_gN (st_len (n := a.length) (by simp only [List.length_map, List.length_cons, List.length_nil]) ?_)))
      refine st_if ?_ ?_
      · refine st_idx (f := encR11Event) (rfl) fun y => ?_
        refine st_gA (st_gC (st_gS (st_gC (st_gI (st_gC (st_gB (st_gC (st_gI (st_gC (st_gS (st_gN ?_)))))))))))
        refine st_idx (f := encR11Event) (rfl) fun y1 => ?_
        refine st_gA (st_gC (st_gS (st_gC (st_gI (st_gC (st_gB (st_gC (st_gI (st_gC (st_gS (st_gN ?_)))))))))))
        refine st_ifb ?_ ?_
        · exact st_some (rfl)
        · exact st_some (rfl)
      · exact st_some (rfl)
    · rcases w with p1 | p2
      · refine st_ifT rfl (st_gN ?_)
        exact st_some (rfl)
      · refine st_ifF rfl (st_tt rfl (st_gC (st_gB (st_gN ?_))))
        exact st_some (rfl)
theorem eL11Events (lA : List WatchEvent) : Sm (encL encR11Event) (dL11Events (.list (lA.map encWatchEvent))) (tL11Events lA) := by
  unfold dL11Events tL11Events
  refine st_gL ?_
  refine st_bd (st_loop (fun r => [.list (r.1.map encR11Event), .i .i64 r.2]) (fun r => (2, [.list (r.map encR11Event)])) (rfl) fun st => ?_) fun w => ?_
  · unfold tL11EventsL1
    refine st_gC (st_gL (st_gC (st_gI (st_gN (st_len (n := lA.length) (by simp only [List.length_map, List.length_cons, List.length_nil]) ?_)))))
    refine st_if ?_ ?_
    · refine st_idx (f := encWatchEvent) (rfl) fun y => ?_
      refine st_gA (st_gC (st_gS (st_gC (st_gI (st_gC (st_gB (st_gC (st_gI (st_gC (st_gS (st_gN ?_)))))))))))
      refine st_idx (f := encWatchEvent) (rfl) fun y1 => ?_
      refine st_gA (st_gC (st_gS (st_gC (st_gI (st_gC (st_gB (st_gC (st_gI (st_gC (st_gS (st_gN ?_)))))))))))
      refine st_idx (f := encWatchEvent) (rfl) fun y2 => ?_
      refine st_gA (st_gC (st_gS (st_gC (st_gI (st_gC (st_gB (st_gC (st_gI (st_gC (st_gS (st_gN ?_)))))))))))
      refine st_bd (eL11One y.W) fun rA => ?_
      refine st_gA (st_gC (st_gS (st_gC (st_gI (st_gC (st_gB (st_gN (st_len (n := st.1.length) (by simp only [List.length_map, List.length_cons, List.length_nil]) (st_len (n := ([(⟨rA, (⟨y1.C.Kind, y2.C.Path⟩ : R11Change)⟩ : R11Event)] : List R11Event).length) (by simp only [List.length_map, List.length_cons, List.length_nil]) (st_chk ?_))))))))))
      exact st_some (by first | (simp only [Sum.map_inl, List.map_replicate, List.map_append, List.map_cons, List.map_nil, List.map_take, List.map_drop, List.map_set]; done) | (simp only [Sum.map_inl, List.map_replicate, List.map_append, List.map_cons, List.map_nil, List.map_take, List.map_drop, List.map_set, encWatchTable, lvWatchTable, encWatchWatch, lvWatchWatch, encR11Watch, lvR11Watch, encR11Table, lvR11Table, encWatchChange, lvWatchChange, encWatchEvent, lvWatchEvent, encR11Change, lvR11Change, encR11Event, lvR11Event]; done))
    · exact st_some (rfl)
  · refine st_tt rfl (st_gC (st_gL (st_gN ?_)))
    exact st_some (rfl)
theorem eWatchCancelF1 (w : WatchWatch) (c : Int) : Sm MV.b (dWatchCancelF1 (encWatchWatch w) (.rp [.i .i64 c])) (tWatchCancelF1 w c) := by
  unfold dWatchCancelF1 tWatchCancelF1
  refine st_gA (st_gC (st_gS (st_gC (st_gI (st_gC (st_gB (st_gN (st_gP (st_gC (st_gI (st_gN ?_)))))))))))
  exact st_some (rfl)
theorem eWatchCancel (t : WatchTable) (client : Int) : Sm encWatchTable (dWatchCancel (encWatchTable t) (.i .i64 client)) (tWatchCancel t client) := by
  unfold dWatchCancel tWatchCancel
  refine st_gA (st_gC (st_gL (st_gN (st_gI ?_))))
  refine st_bd (e_clone (size := 3) (f := encWatchWatch) (fun _ => rfl) t.L) fun rA => ?_
  refine st_gF (st_tt (aggs_map (rfl : _ = List.map encWatchWatch rA) fun _ => rfl) ?_)
  refine st_bd (e_delP (f := encWatchWatch) (caps := [.rp [.i .i64 client]]) (fun u => Sm.at (atWatchCancelWatchCancelF1 (encWatchWatch u) (.rp [.i .i64 client])) (eWatchCancelF1 u client)) rA) fun rA1 => ?_
  exact st_some (rfl)
theorem eL11WatchCancels (a : WatchTable) (a1 : WatchWatch) (a2 : List WatchChange) : Sm MV.b (dL11WatchCancels (encWatchTable a) (encWatchWatch a1) (.list (a2.map encWatchChange))) (tL11WatchCancels a a1 a2) := by
  unfold dL11WatchCancels tL11WatchCancels
  refine st_gA (st_gC (st_gL (st_gN (st_gA (st_gC (st_gS (st_gC (st_gI (st_gC (st_gB (st_gN ?_)))))))))))
  refine st_gL ?_
  refine st_bd (f := fun r => [.b r]) ?_ fun w => ?_
  · refine st_bd (eL11Few a) fun rA => ?_
    refine st_gB ?_
    refine st_ifb ?_ ?_
    · exact st_some (rfl)
    · refine st_bd (eL11Plain a) fun rA1 => ?_
      refine st_gA (st_gC (st_gL (st_gN ?_)))
      refine st_bd (eR11Right rA1) fun rA2 => ?_
      refine st_gB ?_
      refine st_ifb ?_ ?_
      · exact st_some (rfl)
      · refine st_bd (eL11Short a2) fun rA3 => ?_
        refine st_gB ?_
        refine st_ifb ?_ ?_
        · exact st_some (rfl)
        · exact st_some (rfl)
  · refine st_gC (st_gB (st_gN ?_))
    refine st_ifb ?_ ?_
    · refine st_bd (eL11Alive) fun rA4 => ?_
      refine st_gB ?_
      exact st_some (rfl)
    · refine st_bd (eWatchFire a a2) fun rA5 => ?_
      refine st_gT (st_gC (st_gA (st_gC (st_gL (st_gN (st_gC (st_gL (st_gN ?_))))))))
      refine st_bd (eWatchCancel a a1.Client) fun rA6 => ?_
      refine st_gA (st_gC (st_gL (st_gN ?_)))
      refine st_bd (eWatchFire rA6 a2) fun rA7 => ?_
      refine st_gT (st_gC (st_gA (st_gC (st_gL (st_gN (st_gC (st_gL (st_gN ?_))))))))
      refine st_bd (st_loop (fun r => [.list (r.1.map encWatchEvent), .i .i64 r.2]) (fun r => (2, [.list (r.map encWatchEvent)])) (rfl) fun st => ?_) fun w1 => ?_
      · unfold tL11WatchCancelsL1
        refine st_gC (st_gL (st_gC (st_gI (st_gN (st_len (n := rA5.2.length) (by simp only [List.length_map, List.length_cons, List.length_nil]) ?_)))))
        refine st_if ?_ ?_
        · refine st_idx (f := encWatchEvent) (rfl) fun y => ?_
          refine st_gA (st_gC (st_gS (st_gC (st_gI (st_gC (st_gB (st_gC (st_gI (st_gC (st_gS (st_gN ?_)))))))))))
          refine st_bd (f := (fun r => (0, [.list (r.map encWatchEvent)]))) ?_ fun w2 => ?_
          · refine st_ifb ?_ ?_
            · refine st_idx (f := encWatchEvent) (rfl) fun y1 => ?_
              refine st_gA (st_gC (st_gS (st_gC (st_gI (st_gC (st_gB (st_gC (st_gI (st_gC (st_gS (st_gN ?_)))))))))))
              refine st_len (n := st.1.length) (by simp only [List.length_map, List.length_cons, List.length_nil]) (st_len (n := ([y1] : List WatchEvent).length) (by simp only [List.length_map, List.length_cons, List.length_nil]) (st_chk ?_))
              exact st_some (by first | (simp only [Sum.elim_inl, Sum.elim_inr, List.map_replicate, List.map_append, List.map_cons, List.map_nil, List.map_take, List.map_drop, List.map_set]; done) | (simp only [Sum.elim_inl, Sum.elim_inr, List.map_replicate, List.map_append, List.map_cons, List.map_nil, List.map_take, List.map_drop, List.map_set, encWatchTable, lvWatchTable, encWatchWatch, lvWatchWatch, encR11Watch, lvR11Watch, encR11Table, lvR11Table, encWatchChange, lvWatchChange, encWatchEvent, lvWatchEvent, encR11Change, lvR11Change, encR11Event, lvR11Event]; done))
            · exact st_some (rfl)
          · refine st_tt rfl (st_gC (st_gL (st_gN ?_)))
            exact st_some (rfl)
        · exact st_some (rfl)
      · refine st_tt rfl (st_gC (st_gL (st_gN ?_)))
        refine st_bd (eWatchAdd a a1) fun rA8 => ?_
        refine st_gT (st_gC (st_gA (st_gC (st_gL (st_gN (st_gC (st_gI (st_gN ?_))))))))
        refine st_bd (eWatchFire rA8.1 a2) fun rA9 => ?_
        refine st_gT (st_gC (st_gA (st_gC (st_gL (st_gN (st_gC (st_gL (st_gN ?_))))))))
        refine st_bd (st_loop (fun r => [.b r.1, .i .i64 r.2]) (fun r => (4, [.b r])) (rfl) fun st1 => ?_) fun w3 => ?_
        · unfold tL11WatchCancelsL2
          refine st_gC (st_gB (st_gC (st_gI (st_gN (st_len (n := a2.length) (by simp only [List.length_map, List.length_cons, List.length_nil]) ?_)))))
          refine st_if ?_ ?_
          · refine st_bd (f := fun r => [.b r]) ?_ fun w4 => ?_
            · refine st_ifb ?_ ?_
              · exact st_some (rfl)
              · refine st_idx (f := encWatchChange) (rfl) fun y2 => ?_
                refine st_gA (st_gC (st_gI (st_gC (st_gS (st_gN ?_)))))
                refine st_bd (eWatchTouches y2 a1) fun rA10 => ?_
                refine st_gB ?_
                exact st_some (rfl)
            · refine st_gC (st_gB (st_gN ?_))
              exact st_some (rfl)
          · exact st_some (rfl)
        · refine st_tt rfl (st_gC (st_gB (st_gN ?_)))
          refine st_bd (st_loop (fun r => [.b r.1, .i .i64 r.2]) (fun r => (6, [.b r])) (rfl) fun st2 => ?_) fun w5 => ?_
          · unfold tL11WatchCancelsL3
            refine st_gC (st_gB (st_gC (st_gI (st_gN (st_len (n := rA9.2.length) (by simp only [List.length_map, List.length_cons, List.length_nil]) ?_)))))
            refine st_if ?_ ?_
            · refine st_bd (f := fun r => [.b r]) ?_ fun w6 => ?_
              · refine st_ifb ?_ ?_
                · exact st_some (rfl)
                · refine st_idx (f := encWatchEvent) (rfl) fun y3 => ?_
                  refine st_gA (st_gC (st_gS (st_gC (st_gI (st_gC (st_gB (st_gC (st_gI (st_gC (st_gS (st_gN ?_)))))))))))
                  exact st_some (rfl)
              · refine st_gC (st_gB (st_gN ?_))
                exact st_some (rfl)
            · exact st_some (rfl)
          · refine st_tt rfl (st_gC (st_gB (st_gN ?_)))
            refine st_bd (f := fun r => [.b r]) ?_ fun w7 => ?_
            · refine st_bd (eL11Alive) fun rA11 => ?_
              refine st_gB ?_
              refine st_ifb ?_ ?_
              · refine st_bd (eL11Events rA7.2) fun rA12 => ?_
                refine st_gL ?_
                refine st_bd (eL11Events w1) fun rA13 => ?_
                refine st_gL ?_
                refine st_bd (eR11Events rA12 rA13) fun rA14 => ?_
                refine st_gB ?_
                refine st_ifb ?_ ?_
                · refine st_ifb ?_ ?_
                  · exact st_some (rfl)
                  · refine st_if ?_ ?_
                    · refine st_len (n := rA9.1.L.length) (by simp only [List.length_map, List.length_cons, List.length_nil]) (st_len (n := rA9.2.length) (by simp only [List.length_map, List.length_cons, List.length_nil]) (st_len (n := rA8.1.L.length) (by simp only [List.length_map, List.length_cons, List.length_nil]) ?_))
                      exact st_some (rfl)
                    · exact st_some (rfl)
                · exact st_some (rfl)
              · exact st_some (rfl)
            · refine st_gC (st_gB (st_gN ?_))
              exact st_some (rfl)
end Dn.S
