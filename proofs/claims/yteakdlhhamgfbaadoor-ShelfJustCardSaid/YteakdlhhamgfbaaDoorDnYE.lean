import Derived.Test.YteakdlhhamgfbaaDoorDnYD
/-
  Typed and plain functions agree. Conditions: none.
-/
open Go Dn
set_option linter.unusedVariables false
set_option linter.unusedSimpArgs false
set_option maxRecDepth 100000
namespace Dn.S
theorem eStringsliteHasPrefix (sA : List UInt8) (prefixA : List UInt8) : Sm MV.b (dStringsliteHasPrefix (.s sA) (.s prefixA)) (tStringsliteHasPrefix sA prefixA) := by
  unfold dStringsliteHasPrefix tStringsliteHasPrefix
  refine st_gS (st_gS ?_)
  refine st_bd (f := fun r => [.b r]) ?_ fun w => ?_
  · refine st_if ?_ ?_
    · refine st_chk ?_
      exact st_some (rfl)
    · exact st_some (rfl)
  · refine st_gC (st_gB (st_gN ?_))
    exact st_some (rfl)
theorem eStringsliteCutPrefix (sA : List UInt8) (prefixA : List UInt8) : Sm (fun r => .tup [.s r.1, .b r.2]) (dStringsliteCutPrefix (.s sA) (.s prefixA)) (tStringsliteCutPrefix sA prefixA) := by
  unfold dStringsliteCutPrefix tStringsliteCutPrefix
  refine st_gS (st_gS ?_)
  refine st_bd (eStringsliteHasPrefix sA prefixA) fun rA => ?_
  refine st_gB ?_
  refine st_ifb ?_ ?_
  · exact st_some (rfl)
  · refine st_chk ?_
    exact st_some (rfl)
theorem eStringsCutPrefix (sA : List UInt8) (prefixA : List UInt8) : Sm (fun r => .tup [.s r.1, .b r.2]) (dStringsCutPrefix (.s sA) (.s prefixA)) (tStringsCutPrefix sA prefixA) := by
  unfold dStringsCutPrefix tStringsCutPrefix
  refine st_gS (st_gS ?_)
  refine st_bd (eStringsliteCutPrefix sA prefixA) fun rA => ?_
  refine st_gT (st_gC (st_gS (st_gC (st_gB (st_gN ?_)))))
  exact st_some (rfl)
theorem ePathIsNameF1 (c : Int) : Sm MV.b (dPathIsNameF1 (.i .i32 c)) (tPathIsNameF1 c) := by
  unfold dPathIsNameF1 tPathIsNameF1
  refine st_gI ?_
  refine st_bd (e_hasRune ([97, 98, 99, 100, 101, 102, 103, 104, 105, 106, 107, 108, 109, 110, 111, 112, 113, 114, 115, 116, 117, 118, 119, 120, 121, 122, 48, 49, 50, 51, 52, 53, 54, 55, 56, 57, 45, 95] : List UInt8) c) fun rA => ?_
  refine st_gB ?_
  exact st_some (rfl)
theorem eStringsIndexIn (sA : List UInt8) (f : Int → Option Bool) (truth : Bool) {fn1 : Nat} {cap1 : List MV} (hgf : gv fn1 = false) (hcfStringsIndexIn : ∀ (u0 : Int), Sm MV.b (preStringsIndexIn fn1 ([.i .i32 u0] ++ cap1)) (f u0)) : Sm (MV.i .i64) (dStringsIndexIn (.s sA) (.func fn1 cap1) (.b truth)) (tStringsIndexIn sA f truth) := by
  unfold dStringsIndexIn tStringsIndexIn
  refine st_gS (st_gRf (st_gB ?_))
  refine st_bd (st_loop (fun r => [.list r]) (Sum.elim (fun r => (2, [])) (fun r => (1, [.i .i64 r]))) (rfl) fun st => ?_) fun w => ?_
  · unfold tStringsIndexInL1
    refine st_gC (st_gL (st_gN ?_))
    refine st_ifb ?_ ?_
    · refine st_gFn (st_tt (by rw [hgf]; rfl) ?_)
      refine st_bd (hcfStringsIndexIn (itRune st)) fun rA => ?_
      refine st_gB ?_
      refine st_if ?_ ?_
      · exact st_some (rfl)
      · exact st_some (rfl)
    · exact st_some (rfl)
  · rcases w with p1 | p2
    · refine st_ifT rfl (st_gN ?_)
      exact st_some (rfl)
    · refine st_ifF rfl (st_tt rfl (st_gC (st_gI (st_gN ?_))))
      exact st_some (rfl)
theorem eStringsIndexFunc (sA : List UInt8) (f : Int → Option Bool) {fn1 : Nat} {cap1 : List MV} (hgf : gv fn1 = false) (hcfStringsIndexIn : ∀ (u0 : Int), Sm MV.b (preStringsIndexIn fn1 ([.i .i32 u0] ++ cap1)) (f u0)) : Sm (MV.i .i64) (dStringsIndexFunc (.s sA) (.func fn1 cap1)) (tStringsIndexFunc sA f) := by
  unfold dStringsIndexFunc tStringsIndexFunc
  refine st_gS (st_gRf ?_)
  refine st_bd (eStringsIndexIn sA f true hgf hcfStringsIndexIn) fun rA => ?_
  refine st_gI ?_
  exact st_some (rfl)
theorem eStringsContainsFunc (sA : List UInt8) (f : Int → Option Bool) {fn1 : Nat} {cap1 : List MV} (hgf : gv fn1 = false) (hcfStringsIndexIn : ∀ (u0 : Int), Sm MV.b (preStringsIndexIn fn1 ([.i .i32 u0] ++ cap1)) (f u0)) : Sm MV.b (dStringsContainsFunc (.s sA) (.func fn1 cap1)) (tStringsContainsFunc sA f) := by
  unfold dStringsContainsFunc tStringsContainsFunc
  refine st_gS (st_gRf ?_)
  refine st_bd (eStringsIndexFunc sA f hgf hcfStringsIndexIn) fun rA => ?_
  refine st_gI ?_
  exact st_some (rfl)
theorem ePathIsName (sA : List UInt8) : Sm MV.b (dPathIsName (.s sA)) (tPathIsName sA) := by
  unfold dPathIsName tPathIsName
  refine st_gS ?_
  refine st_bd (f := fun r => [.b r]) ?_ fun w => ?_
  · refine st_ifb ?_ ?_
    · refine st_if ?_ ?_
      · refine st_bd (e_trim sA ([97, 98, 99, 100, 101, 102, 103, 104, 105, 106, 107, 108, 109, 110, 111, 112, 113, 114, 115, 116, 117, 118, 119, 120, 121, 122, 48, 49, 50, 51, 52, 53, 54, 55, 56, 57, 45, 95] : List UInt8)) fun rA => ?_
        refine st_gS ?_
        refine st_if ?_ ?_
        · refine st_bd (eStringsContainsFunc sA tPathIsNameF1 (fn1 := 82) (cap1 := []) rfl (fun u1 => Sm.at (atStringsIndexInPathIsNameF1 _) (ePathIsNameF1 u1))) fun rA1 => ?_
          refine st_gB ?_
          exact st_some (rfl)
        · exact st_some (rfl)
      · exact st_some (rfl)
    · exact st_some (rfl)
  · refine st_gC (st_gB (st_gN ?_))
    exact st_some (rfl)
theorem ePathInnerF1 (sA : List UInt8) : Sm MV.b (dPathInnerF1 (.s sA)) (tPathInnerF1 sA) := by
  unfold dPathInnerF1 tPathInnerF1
  refine st_gS ?_
  refine st_bd (ePathIsName sA) fun rA => ?_
  refine st_gB ?_
  exact st_some (rfl)
theorem eSlicesIndexFuncString (sA : List (List UInt8)) (f : (List UInt8) → Option Bool) {fn1 : Nat} {cap1 : List MV} (hgf : gv fn1 = false) (hcfSlicesIndexFuncString : ∀ (u0 : List UInt8), Sm MV.b (preSlicesIndexFuncString fn1 ([.s u0] ++ cap1)) (f u0)) : Sm (MV.i .i64) (dSlicesIndexFuncString (.list (sA.map MV.s)) (.func fn1 cap1)) (tSlicesIndexFuncString sA f) := by
  unfold dSlicesIndexFuncString tSlicesIndexFuncString
  refine st_gL (st_gRf (st_len (n := sA.length) (by simp only [List.length_map, List.length_cons, List.length_nil]) ?_))
  refine st_bd (st_loop (fun r => [.i .i64 r]) (Sum.elim (fun r => (2, [])) (fun r => (1, [.i .i64 r]))) (rfl) fun st => ?_) fun w => ?_
  · unfold tSlicesIndexFuncStringL1
    refine st_gC (st_gI (st_gN ?_))
    refine st_if ?_ ?_
    · refine st_idx (f := MV.s) (rfl) fun y => ?_
      refine st_gS (st_gFn (st_tt (by rw [hgf]; rfl) ?_))
      refine st_bd (hcfSlicesIndexFuncString y) fun rA => ?_
      refine st_gB ?_
      refine st_ifb ?_ ?_
      · exact st_some (rfl)
      · exact st_some (rfl)
    · exact st_some (rfl)
  · rcases w with p1 | p2
    · refine st_ifT rfl (st_gN ?_)
      exact st_some (rfl)
    · refine st_ifF rfl (st_tt rfl (st_gC (st_gI (st_gN ?_))))
      exact st_some (rfl)
theorem eSlicesContainsFuncString (sA : List (List UInt8)) (f : (List UInt8) → Option Bool) {fn1 : Nat} {cap1 : List MV} (hgf : gv fn1 = false) (hcfSlicesIndexFuncString : ∀ (u0 : List UInt8), Sm MV.b (preSlicesIndexFuncString fn1 ([.s u0] ++ cap1)) (f u0)) : Sm MV.b (dSlicesContainsFuncString (.list (sA.map MV.s)) (.func fn1 cap1)) (tSlicesContainsFuncString sA f) := by
  unfold dSlicesContainsFuncString tSlicesContainsFuncString
  refine st_gL (st_gRf ?_)
  refine st_bd (eSlicesIndexFuncString sA f hgf hcfSlicesIndexFuncString) fun rA => ?_
  refine st_gI ?_
  exact st_some (rfl)
theorem ePathInner (p : List UInt8) : Sm (fun r => .tup [.list (r.1.map MV.s), .b r.2]) (dPathInner (.s p)) (tPathInner p) := by
  unfold dPathInner tPathInner
  refine st_gS ?_
  refine st_bd (eStringsCutPrefix p ([47] : List UInt8)) fun rA => ?_
  refine st_gT (st_gC (st_gS (st_gC (st_gB (st_gN ?_)))))
  refine st_bd (f := fun r => [.b r]) ?_ fun w => ?_
  · refine st_ifb ?_ ?_
    · exact st_some (rfl)
    · exact st_some (rfl)
  · refine st_gC (st_gB (st_gN ?_))
    refine st_ifb ?_ ?_
    · exact st_some (rfl)
    · refine st_if ?_ ?_
      · exact st_some (rfl)
      · refine st_bd (e_split rA.1 ([47] : List UInt8)) fun rA1 => ?_
        refine st_gF ?_
        refine st_bd (f := fun r => [.list (r.1.map MV.s), .b r.2.1, .list (r.2.2.map MV.s)]) ?_ fun w1 => ?_
        · refine st_len (n := rA1.length) (by simp only [List.length_map, List.length_cons, List.length_nil]) ?_
          refine st_if ?_ ?_
          · refine st_bd (eSlicesContainsFuncString rA1 tPathInnerF1 (fn1 := 108) (cap1 := []) rfl (fun u1 => Sm.at (atSlicesIndexFuncStringPathInnerF1 _) (ePathInnerF1 u1))) fun rA2 => ?_
            refine st_gB ?_
            exact st_some (rfl)
          · exact st_some (rfl)
        · refine st_gC (st_gL (st_gC (st_gB (st_gC (st_gL (st_gN ?_))))))
          exact st_some (rfl)
theorem ePathRight (p : List UInt8) : Sm MV.b (dPathRight (.s p)) (tPathRight p) := by
  unfold dPathRight tPathRight
  refine st_gS ?_
  refine st_bd (ePathInner p) fun rA => ?_
  refine st_gT (st_gC (st_gL (st_gC (st_gB (st_gN ?_)))))
  exact st_some (rfl)
theorem eBytealgLastIndexByteString (sA : List UInt8) (c : Int) : Sm (MV.i .i64) (dBytealgLastIndexByteString (.s sA) (.i .u8 c)) (tBytealgLastIndexByteString sA c) := by
  unfold dBytealgLastIndexByteString tBytealgLastIndexByteString
  refine st_gS (st_gI ?_)
  refine st_bd (st_loop (fun r => [.i .i64 r]) (Sum.elim (fun r => (2, [])) (fun r => (1, [.i .i64 r]))) (rfl) fun st => ?_) fun w => ?_
  · unfold tBytealgLastIndexByteStringL1
    refine st_gC (st_gI (st_gN ?_))
    refine st_if ?_ ?_
    · refine st_chk ?_
      refine st_if ?_ ?_
      · exact st_some (rfl)
      · exact st_some (rfl)
    · exact st_some (rfl)
  · rcases w with p1 | p2
    · refine st_ifT rfl (st_gN ?_)
      exact st_some (rfl)
    · refine st_ifF rfl (st_tt rfl (st_gC (st_gI (st_gN ?_))))
      exact st_some (rfl)
theorem eBytealgHashStrRevString (sep : List UInt8) : Sm (fun r => .tup [.i .u32 r.1, .i .u32 r.2]) (dBytealgHashStrRevString (.s sep)) (tBytealgHashStrRevString sep) := by
  unfold dBytealgHashStrRevString tBytealgHashStrRevString
  refine st_gS ?_
  refine st_bd (st_loop (fun r => [.i .u32 r.1, .i .i64 r.2]) (fun r => (2, [.i .u32 r])) (rfl) fun st => ?_) fun w => ?_
  · unfold tBytealgHashStrRevStringL1
    refine st_gC (st_gI (st_gC (st_gI (st_gN ?_))))
    refine st_if ?_ ?_
    · refine st_chk ?_
      exact st_some (rfl)
    · exact st_some (rfl)
  · refine st_tt rfl (st_gC (st_gI (st_gN ?_)))
    refine st_bd (st_loop (fun r => [.i .u32 r.1, .i .u32 r.2.1, .i .i64 r.2.2]) (fun r => (4, [.i .u32 r])) (rfl) fun st1 => ?_) fun w1 => ?_
    · unfold tBytealgHashStrRevStringL2
      refine st_gC (st_gI (st_gC (st_gI (st_gC (st_gI (st_gN ?_))))))
      refine st_if ?_ ?_
      · exact st_none
      · exact st_some (rfl)
    · refine st_tt rfl (st_gC (st_gI (st_gN ?_)))
      exact st_some (rfl)
theorem eBytealgLastIndexRabinKarpString (a : List UInt8) (a1 : List UInt8) : Sm (MV.i .i64) (dBytealgLastIndexRabinKarpString (.s a) (.s a1)) (tBytealgLastIndexRabinKarpString a a1) := by
  unfold dBytealgLastIndexRabinKarpString tBytealgLastIndexRabinKarpString
  refine st_gS (st_gS ?_)
  refine st_bd (eBytealgHashStrRevString a1) fun rA => ?_
  refine st_gT (st_gC (st_gI (st_gC (st_gI (st_gN ?_)))))
  refine st_bd (st_loop (fun r => [.i .u32 r.1, .i .i64 r.2]) (fun r => (2, [.i .u32 r])) (rfl) fun st => ?_) fun w => ?_
  · unfold tBytealgLastIndexRabinKarpStringL1
    refine st_gC (st_gI (st_gC (st_gI (st_gN ?_))))
    refine st_if ?_ ?_
    · refine st_chk ?_
      exact st_some (rfl)
    · exact st_some (rfl)
  · refine st_tt rfl (st_gC (st_gI (st_gN ?_)))
    refine st_bd (f := fun r => [.b r]) ?_ fun w1 => ?_
    · refine st_if ?_ ?_
      · refine st_chk ?_
        exact st_some (rfl)
      · exact st_some (rfl)
    · refine st_gC (st_gB (st_gN ?_))
      refine st_ifb ?_ ?_
      · exact st_some (rfl)
      · refine st_bd (st_loop (fun r => [.i .u32 r.1, .i .i64 r.2]) (Sum.elim (fun r => (4, [])) (fun r => (1, [.i .i64 r]))) (rfl) fun st1 => ?_) fun w2 => ?_
        · unfold tBytealgLastIndexRabinKarpStringL2
          refine st_gC (st_gI (st_gC (st_gI (st_gN ?_))))
          refine st_if ?_ ?_
          · refine st_chk (st_chk ?_)
            refine st_bd (f := fun r => [.b r]) ?_ fun w3 => ?_
            · refine st_if ?_ ?_
              · refine st_chk ?_
                exact st_some (rfl)
              · exact st_some (rfl)
            · refine st_gC (st_gB (st_gN ?_))
              refine st_ifb ?_ ?_
              · exact st_some (rfl)
              · exact st_some (rfl)
          · exact st_some (rfl)
        · rcases w2 with p2 | p3
          · refine st_ifT rfl (st_gN ?_)
            exact st_some (rfl)
          · refine st_ifF rfl (st_tt rfl (st_gC (st_gI (st_gN ?_))))
            exact st_some (rfl)
theorem eStringsLastIndex (sA : List UInt8) (substr : List UInt8) : Sm (MV.i .i64) (dStringsLastIndex (.s sA) (.s substr)) (tStringsLastIndex sA substr) := by
  unfold dStringsLastIndex tStringsLastIndex
  refine st_gS (st_gS ?_)
  refine st_if ?_ ?_
  · exact st_some (rfl)
  · refine st_if ?_ ?_
    · refine st_chk ?_
      refine st_bd (eBytealgLastIndexByteString sA ((substr.getD (Int.toNat 0) 0).toNat : Int)) fun rA => ?_
      refine st_gI ?_
      exact st_some (rfl)
    · refine st_if ?_ ?_
      · refine st_if ?_ ?_
        · exact st_some (rfl)
        · exact st_some (rfl)
      · refine st_if ?_ ?_
        · exact st_some (rfl)
        · refine st_bd (eBytealgLastIndexRabinKarpString sA substr) fun rA1 => ?_
          refine st_gI ?_
          exact st_some (rfl)
theorem ePathParent (p : List UInt8) : Sm (fun r => .tup [.s r.1, .i .i64 r.2]) (dPathParent (.s p)) (tPathParent p) := by
  unfold dPathParent tPathParent
  refine st_gS ?_
  refine st_bd (ePathRight p) fun rA => ?_
  refine st_gB ?_
  refine st_ifb ?_ ?_
  · exact st_some (rfl)
  · refine st_if ?_ ?_
    · exact st_some (rfl)
    · refine st_bd (eStringsLastIndex p ([47] : List UInt8)) fun rA1 => ?_
      refine st_gI (st_chk ?_)
      exact st_some (rfl)
theorem eCmpIsNaNString (x : List UInt8) : Sm MV.b (dCmpIsNaNString (.s x)) (tCmpIsNaNString x) := by
  unfold dCmpIsNaNString tCmpIsNaNString
  refine st_gS ?_
  exact st_some (rfl)
theorem eCmpCompareString (x : List UInt8) (y : List UInt8) : Sm (MV.i .i64) (dCmpCompareString (.s x) (.s y)) (tCmpCompareString x y) := by
  unfold dCmpCompareString tCmpCompareString
  refine st_gS (st_gS ?_)
  refine st_bd (eCmpIsNaNString x) fun rA => ?_
  refine st_gB ?_
  refine st_bd (eCmpIsNaNString y) fun rA1 => ?_
  refine st_gB ?_
  refine st_ifb ?_ ?_
  · refine st_ifb ?_ ?_
    · exact st_some (rfl)
    · exact st_some (rfl)
  · refine st_ifb ?_ ?_
    · exact st_some (rfl)
    · refine st_ifb ?_ ?_
      · exact st_some (rfl)
      · refine st_ifb ?_ ?_
        · exact st_some (rfl)
        · exact st_some (rfl)
theorem eSlicesCompareString (s1 : List (List UInt8)) (s2 : List (List UInt8)) : Sm (MV.i .i64) (dSlicesCompareString (.list (s1.map MV.s)) (.list (s2.map MV.s))) (tSlicesCompareString s1 s2) := by
  unfold dSlicesCompareString tSlicesCompareString
  refine st_gL (st_gL (st_len (n := s1.length) (by simp only [List.length_map, List.length_cons, List.length_nil]) ?_))
  refine st_bd (st_loop (fun r => [.i .i64 r]) (Sum.elim (fun r => (2, [])) (fun r => (1, [.i .i64 r]))) (rfl) fun st => ?_) fun w => ?_
  · unfold tSlicesCompareStringL1
    refine st_gC (st_gI (st_gN ?_))
    refine st_if ?_ ?_
    · refine st_idx (f := MV.s) (rfl) fun y => ?_
      refine st_gS (st_len (n := s2.length) (by simp only [List.length_map, List.length_cons, List.length_nil]) ?_)
      refine st_if ?_ ?_
      · exact st_some (rfl)
      · refine st_idx (f := MV.s) (rfl) fun y1 => ?_
        refine st_gS ?_
        refine st_bd (eCmpCompareString y y1) fun rA => ?_
        refine st_gI ?_
        refine st_ifb ?_ ?_
        · exact st_some (rfl)
        · exact st_some (rfl)
    · exact st_some (rfl)
  · rcases w with p1 | p2
    · refine st_ifT rfl (st_gN (st_len (n := s1.length) (by simp only [List.length_map, List.length_cons, List.length_nil]) (st_len (n := s2.length) (by simp only [List.length_map, List.length_cons, List.length_nil]) ?_)))
      refine st_if ?_ ?_
      · exact st_some (rfl)
      · exact st_some (rfl)
    · refine st_ifF rfl (st_tt rfl (st_gC (st_gI (st_gN ?_))))
      exact st_some (rfl)
theorem ePathAhead (p : List UInt8) (q : List UInt8) : Sm MV.b (dPathAhead (.s p) (.s q)) (tPathAhead p q) := by
  unfold dPathAhead tPathAhead
  refine st_gS (st_gS ?_)
  refine st_bd (ePathInner p) fun rA => ?_
  refine st_gT (st_gC (st_gL (st_gC (st_gB (st_gN ?_)))))
  refine st_bd (ePathInner q) fun rA1 => ?_
  refine st_gT (st_gC (st_gL (st_gC (st_gB (st_gN ?_)))))
  refine st_bd (f := fun r => [.b r]) ?_ fun w => ?_
  · refine st_ifb ?_ ?_
    · refine st_ifb ?_ ?_
      · refine st_bd (eSlicesCompareString rA.1 rA1.1) fun rA2 => ?_
        refine st_gI ?_
        exact st_some (rfl)
      · exact st_some (rfl)
    · exact st_some (rfl)
  · refine st_gC (st_gB (st_gN ?_))
    exact st_some (rfl)
theorem eR08IsName (sA : List UInt8) : Sm MV.b (dR08IsName (.s sA)) (tR08IsName sA) := by
  unfold dR08IsName tR08IsName
  refine st_gS ?_
  refine st_bd (st_loop (fun r => [.i .i64 r]) (Sum.elim (fun r => (2, [])) (fun r => (1, [.b r]))) (rfl) fun st => ?_) fun w => ?_
  · unfold tR08IsNameL1
    refine st_gC (st_gI (st_gN ?_))
    refine st_if ?_ ?_
    · refine st_chk ?_
      refine st_bd (f := fun r => [.b r]) ?_ fun w1 => ?_
      · refine st_if ?_ ?_
        · refine st_if ?_ ?_
          · exact st_some (rfl)
          · refine st_if ?_ ?_
            · refine st_if ?_ ?_
              · exact st_some (rfl)
              · refine st_if ?_ ?_
                · exact st_some (rfl)
                · exact st_some (rfl)
            · refine st_if ?_ ?_
              · exact st_some (rfl)
              · exact st_some (rfl)
        · refine st_if ?_ ?_
          · refine st_if ?_ ?_
            · exact st_some (rfl)
            · refine st_if ?_ ?_
              · exact st_some (rfl)
              · exact st_some (rfl)
          · refine st_if ?_ ?_
            · exact st_some (rfl)
            · exact st_some (rfl)
      · refine st_gC (st_gB (st_gN ?_))
        refine st_ifb ?_ ?_
        · exact st_some (rfl)
        · exact st_some (rfl)
    · exact st_some (rfl)
  · rcases w with p1 | p2
    · refine st_ifT rfl (st_gN ?_)
      refine st_bd (f := fun r => [.b r]) ?_ fun w2 => ?_
      · refine st_if ?_ ?_
        · exact st_some (rfl)
        · exact st_some (rfl)
      · refine st_gC (st_gB (st_gN ?_))
        exact st_some (rfl)
    · refine st_ifF rfl (st_tt rfl (st_gC (st_gB (st_gN ?_))))
      exact st_some (rfl)
theorem eR08Cut (p : List UInt8) : Sm (fun r => .tup [.list (r.1.map MV.s), .b r.2]) (dR08Cut (.s p)) (tR08Cut p) := by
  unfold dR08Cut tR08Cut
  refine st_gS ?_
  refine st_bd (f := fun r => [.b r]) ?_ fun w => ?_
  · refine st_if ?_ ?_
    · exact st_some (rfl)
    · refine st_chk ?_
      exact st_some (rfl)
  · refine st_gC (st_gB (st_gN ?_))
    refine st_ifb ?_ ?_
    · exact st_some (rfl)
    · refine st_if ?_ ?_
      · exact st_some (rfl)
      · refine st_bd (st_loop (fun r => [.list (r.1.map MV.s), .s r.2.1, .i .i64 r.2.2]) (fun r => (2, [.list (r.1.map MV.s), .s r.2])) (rfl) fun st => ?_) fun w1 => ?_
        · unfold tR08CutL1
          refine st_gC (st_gL (st_gC (st_gS (st_gC (st_gI (st_gN ?_))))))
          refine st_if ?_ ?_
          · refine st_chk ?_
            refine st_bd (f := (fun r => (0, [.list (r.1.map MV.s), .s r.2]))) ?_ fun w2 => ?_
            · refine st_if ?_ ?_
              · refine st_len (n := st.1.length) (by simp only [List.length_map, List.length_cons, List.length_nil]) (st_len (n := ([st.2.1] : List (List UInt8)).length) (by simp only [List.length_map, List.length_cons, List.length_nil]) (st_chk ?_))
                exact st_some (by first | (simp only [Sum.elim_inl, Sum.elim_inr, List.map_append, List.map_cons, List.map_nil, List.map_take, List.map_drop, List.map_set]; done))
              · refine st_chk ?_
                refine st_bys (M := ([((p.getD (Int.toNat st.2.2) 0).toNat : Int)] : List Int)) (rfl) fun bs => ?_
                refine st_chk ?_
                exact st_some (rfl)
            · refine st_tt rfl (st_gC (st_gL (st_gC (st_gS (st_gN ?_)))))
              exact st_some (rfl)
          · exact st_some (rfl)
        · refine st_tt rfl (st_gC (st_gL (st_gC (st_gS (st_gN (st_len (n := w1.1.length) (by simp only [List.length_map, List.length_cons, List.length_nil]) (st_len (n := ([w1.2] : List (List UInt8)).length) (by simp only [List.length_map, List.length_cons, List.length_nil]) (st_chk ?_))))))))
          exact st_some (by first | (simp only [List.map_append, List.map_cons, List.map_nil, List.map_take, List.map_drop, List.map_set]; done))
theorem eR08Right (p : List UInt8) : Sm MV.b (dR08Right (.s p)) (tR08Right p) := by
  unfold dR08Right tR08Right
  refine st_gS ?_
  refine st_if ?_ ?_
  · exact st_some (rfl)
  · refine st_bd (eR08Cut p) fun rA => ?_
    refine st_gT (st_gC (st_gL (st_gC (st_gB (st_gN ?_)))))
    refine st_bd (st_loop (fun r => [.i .i64 r]) (Sum.elim (fun r => (2, [])) (fun r => (1, [.b r]))) (rfl) fun st => ?_) fun w => ?_
    · unfold tR08RightL1
      refine st_gC (st_gI (st_gN (st_len (n := rA.1.length) (by simp only [List.length_map, List.length_cons, List.length_nil]) ?_)))
      refine st_if ?_ ?_
      · refine st_idx (f := MV.s) (rfl) fun y => ?_
        refine st_gS ?_
        refine st_bd (eR08IsName y) fun rA1 => ?_
        refine st_gB ?_
        refine st_ifb ?_ ?_
        · exact st_some (rfl)
        · exact st_some (rfl)
      · exact st_some (rfl)
    · rcases w with p3 | p4
      · refine st_ifT rfl (st_gN ?_)
        refine st_bd (f := fun r => [.b r]) ?_ fun w1 => ?_
        · refine st_ifb ?_ ?_
          · refine st_len (n := rA.1.length) (by simp only [List.length_map, List.length_cons, List.length_nil]) ?_
            exact st_some (rfl)
          · exact st_some (rfl)
        · refine st_gC (st_gB (st_gN ?_))
          exact st_some (rfl)
      · refine st_ifF rfl (st_tt rfl (st_gC (st_gB (st_gN ?_))))
        exact st_some (rfl)
theorem eR08Names (p : List UInt8) : Sm (fun r => .tup [.list (r.1.map MV.s), .i .i64 r.2]) (dR08Names (.s p)) (tR08Names p) := by
  unfold dR08Names tR08Names
  refine st_gS ?_
  refine st_bd (eR08Right p) fun rA => ?_
  refine st_gB ?_
  refine st_ifb ?_ ?_
  · exact st_some (rfl)
  · refine st_bd (eR08Cut p) fun rA1 => ?_
    refine st_gT (st_gC (st_gL (st_gC (st_gB (st_gN ?_)))))
    exact st_some (rfl)
theorem eR08Made (lA : List (List UInt8)) : Sm MV.s (dR08Made (.list (lA.map MV.s))) (tR08Made lA) := by
  unfold dR08Made tR08Made
  refine st_gL ?_
  refine st_bd (st_loop (fun r => [.s r.1, .i .i64 r.2]) (fun r => (2, [.s r])) (rfl) fun st => ?_) fun w => ?_
  · unfold tR08MadeL1
    refine st_gC (st_gS (st_gC (st_gI (st_gN (st_len (n := lA.length) (by simp only [List.length_map, List.length_cons, List.length_nil]) ?_)))))
    refine st_if ?_ ?_
    · refine st_chk ?_
      refine st_idx (f := MV.s) (rfl) fun y => ?_
      refine st_gS (st_chk ?_)
      exact st_some (rfl)
    · exact st_some (rfl)
  · refine st_tt rfl (st_gC (st_gS (st_gN ?_)))
    refine st_if ?_ ?_
    · exact st_some (rfl)
    · exact st_some (rfl)
theorem eR08Parent (p : List UInt8) : Sm (fun r => .tup [.s r.1, .i .i64 r.2]) (dR08Parent (.s p)) (tR08Parent p) := by
  unfold dR08Parent tR08Parent
  refine st_gS ?_
  refine st_bd (eR08Names p) fun rA => ?_
  refine st_gT (st_gC (st_gL (st_gC (st_gI (st_gN ?_)))))
  refine st_ifb ?_ ?_
  · exact st_some (rfl)
  · refine st_len (n := rA.1.length) (by simp only [List.length_map, List.length_cons, List.length_nil]) ?_
    refine st_if ?_ ?_
    · exact st_some (rfl)
    · refine st_len (n := rA.1.length) (by simp only [List.length_map, List.length_cons, List.length_nil]) (st_len (n := rA.1.length) (by simp only [List.length_map, List.length_cons, List.length_nil]) (st_chk ?_))
      refine st_bd (by simpa only [List.map_append, List.map_cons, List.map_nil, List.map_take, List.map_drop, List.map_set] using eR08Made (List.drop (Int.toNat 0) (List.take (Int.toNat (IntKind.wrap .i64 ((rA.1.length : Int) - 1))) rA.1))) fun rA1 => ?_
      refine st_gS ?_
      exact st_some (rfl)
theorem eSlicesEqualString (s1 : List (List UInt8)) (s2 : List (List UInt8)) : Sm MV.b (dSlicesEqualString (.list (s1.map MV.s)) (.list (s2.map MV.s))) (tSlicesEqualString s1 s2) := by
  unfold dSlicesEqualString tSlicesEqualString
  refine st_gL (st_gL (st_len (n := s1.length) (by simp only [List.length_map, List.length_cons, List.length_nil]) (st_len (n := s2.length) (by simp only [List.length_map, List.length_cons, List.length_nil]) ?_)))
  refine st_ifb ?_ ?_
  · exact st_some (rfl)
  · refine st_len (n := s1.length) (by simp only [List.length_map, List.length_cons, List.length_nil]) ?_
    refine st_bd (st_loop (fun r => [.i .i64 r]) (Sum.elim (fun r => (2, [])) (fun r => (1, [.b r]))) (rfl) fun st => ?_) fun w => ?_
    · unfold tSlicesEqualStringL1
      refine st_gC (st_gI (st_gN ?_))
      refine st_if ?_ ?_
      · refine st_idx (f := MV.s) (rfl) fun y => ?_
        refine st_gS ?_
        refine st_idx (f := MV.s) (rfl) fun y1 => ?_
        refine st_gS ?_
        refine st_ifb ?_ ?_
        · exact st_some (rfl)
        · exact st_some (rfl)
      · exact st_some (rfl)
    · rcases w with p1 | p2
      · refine st_ifT rfl (st_gN ?_)
        exact st_some (rfl)
      · refine st_ifF rfl (st_tt rfl (st_gC (st_gB (st_gN ?_))))
        exact st_some (rfl)
theorem ePathBelow (p : List UInt8) (q : List UInt8) : Sm MV.b (dPathBelow (.s p) (.s q)) (tPathBelow p q) := by
  unfold dPathBelow tPathBelow
  refine st_gS (st_gS ?_)
  refine st_bd (ePathInner p) fun rA => ?_
  refine st_gT (st_gC (st_gL (st_gC (st_gB (st_gN ?_)))))
  refine st_bd (ePathInner q) fun rA1 => ?_
  refine st_gT (st_gC (st_gL (st_gC (st_gB (st_gN ?_)))))
  refine st_bd (f := fun r => [.b r]) ?_ fun w => ?_
  · refine st_ifb ?_ ?_
    · refine st_ifb ?_ ?_
      · refine st_len (n := rA1.1.length) (by simp only [List.length_map, List.length_cons, List.length_nil]) (st_len (n := rA.1.length) (by simp only [List.length_map, List.length_cons, List.length_nil]) ?_)
        refine st_if ?_ ?_
        · refine st_len (n := rA.1.length) (by simp only [List.length_map, List.length_cons, List.length_nil]) (st_len (n := rA1.1.length) (by simp only [List.length_map, List.length_cons, List.length_nil]) (st_chk ?_))
          refine st_bd (by simpa only [List.map_append, List.map_cons, List.map_nil, List.map_take, List.map_drop, List.map_set] using eSlicesEqualString rA.1 (List.drop (Int.toNat 0) (List.take (Int.toNat (rA.1.length : Int)) rA1.1))) fun rA2 => ?_
          refine st_gB ?_
          exact st_some (rfl)
        · exact st_some (rfl)
      · exact st_some (rfl)
    · exact st_some (rfl)
  · refine st_gC (st_gB (st_gN ?_))
    exact st_some (rfl)
theorem eL09Few (sA : ShelfShelf) : Sm MV.b (dL09Few (encShelfShelf sA)) (tL09Few sA) := by
  unfold dL09Few tL09Few
  refine st_gA (st_gC (st_gL (st_gN ?_)))
  refine st_bd (st_loop (fun r => [.i .i64 r]) (Sum.elim (fun r => (2, [])) (fun r => (1, [.b r]))) (rfl) fun st => ?_) fun w => ?_
  · unfold tL09FewL1
    refine st_gC (st_gI (st_gN (st_len (n := sA.L.length) (by simp only [List.length_map, List.length_cons, List.length_nil]) ?_)))
    refine st_if ?_ ?_
    · refine st_bd (f := fun r => [.b r]) ?_ fun w1 => ?_
      · refine st_if ?_ ?_
        · exact st_some (rfl)
        · refine st_idx (f := encShelfNode) (rfl) fun y => ?_
          refine st_gA (st_gC (st_gS (st_gC (st_gS (st_gC (st_gI (st_gC (st_gI (st_gN ?_)))))))))
          refine st_if ?_ ?_
          · exact st_some (rfl)
          · refine st_idx (f := encShelfNode) (rfl) fun y1 => ?_
            refine st_gA (st_gC (st_gS (st_gC (st_gS (st_gC (st_gI (st_gC (st_gI (st_gN ?_)))))))))
            exact st_some (rfl)
      · refine st_gC (st_gB (st_gN ?_))
        refine st_ifb ?_ ?_
        · exact st_some (rfl)
        · exact st_some (rfl)
    · exact st_some (rfl)
  · rcases w with p1 | p2
    · refine st_ifT rfl (st_gN ?_)
      exact st_some (rfl)
    · refine st_ifF rfl (st_tt rfl (st_gC (st_gB (st_gN ?_))))
      exact st_some (rfl)
theorem eShelfNew : Sm encShelfShelf (dShelfNew) (tShelfNew) := by
  unfold dShelfNew tShelfNew
  exact st_some (rfl)
theorem eShelfShelfPlaceF1 (n : ShelfNode) (p : List UInt8) : Sm (MV.i .i64) (dShelfShelfPlaceF1 (encShelfNode n) (.s p)) (tShelfShelfPlaceF1 n p) := by
  unfold dShelfShelfPlaceF1 tShelfShelfPlaceF1
  refine st_gA (st_gC (st_gS (st_gC (st_gS (st_gC (st_gI (st_gC (st_gI (st_gN (st_gS ?_))))))))))
  refine st_if ?_ ?_
  · exact st_some (rfl)
  · refine st_bd (ePathAhead n.Path p) fun rA => ?_
    refine st_gB ?_
    refine st_ifb ?_ ?_
    · exact st_some (rfl)
    · exact st_some (rfl)
theorem eSlicesBinarySearchFuncShelfNodeString (x : List ShelfNode) (target : List UInt8) (cmp : ShelfNode → (List UInt8) → Option Int) {fn2 : Nat} {cap2 : List MV} (hgcmp : gv fn2 = false) (hccmpSlicesBinarySearchFuncShelfNodeString : ∀ (u0 : ShelfNode) (u1 : List UInt8), Sm (MV.i .i64) (preSlicesBinarySearchFuncShelfNodeString fn2 ([encShelfNode u0, .s u1] ++ cap2)) (cmp u0 u1)) : Sm (fun r => .tup [.i .i64 r.1, .b r.2]) (dSlicesBinarySearchFuncShelfNodeString (.list (x.map encShelfNode)) (.s target) (.func fn2 cap2)) (tSlicesBinarySearchFuncShelfNodeString x target cmp) := by
  unfold dSlicesBinarySearchFuncShelfNodeString tSlicesBinarySearchFuncShelfNodeString
  refine st_gL (st_gS (st_gRf (st_len (n := x.length) (by simp only [List.length_map, List.length_cons, List.length_nil]) ?_)))
  refine st_bd (st_loop (fun r => [.i .i64 r.1, .i .i64 r.2]) (fun r => (2, [.i .i64 r])) (rfl) fun st => ?_) fun w => ?_
  · unfold tSlicesBinarySearchFuncShelfNodeStringL1
    refine st_gC (st_gI (st_gC (st_gI (st_gN ?_))))
    refine st_if ?_ ?_
    · refine st_chk ?_
      refine st_idx (f := encShelfNode) (rfl) fun y => ?_
      refine st_gA (st_gC (st_gS (st_gC (st_gS (st_gC (st_gI (st_gC (st_gI (st_gN (st_gFn (st_tt (by rw [hgcmp]; rfl) ?_)))))))))))
      refine st_bd (hccmpSlicesBinarySearchFuncShelfNodeString y target) fun rA => ?_
      refine st_gI ?_
      refine st_bd (f := (fun r => (0, [.i .i64 r.1, .i .i64 r.2]))) ?_ fun w1 => ?_
      · refine st_if ?_ ?_
        · exact st_some (rfl)
        · exact st_some (rfl)
      · refine st_tt rfl (st_gC (st_gI (st_gC (st_gI (st_gN ?_)))))
        exact st_some (rfl)
    · exact st_some (rfl)
  · refine st_tt rfl (st_gC (st_gI (st_gN ?_)))
    refine st_bd (f := fun r => [.i .i64 r.1, .b r.2]) ?_ fun w2 => ?_
    · refine st_if ?_ ?_
      · refine st_idx (f := encShelfNode) (rfl) fun y1 => ?_
        refine st_gA (st_gC (st_gS (st_gC (st_gS (st_gC (st_gI (st_gC (st_gI (st_gN (st_gFn (st_tt (by rw [hgcmp]; rfl) ?_)))))))))))
        refine st_bd (hccmpSlicesBinarySearchFuncShelfNodeString y1 target) fun rA1 => ?_
        refine st_gI ?_
        exact st_some (rfl)
      · exact st_some (rfl)
    · refine st_gC (st_gI (st_gC (st_gB (st_gN ?_))))
      exact st_some (rfl)
theorem eShelfShelfPlace (sA : ShelfShelf) (p : List UInt8) : Sm (fun r => .tup [.i .i64 r.1, .b r.2]) (dShelfShelfPlace (encShelfShelf sA) (.s p)) (tShelfShelfPlace sA p) := by
  unfold dShelfShelfPlace tShelfShelfPlace
  refine st_gA (st_gC (st_gL (st_gN (st_gS ?_))))
  refine st_bd (eSlicesBinarySearchFuncShelfNodeString sA.L p tShelfShelfPlaceF1 (fn2 := 127) (cap2 := []) rfl (fun u2 u3 => Sm.at (atSlicesBinarySearchFuncShelfNodeStringShelfShelfPlaceF1 _ _) (eShelfShelfPlaceF1 u2 u3))) fun rA => ?_
  refine st_gT (st_gC (st_gI (st_gC (st_gB (st_gN ?_)))))
  exact st_some (rfl)
theorem eShelfShelfFind (sA : ShelfShelf) (p : List UInt8) : Sm (fun r => .tup [.i .i64 r.1, .i .i64 r.2]) (dShelfShelfFind (encShelfShelf sA) (.s p)) (tShelfShelfFind sA p) := by
  unfold dShelfShelfFind tShelfShelfFind
  refine st_gA (st_gC (st_gL (st_gN (st_gS ?_))))
  refine st_bd (ePathRight p) fun rA => ?_
  refine st_gB ?_
  refine st_ifb ?_ ?_
  · exact st_some (rfl)
  · refine st_bd (eShelfShelfPlace sA p) fun rA1 => ?_
    refine st_gT (st_gC (st_gI (st_gC (st_gB (st_gN ?_)))))
    refine st_ifb ?_ ?_
    · exact st_some (rfl)
    · exact st_some (rfl)
theorem eShelfGet (sA : ShelfShelf) (p : List UInt8) : Sm (fun r => .tup [encShelfNode r.1, .i .i64 r.2]) (dShelfGet (encShelfShelf sA) (.s p)) (tShelfGet sA p) := by
  unfold dShelfGet tShelfGet
  refine st_gA (st_gC (st_gL (st_gN (st_gS ?_))))
  refine st_bd (eShelfShelfFind sA p) fun rA => ?_
  refine st_gT (st_gC (st_gI (st_gC (st_gI (st_gN ?_)))))
  refine st_ifb ?_ ?_
  · exact st_some (rfl)
  · refine st_idx (f := encShelfNode) (rfl) fun y => ?_
    refine st_gA (st_gC (st_gS (st_gC (st_gS (st_gC (st_gI (st_gC (st_gI (st_gN ?_)))))))))
    exact st_some (rfl)
theorem eShelfCreateF1 (c : List UInt8) (c1 : Bool) (c2 : ShelfShelf) (c3 : List UInt8) (c4 : Int) : Sm (MV.i .i64) (dShelfCreateF1 (.rp [.s c]) (.rp [.b c1]) (.rp [.list (c2.L.map encShelfNode)]) (.rp [.s c3]) (.rp [.i .i64 c4])) (tShelfCreateF1 c c1 c2 c3 c4) := by
  unfold dShelfCreateF1 tShelfCreateF1
  refine st_gP (st_gC (st_gS (st_gN (st_gP (st_gC (st_gB (st_gN (st_gP (st_gC (st_gL (st_gN ?_)))))))))))
  refine st_gP (st_gC (st_gS (st_gN (st_gP (st_gC (st_gI (st_gN ?_)))))))
  refine st_bd (ePathRight c) fun rA => ?_
  refine st_gB ?_
  refine st_ifb ?_ ?_
  · exact st_some (rfl)
  · refine st_ifb ?_ ?_
    · exact st_some (rfl)
    · refine st_bd (ePathParent c) fun rA1 => ?_
      refine st_gT (st_gC (st_gS (st_gC (st_gI (st_gN ?_)))))
      refine st_bd (eShelfGet c2 rA1.1) fun rA2 => ?_
      refine st_gT (st_gC (st_gA (st_gC (st_gS (st_gC (st_gS (st_gC (st_gI (st_gC (st_gI (st_gN ?_)))))))))))
      refine st_gC (st_gI (st_gN ?_))
      refine st_ifb ?_ ?_
      · exact st_some (rfl)
      · refine st_ifb ?_ ?_
        · exact st_some (rfl)
        · refine st_if ?_ ?_
          · exact st_some (rfl)
          · refine st_if ?_ ?_
            · exact st_some (rfl)
            · refine st_len (n := c2.L.length) (by simp only [List.length_map, List.length_cons, List.length_nil]) ?_
              refine st_if ?_ ?_
              · exact st_some (rfl)
              · exact st_some (rfl)
theorem eShelfCreate (sA : ShelfShelf) (p : List UInt8) (value : List UInt8) (owner : Int) : Sm (fun r => .tup [encShelfShelf r.1, .i .i64 r.2]) (dShelfCreate (encShelfShelf sA) (.s p) (.s value) (.i .i64 owner)) (tShelfCreate sA p value owner) := by
  unfold dShelfCreate tShelfCreate
  refine st_gA (st_gC (st_gL (st_gN (st_gS (st_gS (st_gI ?_))))))
  refine st_bd (eShelfShelfPlace sA p) fun rA => ?_
  refine st_gT (st_gC (st_gI (st_gC (st_gB (st_gN ?_)))))
  refine st_bd (eShelfCreateF1 p rA.2 sA value owner) fun rA1 => ?_
  refine st_gI ?_
  refine st_ifb ?_ ?_
  · exact st_some (rfl)
  · refine st_both ?_
    refine st_bd (e_clone (size := 4) (f := encShelfNode) (fun _ => rfl) sA.L) fun rA2 => ?_
    refine st_gF ?_
    refine st_bd (e_insert (f := encShelfNode) rA2 rA.1 ([(⟨p, value, 0, owner⟩ : ShelfNode)] : List ShelfNode)) fun rA3 => ?_
    refine st_gF ?_
    exact st_some (rfl)
theorem eL09Alive : Sm MV.b (dL09Alive) (tL09Alive) := by
  unfold dL09Alive tL09Alive
  refine st_bd (eShelfNew) fun rA => ?_
  refine st_gA (st_gC (st_gL (st_gN ?_)))
  refine st_bd (eShelfCreate rA ([47, 97] : List UInt8) ([120] : List UInt8) 0) fun rA1 => ?_
  refine st_gT (st_gC (st_gA (st_gC (st_gL (st_gN (st_gC (st_gI (st_gN ?_))))))))
  refine st_bd (eShelfCreate rA ([47, 97, 47, 98] : List UInt8) ([120] : List UInt8) 0) fun rA2 => ?_
  refine st_gT (st_gC (st_gA (st_gC (st_gL (st_gN (st_gC (st_gI (st_gN ?_))))))))
  refine st_bd (eShelfGet rA1.1 ([47, 97] : List UInt8)) fun rA3 => ?_
  refine st_gT (st_gC (st_gA (st_gC (st_gS (st_gC (st_gS (st_gC (st_gI (st_gC (st_gI (st_gN ?_)))))))))))
  refine st_gC (st_gI (st_gN ?_))
  refine st_bd (f := fun r => [.b r]) ?_ fun w => ?_
  · refine st_if ?_ ?_
    · refine st_if ?_ ?_
      · refine st_if ?_ ?_
        · refine st_if ?_ ?_
          · refine st_len (n := rA1.1.L.length) (by simp only [List.length_map, List.length_cons, List.length_nil]) ?_
            refine st_if ?_ ?_
            · refine st_len (n := rA.L.length) (by simp only [List.length_map, List.length_cons, List.length_nil]) ?_
              exact st_some (rfl)
            · exact st_some (rfl)
          · exact st_some (rfl)
        · exact st_some (rfl)
      · exact st_some (rfl)
    · exact st_some (rfl)
  · refine st_gC (st_gB (st_gN ?_))
    exact st_some (rfl)
theorem eR08Ahead (p : List UInt8) (q : List UInt8) : Sm MV.b (dR08Ahead (.s p) (.s q)) (tR08Ahead p q) := by
  unfold dR08Ahead tR08Ahead
  refine st_gS (st_gS ?_)
  refine st_bd (eR08Names p) fun rA => ?_
  refine st_gT (st_gC (st_gL (st_gC (st_gI (st_gN ?_)))))
  refine st_bd (eR08Names q) fun rA1 => ?_
  refine st_gT (st_gC (st_gL (st_gC (st_gI (st_gN ?_)))))
  refine st_bd (f := fun r => [.b r]) ?_ fun w => ?_
  · refine st_ifb ?_ ?_
    · exact st_some (rfl)
    · exact st_some (rfl)
  · refine st_gC (st_gB (st_gN ?_))
    refine st_ifb ?_ ?_
    · exact st_some (rfl)
    · refine st_bd (st_loop (fun r => [.i .i64 r]) (Sum.elim (fun r => (2, [])) (fun r => (1, [.b r]))) (rfl) fun st => ?_) fun w1 => ?_
      · unfold tR08AheadL1
        refine st_gC (st_gI (st_gN ?_))
        refine st_bd (f := fun r => [.b r]) ?_ fun w2 => ?_
        · refine st_len (n := rA.1.length) (by simp only [List.length_map, List.length_cons, List.length_nil]) ?_
          refine st_if ?_ ?_
          · refine st_len (n := rA1.1.length) (by simp only [List.length_map, List.length_cons, List.length_nil]) ?_
            exact st_some (rfl)
          · exact st_some (rfl)
        · refine st_gC (st_gB (st_gN ?_))
          refine st_ifb ?_ ?_
          · refine st_idx (f := MV.s) (rfl) fun y => ?_
            refine st_gS ?_
            refine st_idx (f := MV.s) (rfl) fun y1 => ?_
            refine st_gS ?_
            refine st_ifb ?_ ?_
            · refine st_idx (f := MV.s) (rfl) fun y2 => ?_
              refine st_gS ?_
              refine st_idx (f := MV.s) (rfl) fun y3 => ?_
              refine st_gS ?_
              exact st_some (rfl)
            · exact st_some (rfl)
          · exact st_some (rfl)
      · rcases w1 with p3 | p4
        · refine st_ifT rfl (st_gN (st_len (n := rA.1.length) (by simp only [List.length_map, List.length_cons, List.length_nil]) (st_len (n := rA1.1.length) (by simp only [List.length_map, List.length_cons, List.length_nil]) ?_)))
          exact st_some (rfl)
        · refine st_ifF rfl (st_tt rfl (st_gC (st_gB (st_gN ?_))))
          exact st_some (rfl)
theorem eR09At (sA : R09Shelf) (p : List UInt8) : Sm (MV.i .i64) (dR09At (encR09Shelf sA) (.s p)) (tR09At sA p) := by
  unfold dR09At tR09At
  refine st_gA (st_gC (st_gL (st_gN (st_gS ?_))))
  refine st_bd (st_loop (fun r => [.i .i64 r]) (Sum.elim (fun r => (2, [])) (fun r => (1, [.i .i64 r]))) (rfl) fun st => ?_) fun w => ?_
  · unfold tR09AtL1
    refine st_gC (st_gI (st_gN (st_len (n := sA.L.length) (by simp only [List.length_map, List.length_cons, List.length_nil]) ?_)))
    refine st_if ?_ ?_
    · refine st_idx (f := encR09Node) (rfl) fun y => ?_
      refine st_gA (st_gC (st_gS (st_gC (st_gS (st_gC (st_gI (st_gC (st_gI (st_gN ?_)))))))))
      refine st_if ?_ ?_
      · exact st_some (rfl)
      · exact st_some (rfl)
    · exact st_some (rfl)
  · rcases w with p3 | p4
    · refine st_ifT rfl (st_gN ?_)
      exact st_some (rfl)
    · refine st_ifF rfl (st_tt rfl (st_gC (st_gI (st_gN ?_))))
      exact st_some (rfl)
theorem eR09Right (a : R09Shelf) : Sm MV.b (dR09Right (encR09Shelf a)) (tR09Right a) := by
  unfold dR09Right tR09Right
  refine st_gA (st_gC (st_gL (st_gN ?_)))
  refine st_bd (f := fun r => [.b r]) ?_ fun w => ?_
  · refine st_len (n := a.L.length) (by simp only [List.length_map, List.length_cons, List.length_nil]) ?_
    refine st_if ?_ ?_
    · exact st_some (rfl)
    · refine st_len (n := a.L.length) (by simp only [List.length_map, List.length_cons, List.length_nil]) ?_
      exact st_some (rfl)
  · refine st_gC (st_gB (st_gN ?_))
    refine st_ifb ?_ ?_
    · exact st_some (rfl)
    · refine st_bd (st_loop (fun r => [.i .i64 r]) (Sum.elim (fun r => (2, [])) (fun r => (1, [.b r]))) (rfl) fun st => ?_) fun w1 => ?_
      · unfold tR09RightL1
        refine st_gC (st_gI (st_gN (st_len (n := a.L.length) (by simp only [List.length_map, List.length_cons, List.length_nil]) ?_)))
        refine st_if ?_ ?_
        · refine st_idx (f := encR09Node) (rfl) fun y => ?_
          refine st_gA (st_gC (st_gS (st_gC (st_gS (st_gC (st_gI (st_gC (st_gI (st_gN ?_)))))))))
          refine st_bd (f := fun r => [.b r]) ?_ fun w2 => ?_
          · refine st_bd (eR08Right y.Path) fun rA => ?_
            refine st_gB ?_
            refine st_ifb ?_ ?_
            · exact st_some (rfl)
            · refine st_if ?_ ?_
              · exact st_some (rfl)
              · refine st_if ?_ ?_
                · exact st_some (rfl)
                · refine st_if ?_ ?_
                  · exact st_some (rfl)
                  · refine st_if ?_ ?_
                    · exact st_some (rfl)
                    · refine st_if ?_ ?_
                      · refine st_idx (f := encR09Node) (rfl) fun y1 => ?_
                        refine st_gA (st_gC (st_gS (st_gC (st_gS (st_gC (st_gI (st_gC (st_gI (st_gN ?_)))))))))
                        refine st_bd (eR08Ahead y1.Path y.Path) fun rA1 => ?_
                        refine st_gB ?_
                        exact st_some (rfl)
                      · exact st_some (rfl)
          · refine st_gC (st_gB (st_gN ?_))
            refine st_ifb ?_ ?_
            · exact st_some (rfl)
            · refine st_bd (eR08Parent y.Path) fun rA2 => ?_
              refine st_gT (st_gC (st_gS (st_gC (st_gI (st_gN ?_)))))
              refine st_ifb ?_ ?_
              · refine st_ifb ?_ ?_
                · exact st_some (rfl)
                · exact st_some (rfl)
              · refine st_bd (eR09At a rA2.1) fun rA3 => ?_
                refine st_gI ?_
                refine st_bd (f := fun r => [.b r]) ?_ fun w3 => ?_
                · refine st_if ?_ ?_
                  · exact st_some (rfl)
                  · refine st_idx (f := encR09Node) (rfl) fun y2 => ?_
                    refine st_gA (st_gC (st_gS (st_gC (st_gS (st_gC (st_gI (st_gC (st_gI (st_gN ?_)))))))))
                    exact st_some (rfl)
                · refine st_gC (st_gB (st_gN ?_))
                  refine st_ifb ?_ ?_
                  · exact st_some (rfl)
                  · exact st_some (rfl)
        · exact st_some (rfl)
      · rcases w1 with p1 | p2
        · refine st_ifT rfl (st_gN ?_)
          refine st_bd (eR09At a ([47] : List UInt8)) fun rA4 => ?_
          refine st_gI ?_
          exact st_some (rfl)
        · refine st_ifF rfl (st_tt rfl (st_gC (st_gB (st_gN ?_))))
          exact st_some (rfl)
theorem eL09Plain (sA : ShelfShelf) : Sm encR09Shelf (dL09Plain (encShelfShelf sA)) (tL09Plain sA) := by
  unfold dL09Plain tL09Plain
  refine st_gA (st_gC (st_gL (st_gN ?_)))
  refine st_bd (st_loop (fun r => [.list (r.1.map encR09Node), .i .i64 r.2]) (fun r => (2, [.list (r.map encR09Node)])) (rfl) fun st => ?_) fun w => ?_
  · unfold tL09PlainL1
    refine st_gC (st_gL (st_gC (st_gI (st_gN (st_len (n := sA.L.length) (by simp only [List.length_map, List.length_cons, List.length_nil]) ?_)))))
    refine st_if ?_ ?_
    · refine st_idx (f := encShelfNode) (rfl) fun y => ?_
      refine st_gA (st_gC (st_gS (st_gC (st_gS (st_gC (st_gI (st_gC (st_gI (st_gN (st_len (n := st.1.length) (by simp only [List.length_map, List.length_cons, List.length_nil]) (st_len (n := ([(⟨y.Path, y.Value, y.Version, y.Owner⟩ : R09Node)] : List R09Node).length) (by simp only [List.length_map, List.length_cons, List.length_nil]) ?_)))))))))))
      refine st_chk ?_
      exact st_some (by first | (simp only [Sum.map_inl, List.map_append, List.map_cons, List.map_nil, List.map_take, List.map_drop, List.map_set]; done) | (simp only [Sum.map_inl, List.map_append, List.map_cons, List.map_nil, List.map_take, List.map_drop, List.map_set, encShelfShelf, lvShelfShelf, encShelfNode, lvShelfNode, encR09Shelf, lvR09Shelf, encR09Node, lvR09Node]; done))
    · exact st_some (rfl)
  · refine st_tt rfl (st_gC (st_gL (st_gN ?_)))
    exact st_some (rfl)
theorem eShelfShelfVersioned (sA : ShelfShelf) (p : List UInt8) (version : Int) : Sm (fun r => .tup [.i .i64 r.1, .i .i64 r.2]) (dShelfShelfVersioned (encShelfShelf sA) (.s p) (.i .i64 version)) (tShelfShelfVersioned sA p version) := by
  unfold dShelfShelfVersioned tShelfShelfVersioned
  refine st_gA (st_gC (st_gL (st_gN (st_gS (st_gI ?_)))))
  refine st_bd (eShelfShelfFind sA p) fun rA => ?_
  refine st_gT (st_gC (st_gI (st_gC (st_gI (st_gN ?_)))))
  refine st_bd (f := fun r => [.b r]) ?_ fun w => ?_
  · refine st_if ?_ ?_
    · refine st_ifb ?_ ?_
      · refine st_idx (f := encShelfNode) (rfl) fun y => ?_
        refine st_gA (st_gC (st_gS (st_gC (st_gS (st_gC (st_gI (st_gC (st_gI (st_gN ?_)))))))))
        exact st_some (rfl)
      · exact st_some (rfl)
    · exact st_some (rfl)
  · refine st_gC (st_gB (st_gN ?_))
    refine st_ifb ?_ ?_
    · exact st_some (rfl)
    · exact st_some (rfl)
theorem eShelfSet (sA : ShelfShelf) (p : List UInt8) (value : List UInt8) (version : Int) : Sm (fun r => .tup [encShelfShelf r.1, .i .i64 r.2]) (dShelfSet (encShelfShelf sA) (.s p) (.s value) (.i .i64 version)) (tShelfSet sA p value version) := by
  unfold dShelfSet tShelfSet
  refine st_gA (st_gC (st_gL (st_gN (st_gS (st_gS (st_gI ?_))))))
  refine st_bd (eShelfShelfVersioned sA p version) fun rA => ?_
  refine st_gT (st_gC (st_gI (st_gC (st_gI (st_gN ?_)))))
  refine st_ifb ?_ ?_
  · exact st_some (rfl)
  · refine st_if ?_ ?_
    · exact st_some (rfl)
    · refine st_idx (f := encShelfNode) (rfl) fun y => ?_
      refine st_gA (st_gC (st_gS (st_gC (st_gS (st_gC (st_gI (st_gC (st_gI (st_gN ?_)))))))))
      refine st_if ?_ ?_
      · exact st_some (rfl)
      · refine st_bd (e_clone (size := 4) (f := encShelfNode) (fun _ => rfl) sA.L) fun rA1 => ?_
        refine st_gF ?_
        refine st_idx (f := encShelfNode) (rfl) fun y1 => ?_
        refine st_gA (st_gC (st_gS (st_gC (st_gS (st_gC (st_gI (st_gC (st_gI (st_gN ?_)))))))))
        refine st_idx (f := encShelfNode) (by simp only [List.map_append, List.map_cons, List.map_nil, List.map_take, List.map_drop, List.map_set]) fun y2 => ?_
        refine st_gA (st_gC (st_gS (st_gC (st_gS (st_gC (st_gI (st_gC (st_gI (st_gN ?_)))))))))
        refine st_idx (f := encShelfNode) (by simp only [List.map_append, List.map_cons, List.map_nil, List.map_take, List.map_drop, List.map_set]) fun y3 => ?_
        refine st_gA (st_gC (st_gS (st_gC (st_gS (st_gC (st_gI (st_gC (st_gI (st_gN ?_)))))))))
        exact st_some (by first | (simp only [List.map_append, List.map_cons, List.map_nil, List.map_take, List.map_drop, List.map_set]; done) | (simp only [List.map_append, List.map_cons, List.map_nil, List.map_take, List.map_drop, List.map_set, encShelfShelf, lvShelfShelf, encShelfNode, lvShelfNode, encR09Shelf, lvR09Shelf, encR09Node, lvR09Node]; done))
theorem eShelfDelete (sA : ShelfShelf) (p : List UInt8) (version : Int) : Sm (fun r => .tup [encShelfShelf r.1, .i .i64 r.2]) (dShelfDelete (encShelfShelf sA) (.s p) (.i .i64 version)) (tShelfDelete sA p version) := by
  unfold dShelfDelete tShelfDelete
  refine st_gA (st_gC (st_gL (st_gN (st_gS (st_gI ?_)))))
  refine st_bd (eShelfShelfVersioned sA p version) fun rA => ?_
  refine st_gT (st_gC (st_gI (st_gC (st_gI (st_gN ?_)))))
  refine st_if ?_ ?_
  · exact st_some (rfl)
  · refine st_ifb ?_ ?_
    · exact st_some (rfl)
    · refine st_bd (f := fun r => [.b r]) ?_ fun w => ?_
      · refine st_len (n := sA.L.length) (by simp only [List.length_map, List.length_cons, List.length_nil]) ?_
        refine st_if ?_ ?_
        · refine st_idx (f := encShelfNode) (rfl) fun y => ?_
          refine st_gA (st_gC (st_gS (st_gC (st_gS (st_gC (st_gI (st_gC (st_gI (st_gN ?_)))))))))
          refine st_bd (ePathBelow p y.Path) fun rA1 => ?_
          refine st_gB ?_
          exact st_some (rfl)
        · exact st_some (rfl)
      · refine st_gC (st_gB (st_gN ?_))
        refine st_ifb ?_ ?_
        · exact st_some (rfl)
        · refine st_bd (e_clone (size := 4) (f := encShelfNode) (fun _ => rfl) sA.L) fun rA2 => ?_
          refine st_gF ?_
          refine st_bd (e_delete (f := encShelfNode) rA2 rA.1 (IntKind.wrap .i64 (rA.1 + 1))) fun rA3 => ?_
          refine st_gF ?_
          exact st_some (rfl)
theorem eL09ShelfJust (a : ShelfShelf) (a1 : L09Change) (a2 : List UInt8) : Sm MV.b (dL09ShelfJust (encShelfShelf a) (encL09Change a1) (.s a2)) (tL09ShelfJust a a1 a2) := by
  unfold dL09ShelfJust tL09ShelfJust
  refine st_gA (st_gC (st_gL (st_gN (st_gA (st_gC (st_gS (st_gC (st_gS (st_gC (st_gI (st_gC ?_)))))))))))
  refine st_gI (st_gN (st_gS ?_))
  refine st_bd (f := fun r => [.b r]) ?_ fun w => ?_
  · refine st_bd (eL09Few a) fun rA => ?_
    refine st_gB ?_
    refine st_ifb ?_ ?_
    · exact st_some (rfl)
    · refine st_bd (eL09Plain a) fun rA1 => ?_
      refine st_gA (st_gC (st_gL (st_gN ?_)))
      refine st_bd (eR09Right rA1) fun rA2 => ?_
      refine st_gB ?_
      refine st_ifb ?_ ?_
      · exact st_some (rfl)
      · refine st_if ?_ ?_
        · exact st_some (rfl)
        · refine st_if ?_ ?_
          · exact st_some (rfl)
          · exact st_some (rfl)
  · refine st_gC (st_gB (st_gN ?_))
    refine st_ifb ?_ ?_
    · refine st_bd (eL09Alive) fun rA3 => ?_
      refine st_gB ?_
      exact st_some (rfl)
    · refine st_bd (eShelfGet a a2) fun rA4 => ?_
      refine st_gT (st_gC (st_gA (st_gC (st_gS (st_gC (st_gS (st_gC (st_gI (st_gC (st_gI (st_gN ?_)))))))))))
      refine st_gC (st_gI (st_gN ?_))
      refine st_bd (eShelfCreate a a1.Path a1.Value a1.Owner) fun rA5 => ?_
      refine st_gT (st_gC (st_gA (st_gC (st_gL (st_gN (st_gC (st_gI (st_gN ?_))))))))
      refine st_bd (eShelfSet a a1.Path a1.Value a1.Version) fun rA6 => ?_
      refine st_gT (st_gC (st_gA (st_gC (st_gL (st_gN (st_gC (st_gI (st_gN ?_))))))))
      refine st_bd (eShelfDelete a a1.Path a1.Version) fun rA7 => ?_
      refine st_gT (st_gC (st_gA (st_gC (st_gL (st_gN (st_gC (st_gI (st_gN ?_))))))))
      refine st_bd (f := fun r => [.b r]) ?_ fun w1 => ?_
      · refine st_bd (eL09Plain rA5.1) fun rA8 => ?_
        refine st_gA (st_gC (st_gL (st_gN ?_)))
        refine st_bd (eR09Right rA8) fun rA9 => ?_
        refine st_gB ?_
        refine st_ifb ?_ ?_
        · exact st_some (rfl)
        · refine st_bd (eL09Plain rA6.1) fun rA10 => ?_
          refine st_gA (st_gC (st_gL (st_gN ?_)))
          refine st_bd (eR09Right rA10) fun rA11 => ?_
          refine st_gB ?_
          refine st_ifb ?_ ?_
          · exact st_some (rfl)
          · refine st_bd (eL09Plain rA7.1) fun rA12 => ?_
            refine st_gA (st_gC (st_gL (st_gN ?_)))
            refine st_bd (eR09Right rA12) fun rA13 => ?_
            refine st_gB ?_
            exact st_some (rfl)
      · refine st_gC (st_gB (st_gN ?_))
        refine st_ifb ?_ ?_
        · exact st_some (rfl)
        · refine st_ifb ?_ ?_
          · refine st_bd (eShelfGet rA5.1 a2) fun rA14 => ?_
            refine st_gT (st_gC (st_gA (st_gC (st_gS (st_gC (st_gS (st_gC (st_gI (st_gC (st_gI (st_gN ?_)))))))))))
            refine st_gC (st_gI (st_gN ?_))
            refine st_bd (eShelfGet rA6.1 a2) fun rA15 => ?_
            refine st_gT (st_gC (st_gA (st_gC (st_gS (st_gC (st_gS (st_gC (st_gI (st_gC (st_gI (st_gN ?_)))))))))))
            refine st_gC (st_gI (st_gN ?_))
            refine st_bd (eShelfGet rA7.1 a2) fun rA16 => ?_
            refine st_gT (st_gC (st_gA (st_gC (st_gS (st_gC (st_gS (st_gC (st_gI (st_gC (st_gI (st_gN ?_)))))))))))
            refine st_gC (st_gI (st_gN ?_))
            refine st_bd (f := fun r => [.b r]) ?_ fun w2 => ?_
            · refine st_bd (eL09Alive) fun rA17 => ?_
              refine st_gB ?_
              refine st_ifb ?_ ?_
              · refine st_ifb ?_ ?_
                · refine st_ifb ?_ ?_
                  · refine st_ifb ?_ ?_
                    · refine st_if ?_ ?_
                      · refine st_if ?_ ?_
                        · exact st_some (rfl)
                        · exact st_some (rfl)
                      · exact st_some (rfl)
                    · exact st_some (rfl)
                  · exact st_some (rfl)
                · exact st_some (rfl)
              · exact st_some (rfl)
            · refine st_gC (st_gB (st_gN ?_))
              exact st_some (rfl)
          · refine st_bd (eShelfGet rA5.1 a2) fun rA18 => ?_
            refine st_gT (st_gC (st_gA (st_gC (st_gS (st_gC (st_gS (st_gC (st_gI (st_gC (st_gI (st_gN ?_)))))))))))
            refine st_gC (st_gI (st_gN ?_))
            refine st_bd (eShelfGet rA6.1 a2) fun rA19 => ?_
            refine st_gT (st_gC (st_gA (st_gC (st_gS (st_gC (st_gS (st_gC (st_gI (st_gC (st_gI (st_gN ?_)))))))))))
            refine st_gC (st_gI (st_gN ?_))
            refine st_bd (eShelfGet rA7.1 a2) fun rA20 => ?_
            refine st_gT (st_gC (st_gA (st_gC (st_gS (st_gC (st_gS (st_gC (st_gI (st_gC (st_gI (st_gN ?_)))))))))))
            refine st_gC (st_gI (st_gN ?_))
            refine st_bd (f := fun r => [.b r]) ?_ fun w3 => ?_
            · refine st_ifb ?_ ?_
              · exact st_some (rfl)
              · refine st_if ?_ ?_
                · exact st_some (rfl)
                · exact st_some (rfl)
            · refine st_gC (st_gB (st_gN ?_))
              refine st_bd (f := fun r => [.b r]) ?_ fun w4 => ?_
              · refine st_ifb ?_ ?_
                · exact st_some (rfl)
                · refine st_if ?_ ?_
                  · exact st_some (rfl)
                  · exact st_some (rfl)
              · refine st_gC (st_gB (st_gN ?_))
                refine st_bd (f := fun r => [.b r]) ?_ fun w5 => ?_
                · refine st_bd (eL09Alive) fun rA21 => ?_
                  refine st_gB ?_
                  refine st_ifb ?_ ?_
                  · refine st_ifb ?_ ?_
                    · refine st_ifb ?_ ?_
                      · refine st_ifb ?_ ?_
                        · refine st_ifb ?_ ?_
                          · exact st_some (rfl)
                          · exact st_some (rfl)
                        · refine st_if ?_ ?_
                          · refine st_ifb ?_ ?_
                            · exact st_some (rfl)
                            · exact st_some (rfl)
                          · exact st_some (rfl)
                      · exact st_some (rfl)
                    · exact st_some (rfl)
                  · exact st_some (rfl)
                · refine st_gC (st_gB (st_gN ?_))
                  exact st_some (rfl)
end Dn.S
