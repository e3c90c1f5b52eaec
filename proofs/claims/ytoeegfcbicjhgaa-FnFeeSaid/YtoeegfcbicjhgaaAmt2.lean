/- Contracts of AddAmt, SubAmt, amt, Clamp (program and reference): each returns what one Lean function gives. -/
import Derived.Test.YtoeegfcbicjhgaaAmt1
namespace Go.Proofs.Ytoeegfcbicjhgaa
open Go.RowKit

def addAmt (a b : Int) : Int × Bool := if inB a 0 1125899906842624 && inB b 0 1125899906842624 && inB (a + b) 0 1125899906842624 then (a + b, true) else (0, false)
def subAmt (a b : Int) : Int × Bool := if inB a 0 1125899906842624 && inB b 0 1125899906842624 && inB (a - b) 0 1125899906842624 then (a - b, true) else (0, false)
def clamp (n lo hi : Int) : Int := if n < lo then lo else if hi < n then hi else n

theorem impl_amt_yes (n : Int) (w : World) (h : inB n 0 1125899906842624 = true) :
    Calls Try.prog 37 #[.int .i64 n] w fun e w' => e = .returned (.tuple #[.int .i64 n, .bool true]) ∧ w = w' := by
  go_enter Try.func37, Try.ntmps37
  go_wp2_with (go_at_call 16; refine (impl_AmtOk _ _).mono ?_; rintro e w' ⟨rfl, rfl⟩)
  go_ret2
  exact ⟨rfl, rfl⟩
theorem impl_amt_no (n : Int) (w : World) (h : inB n 0 1125899906842624 = false) :
    Calls Try.prog 37 #[.int .i64 n] w fun e w' => e = .returned (.tuple #[.int .i64 0, .bool false]) ∧ w = w' := by
  go_enter Try.func37, Try.ntmps37
  go_wp2_with (go_at_call 16; refine (impl_AmtOk _ _).mono ?_; rintro e w' ⟨rfl, rfl⟩)
  go_ret2
  exact ⟨rfl, rfl⟩

theorem impl_AddAmt (a b : Int) (w : World) :
    Calls Try.prog 22 #[.int .i64 a, .int .i64 b] w fun e w' => e = .returned (.tuple #[.int .i64 (addAmt a b).1, .bool (addAmt a b).2]) ∧ w = w' := by
  rcases ha : inB a 0 1125899906842624 with _ | _
  · have hr : addAmt a b = (0, false) := by simp [addAmt, ha]
    rw [hr]
    clear hr
    go_enter Try.func22, Try.ntmps22
    go_wp2_with (go_at_call 16; refine (impl_AmtOk _ _).mono ?_; rintro e w' ⟨rfl, rfl⟩)
    go_ret2
    exact ⟨rfl, rfl⟩
  · rcases hb : inB b 0 1125899906842624 with _ | _
    · have hr : addAmt a b = (0, false) := by simp [addAmt, hb]
      rw [hr]
      clear hr
      go_enter Try.func22, Try.ntmps22
      go_wp2_with (go_at_call 16; refine (impl_AmtOk _ _).mono ?_; rintro e w' ⟨rfl, rfl⟩)
      go_ret2
      exact ⟨rfl, rfl⟩
    · obtain ⟨a1, a2⟩ := inB_le ha
      obtain ⟨b1, b2⟩ := inB_le hb
      rcases hs : inB (a + b) 0 1125899906842624 with _ | _
      · have hr : addAmt a b = (0, false) := by simp [addAmt, hs]
        rw [hr]
        clear hr
        go_enter Try.func22, Try.ntmps22
        go_wp2_with (first | (go_at_call 16; refine (impl_AmtOk _ _).mono ?_; rintro e w' ⟨rfl, rfl⟩) | (go_at_call 37; refine (impl_amt_no _ _ hs).mono ?_; rintro e w' ⟨rfl, rfl⟩))
        go_ret2
        exact ⟨rfl, rfl⟩
      · have hr : addAmt a b = (a + b, true) := by simp [addAmt, ha, hb, hs]
        rw [hr]
        clear hr
        go_enter Try.func22, Try.ntmps22
        go_wp2_with (first | (go_at_call 16; refine (impl_AmtOk _ _).mono ?_; rintro e w' ⟨rfl, rfl⟩) | (go_at_call 37; refine (impl_amt_yes _ _ hs).mono ?_; rintro e w' ⟨rfl, rfl⟩))
        go_ret2
        exact ⟨rfl, rfl⟩
theorem spec_AddAmt (a b : Int) (w : World) :
    Calls Try.prog 21 #[.int .i64 a, .int .i64 b] w fun e w' => e = .returned (.tuple #[.int .i64 (addAmt a b).1, .bool (addAmt a b).2]) ∧ w = w' := by
  rcases ha : inB a 0 1125899906842624 with _ | _
  · have hr : addAmt a b = (0, false) := by simp [addAmt, ha]
    rw [hr]
    clear hr
    go_enter Try.func21, Try.ntmps21
    go_wp2_with (go_at_call 15; refine (spec_AmtOk _ _).mono ?_; rintro e w' ⟨rfl, rfl⟩)
    go_ret2
    exact ⟨rfl, rfl⟩
  · rcases hb : inB b 0 1125899906842624 with _ | _
    · have hr : addAmt a b = (0, false) := by simp [addAmt, hb]
      rw [hr]
      clear hr
      go_enter Try.func21, Try.ntmps21
      go_wp2_with (go_at_call 15; refine (spec_AmtOk _ _).mono ?_; rintro e w' ⟨rfl, rfl⟩)
      go_ret2
      exact ⟨rfl, rfl⟩
    · obtain ⟨a1, a2⟩ := inB_le ha
      obtain ⟨b1, b2⟩ := inB_le hb
      rcases hs : inB (a + b) 0 1125899906842624 with _ | _
      · have hr : addAmt a b = (0, false) := by simp [addAmt, hs]
        rw [hr]
        clear hr
        go_enter Try.func21, Try.ntmps21
        go_wp2_with (go_at_call 15; refine (spec_AmtOk _ _).mono ?_; rintro e w' ⟨rfl, rfl⟩)
        go_ret2
        exact ⟨rfl, rfl⟩
      · have hr : addAmt a b = (a + b, true) := by simp [addAmt, ha, hb, hs]
        rw [hr]
        clear hr
        go_enter Try.func21, Try.ntmps21
        go_wp2_with (go_at_call 15; refine (spec_AmtOk _ _).mono ?_; rintro e w' ⟨rfl, rfl⟩)
        go_ret2
        exact ⟨rfl, rfl⟩
theorem impl_SubAmt (a b : Int) (w : World) :
    Calls Try.prog 24 #[.int .i64 a, .int .i64 b] w fun e w' => e = .returned (.tuple #[.int .i64 (subAmt a b).1, .bool (subAmt a b).2]) ∧ w = w' := by
  rcases ha : inB a 0 1125899906842624 with _ | _
  · have hr : subAmt a b = (0, false) := by simp [subAmt, ha]
    rw [hr]
    clear hr
    go_enter Try.func24, Try.ntmps24
    go_wp2_with (go_at_call 16; refine (impl_AmtOk _ _).mono ?_; rintro e w' ⟨rfl, rfl⟩)
    go_ret2
    exact ⟨rfl, rfl⟩
  · rcases hb : inB b 0 1125899906842624 with _ | _
    · have hr : subAmt a b = (0, false) := by simp [subAmt, hb]
      rw [hr]
      clear hr
      go_enter Try.func24, Try.ntmps24
      go_wp2_with (go_at_call 16; refine (impl_AmtOk _ _).mono ?_; rintro e w' ⟨rfl, rfl⟩)
      go_ret2
      exact ⟨rfl, rfl⟩
    · obtain ⟨a1, a2⟩ := inB_le ha
      obtain ⟨b1, b2⟩ := inB_le hb
      rcases hs : inB (a - b) 0 1125899906842624 with _ | _
      · have hr : subAmt a b = (0, false) := by simp [subAmt, hs]
        rw [hr]
        clear hr
        go_enter Try.func24, Try.ntmps24
        go_wp2_with (first | (go_at_call 16; refine (impl_AmtOk _ _).mono ?_; rintro e w' ⟨rfl, rfl⟩) | (go_at_call 37; refine (impl_amt_no _ _ hs).mono ?_; rintro e w' ⟨rfl, rfl⟩))
        go_ret2
        exact ⟨rfl, rfl⟩
      · have hr : subAmt a b = (a - b, true) := by simp [subAmt, ha, hb, hs]
        rw [hr]
        clear hr
        go_enter Try.func24, Try.ntmps24
        go_wp2_with (first | (go_at_call 16; refine (impl_AmtOk _ _).mono ?_; rintro e w' ⟨rfl, rfl⟩) | (go_at_call 37; refine (impl_amt_yes _ _ hs).mono ?_; rintro e w' ⟨rfl, rfl⟩))
        go_ret2
        exact ⟨rfl, rfl⟩
theorem spec_SubAmt (a b : Int) (w : World) :
    Calls Try.prog 23 #[.int .i64 a, .int .i64 b] w fun e w' => e = .returned (.tuple #[.int .i64 (subAmt a b).1, .bool (subAmt a b).2]) ∧ w = w' := by
  rcases ha : inB a 0 1125899906842624 with _ | _
  · have hr : subAmt a b = (0, false) := by simp [subAmt, ha]
    rw [hr]
    clear hr
    go_enter Try.func23, Try.ntmps23
    go_wp2_with (go_at_call 15; refine (spec_AmtOk _ _).mono ?_; rintro e w' ⟨rfl, rfl⟩)
    go_ret2
    exact ⟨rfl, rfl⟩
  · rcases hb : inB b 0 1125899906842624 with _ | _
    · have hr : subAmt a b = (0, false) := by simp [subAmt, hb]
      rw [hr]
      clear hr
      go_enter Try.func23, Try.ntmps23
      go_wp2_with (go_at_call 15; refine (spec_AmtOk _ _).mono ?_; rintro e w' ⟨rfl, rfl⟩)
      go_ret2
      exact ⟨rfl, rfl⟩
    · obtain ⟨a1, a2⟩ := inB_le ha
      obtain ⟨b1, b2⟩ := inB_le hb
      by_cases hlt : a < b
      · have hr : subAmt a b = (0, false) := by simp [subAmt, inB_false (n := a - b) (lo := 0) (hi := 1125899906842624) (by omega)]
        rw [hr]
        clear hr
        go_enter Try.func23, Try.ntmps23
        go_wp2_with (go_at_call 15; refine (spec_AmtOk _ _).mono ?_; rintro e w' ⟨rfl, rfl⟩)
        go_ret2
        exact ⟨rfl, rfl⟩
      · have hlt' : b ≤ a := by omega
        have hr : subAmt a b = (a - b, true) := by simp [subAmt, ha, hb, inB_true (n := a - b) (lo := 0) (hi := 1125899906842624) (by omega) (by omega)]
        rw [hr]
        clear hr hlt
        go_enter Try.func23, Try.ntmps23
        go_wp2_with (go_at_call 15; refine (spec_AmtOk _ _).mono ?_; rintro e w' ⟨rfl, rfl⟩)
        go_ret2
        exact ⟨rfl, rfl⟩
theorem both_Clamp (n lo hi : Int) (w : World) :
    (Calls Try.prog 18 #[.int .i64 n, .int .i64 lo, .int .i64 hi] w fun e w' => e = .returned (.int .i64 (clamp n lo hi)) ∧ w = w') ∧
    (Calls Try.prog 17 #[.int .i64 n, .int .i64 lo, .int .i64 hi] w fun e w' => e = .returned (.int .i64 (clamp n lo hi)) ∧ w = w') := by
  by_cases h1 : n < lo
  · have hr : clamp n lo hi = lo := by simp [clamp, h1]
    rw [hr]
    clear hr
    constructor
    · go_enter Try.func18, Try.ntmps18
      go_wp2
      go_ret
      exact ⟨rfl, rfl⟩
    · go_enter Try.func17, Try.ntmps17
      go_wp2
      go_ret
      exact ⟨rfl, rfl⟩
  · have h1' : lo ≤ n := by omega
    by_cases h2 : hi < n
    · have hr : clamp n lo hi = hi := by simp [clamp, h1, h2]
      rw [hr]
      clear hr h1
      constructor
      · go_enter Try.func18, Try.ntmps18
        go_wp2
        go_ret
        exact ⟨rfl, rfl⟩
      · go_enter Try.func17, Try.ntmps17
        go_wp2
        go_ret
        exact ⟨rfl, rfl⟩
    · have h2' : n ≤ hi := by omega
      have hr : clamp n lo hi = n := by simp [clamp, h1, h2]
      rw [hr]
      clear hr h1 h2
      constructor
      · go_enter Try.func18, Try.ntmps18
        go_wp2
        go_ret
        exact ⟨rfl, rfl⟩
      · go_enter Try.func17, Try.ntmps17
        go_wp2
        go_ret
        exact ⟨rfl, rfl⟩
end Go.Proofs.Ytoeegfcbicjhgaa
