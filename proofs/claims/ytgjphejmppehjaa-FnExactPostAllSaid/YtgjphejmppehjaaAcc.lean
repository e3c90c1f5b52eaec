/- Accounts: AccOk (program and reference), toAcc, and the law's walk. An account is two integers. -/
import Derived.Test.YtgjphejmppehjaaAmt1
import Derived.Lib.SmallJoins
namespace Go.Proofs.Ytgjphejmppehjaa
open Go.RowKit

def accOk (k c : Int) : Bool := if inB k 6 8 then inB c 1 99 else inB k 1 5 && c == 0
theorem ret_boolA {a b : Bool} (h : a = b) : Ending.returned (.bool a) = .returned (.bool b) := by rw [h]

theorem laws_toAcc (k c : Int) (w : World) : Calls Try.prog 28 #[.agg #[.int .i64 k, .int .i64 c]] w fun e w' => e = .returned (.agg #[.int .i64 k, .int .i64 c]) ∧ Below w.heap.size w w' := by
  go_enter Try.func28, Try.ntmps28
  go_wp2
  refine bodyPost_ret (v := .agg #[.int .i64 k, .int .i64 c]) (by simp [results, Try.results28, go_sem]) rfl ⟨rfl, ?_⟩
  exact ((((Below.refl _ _).alloc (Nat.le_refl _) _).alloc (by simp) _).alloc (by simp; omega) _)
theorem impl_AccOk (k c : Int) (w : World) : Calls Try.prog 49 #[.agg #[.int .i64 k, .int .i64 c]] w fun e w' => e = .returned (.bool (accOk k c)) ∧ Below w.heap.size w w' := by
  obtain ⟨r, hr⟩ : ∃ r, accOk k c = r := ⟨_, rfl⟩
  rw [hr]
  have HR := Lib.hid hr
  clear hr
  go_enter Try.func49, Try.ntmps49
  go_wp2_with (go_at_call 50; refine (in_any _ _ _ _).mono ?_; rintro e w' ⟨rfl, rfl⟩)
  all_goals
    go_ret
    exact ⟨ret_boolA (by rw [← HR.out]; simp [accOk, *]), (Below.refl _ _).alloc (Nat.le_refl _) _⟩
theorem spec_AccOk (k c : Int) (w : World) : Calls Try.prog 45 #[.agg #[.int .i64 k, .int .i64 c]] w fun e w' => e = .returned (.bool (accOk k c)) ∧ Below w.heap.size w w' := by
  by_cases h1 : k < 1
  · rw [show accOk k c = false by simp [accOk, inB_false (n := k) (lo := 6) (hi := 8) (by omega), inB_false (n := k) (lo := 1) (hi := 5) (by omega)]]
    go_enter Try.func45, Try.ntmps45
    go_wp2
    go_ret
    exact ⟨rfl, (Below.refl _ _).alloc (Nat.le_refl _) _⟩
  · have h1' : 1 ≤ k := by omega
    clear h1
    by_cases h2 : 8 < k
    · rw [show accOk k c = false by simp [accOk, inB_false (n := k) (lo := 6) (hi := 8) (by omega), inB_false (n := k) (lo := 1) (hi := 5) (by omega)]]
      go_enter Try.func45, Try.ntmps45
      go_wp2
      go_ret
      exact ⟨rfl, (Below.refl _ _).alloc (Nat.le_refl _) _⟩
    · have h2' : k ≤ 8 := by omega
      clear h2
      by_cases h3 : k < 6
      · rw [show accOk k c = (c == 0) by simp [accOk, inB_false (n := k) (lo := 6) (hi := 8) (by omega), inB_true (n := k) (lo := 1) (hi := 5) (by omega) (by omega)]]
        go_enter Try.func45, Try.ntmps45
        go_wp2
        go_ret
        exact ⟨rfl, (Below.refl _ _).alloc (Nat.le_refl _) _⟩
      · have h3' : 6 ≤ k := by omega
        clear h3
        rw [show accOk k c = inB c 1 99 by simp [accOk, inB_true (n := k) (lo := 6) (hi := 8) (by omega) (by omega)]]
        by_cases h4 : 1 ≤ c
        · by_cases h5 : c ≤ 99
          · rw [inB_true h4 h5]
            go_enter Try.func45, Try.ntmps45
            go_wp2
            go_ret
            exact ⟨rfl, (Below.refl _ _).alloc (Nat.le_refl _) _⟩
          · have h5' : 99 < c := by omega
            clear h5
            rw [inB_false (.inr h5')]
            go_enter Try.func45, Try.ntmps45
            go_wp2
            go_ret
            exact ⟨ret_boolA (by simp; omega), (Below.refl _ _).alloc (Nat.le_refl _) _⟩
        · have h4' : c < 1 := by omega
          clear h4
          rw [inB_false (.inl h4')]
          go_enter Try.func45, Try.ntmps45
          go_wp2
          go_ret
          exact ⟨rfl, (Below.refl _ _).alloc (Nat.le_refl _) _⟩
end Go.Proofs.Ytgjphejmppehjaa
