/- LedgerOk and PostingOk, in the program and in the reference. -/
import Derived.Test.YtgjphejmppehjaaLed
import Derived.Test.YtgjphejmppehjaaLok
import Derived.Test.YtgjphejmppehjaaLos
namespace Go.Proofs.Ytgjphejmppehjaa
open Go.RowKit
set_option maxHeartbeats 1000000 in
theorem impl_LedgerOk (q : Int) (A : Option Addr) (n c : Nat) (ls : List Ln) (w : World) (hr : Rd w w.heap.size 3 A n (lnCells ls)) (hn : n ≤ 1099511627776) :
    Calls Try.prog 20 #[.agg #[.int .i64 q, .slice A n c]] w fun e w' => e = .returned (.bool (ledOk q ls)) ∧ Below w.heap.size w w' := by
  have hl := lnlen_of_rd hr
  rcases h1 : inB q 0 1125899906842624 with _ | _
  · rw [show ledOk q ls = false by simp [ledOk, h1]]
    clear hl
    go_enter Try.func20, Try.ntmps20
    go_wp2_with (first | (go_at_call 53; refine (impl_AmtOk q _).mono ?_; rintro e w9 ⟨rfl, rfl⟩; rw [h1]))
    go_ret
    exact ⟨rfl, below1 _ _⟩
  · by_cases h2 : 320 < n
    · rw [show ledOk q ls = false by simp [ledOk, h1]; omega]
      clear hl
      go_enter Try.func20, Try.ntmps20
      go_wp2_with (first | (go_at_call 53; refine (impl_AmtOk q _).mono ?_; rintro e w9 ⟨rfl, rfl⟩; rw [h1]))
      go_ret
      exact ⟨ret_boolL (by first | (simp; done) | (simp; omega)), below1 _ _⟩
    · have h3 : n ≤ 320 := by omega
      rw [show ledOk q ls = linesOk ls by simp [ledOk, h1]; omega]
      clear hl h2
      go_enter Try.func20, Try.ntmps20
      go_wp2_with (first | (go_at_call 53; refine (impl_AmtOk q _).mono ?_; rintro e w9 ⟨rfl, rfl⟩; rw [h1]) | (go_at_call 15; refine (impl_LinesOk A n c ls _ ((hr.alloc (Nat.le_refl _) _).more (by simp)) hn).mono ?_; rintro e w1 ⟨rfl, hb1⟩))
      go_ret
      exact ⟨rfl, (below1 _ _).trans (hb1.mono (by simp))⟩
set_option maxHeartbeats 1000000 in
theorem spec_LedgerOk (q : Int) (A : Option Addr) (n c : Nat) (ls : List Ln) (w : World) (hr : Rd w w.heap.size 3 A n (lnCells ls)) (hn : n ≤ 1099511627776) :
    Calls Try.prog 18 #[.agg #[.int .i64 q, .slice A n c]] w fun e w' => e = .returned (.bool (ledOk q ls)) ∧ Below w.heap.size w w' := by
  have hl := lnlen_of_rd hr
  rcases h1 : inB q 0 1125899906842624 with _ | _
  · rw [show ledOk q ls = false by simp [ledOk, h1]]
    have h1q := inB_gt h1
    clear hl h1
    by_cases h0 : q < 0
    · clear h1q
      go_enter Try.func18, Try.ntmps18
      go_wp2
      go_ret
      exact ⟨rfl, below1 _ _⟩
    · have h0q : 1125899906842624 < q := by omega
      have h0p : 0 ≤ q := by omega
      clear h0 h1q
      go_enter Try.func18, Try.ntmps18
      go_wp2
      go_ret
      exact ⟨ret_boolL (by first | rfl | (simp; done) | (simp; omega)), below1 _ _⟩
  · obtain ⟨ha, hb⟩ := inB_le h1
    by_cases h2 : 320 < n
    · rw [show ledOk q ls = false by simp [ledOk, h1]; omega]
      clear hl h1
      go_enter Try.func18, Try.ntmps18
      go_wp2
      go_ret
      exact ⟨ret_boolL (by first | rfl | (simp; done) | (simp; omega)), below1 _ _⟩
    · have h3 : n ≤ 320 := by omega
      rw [show ledOk q ls = linesOk ls by simp [ledOk, h1]; omega]
      clear hl h2 h1
      go_enter Try.func18, Try.ntmps18
      go_wp2_with (first | (go_at_call 13; refine (spec_LinesOk A n c ls _ ((hr.alloc (Nat.le_refl _) _).more (by simp)) hn).mono ?_; rintro e w1 ⟨rfl, hb1⟩))
      go_ret
      exact ⟨rfl, (below1 _ _).trans (hb1.mono (by simp))⟩
set_option maxHeartbeats 1000000 in
theorem impl_PostingOk (q : Int) (A : Option Addr) (n c : Nat) (ls : List Ln) (w : World) (hr : Rd w w.heap.size 3 A n (lnCells ls)) (hn : n ≤ 1099511627776) :
    Calls Try.prog 25 #[.agg #[.int .i64 q, .slice A n c]] w fun e w' => e = .returned (.bool (pstOk q ls)) ∧ Below w.heap.size w w' := by
  have hl := lnlen_of_rd hr
  rcases h1 : inB q 1 1125899906842624 with _ | _
  · rw [show pstOk q ls = false by simp [pstOk, h1]]
    clear hl
    go_enter Try.func25, Try.ntmps25
    go_wp2_with (first | (go_at_call 50; refine (in_any _ _ _ _).mono ?_; rintro e w9 ⟨rfl, rfl⟩; rw [h1]))
    go_ret
    exact ⟨rfl, below1 _ _⟩
  · rcases h2 : inB (n : Int) 2 8 with _ | _
    · rw [show pstOk q ls = false by have := inB_gt h2; simp [pstOk, h1]; omega]
      clear hl
      go_enter Try.func25, Try.ntmps25
      go_wp2_with (first | (go_at_call 50; refine (in_any _ _ _ _).mono ?_; rintro e w9 ⟨rfl, rfl⟩; first | rw [h1] | rw [h2]))
      go_ret
      exact ⟨rfl, below1 _ _⟩
    · rw [show pstOk q ls = linesOk ls by have := inB_le h2; simp [pstOk, h1]; omega]
      clear hl
      go_enter Try.func25, Try.ntmps25
      go_wp2_with (first | (go_at_call 50; refine (in_any _ _ _ _).mono ?_; rintro e w9 ⟨rfl, rfl⟩; first | rw [h1] | rw [h2]) | (go_at_call 15; refine (impl_LinesOk A n c ls _ ((hr.alloc (Nat.le_refl _) _).more (by simp)) hn).mono ?_; rintro e w1 ⟨rfl, hb1⟩))
      go_ret
      exact ⟨rfl, (below1 _ _).trans (hb1.mono (by simp))⟩
set_option maxHeartbeats 1000000 in
theorem spec_PostingOk (q : Int) (A : Option Addr) (n c : Nat) (ls : List Ln) (w : World) (hr : Rd w w.heap.size 3 A n (lnCells ls)) (hn : n ≤ 1099511627776) :
    Calls Try.prog 23 #[.agg #[.int .i64 q, .slice A n c]] w fun e w' => e = .returned (.bool (pstOk q ls)) ∧ Below w.heap.size w w' := by
  have hl := lnlen_of_rd hr
  rcases h1 : inB q 1 1125899906842624 with _ | _
  · rw [show pstOk q ls = false by simp [pstOk, h1]]
    have h1q := inB_gt h1
    clear hl h1
    by_cases h0 : q < 1
    · clear h1q
      go_enter Try.func23, Try.ntmps23
      go_wp2
      go_ret
      exact ⟨rfl, below1 _ _⟩
    · have h0q : 1125899906842624 < q := by omega
      have h0p : 1 ≤ q := by omega
      clear h0 h1q
      go_enter Try.func23, Try.ntmps23
      go_wp2
      go_ret
      exact ⟨ret_boolL (by first | rfl | (simp; done) | (simp; omega)), below1 _ _⟩
  · obtain ⟨ha, hb⟩ := inB_le h1
    by_cases h2 : n < 2
    · rw [show pstOk q ls = false by simp [pstOk, h1]; omega]
      clear hl h1
      go_enter Try.func23, Try.ntmps23
      go_wp2
      go_ret
      exact ⟨ret_boolL (by first | rfl | (simp; done) | (simp; omega)), below1 _ _⟩
    · have h2a : 2 ≤ n := by omega
      clear h2
      by_cases h3 : 8 < n
      · rw [show pstOk q ls = false by simp [pstOk, h1]; omega]
        clear hl h1
        go_enter Try.func23, Try.ntmps23
        go_wp2
        go_ret
        exact ⟨ret_boolL (by first | rfl | (simp; done) | (simp; omega)), below1 _ _⟩
      · have h3a : n ≤ 8 := by omega
        rw [show pstOk q ls = linesOk ls by simp [pstOk, h1]; omega]
        clear hl h1 h3
        go_enter Try.func23, Try.ntmps23
        go_wp2_with (first | (go_at_call 13; refine (spec_LinesOk A n c ls _ ((hr.alloc (Nat.le_refl _) _).more (by simp)) hn).mono ?_; rintro e w1 ⟨rfl, hb1⟩))
        go_ret
        exact ⟨rfl, (below1 _ _).trans (hb1.mono (by simp))⟩
end Go.Proofs.Ytgjphejmppehjaa
