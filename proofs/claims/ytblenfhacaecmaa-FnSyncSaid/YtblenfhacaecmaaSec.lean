/- Sectors: SectorOk, toSector, eqSector, szSector, markSector, heldSector. A sector's value: two numbers and a slice of bytes. -/
import Derived.Test.YtblenfhacaecmaaPut
import Derived.Test.YtblenfhacaecmaaVar
import Derived.Lib.SmallJoins
namespace Go.Proofs.Ytblenfhacaecmaa
open Go.RowKit

def secOk (q p : Int) (n : Nat) : Bool := inB q 0 599 && inB p 1 16000000 && decide (n ≤ 100)
theorem ret_boolS {a b : Bool} (h : a = b) : Ending.returned (.bool a) = .returned (.bool b) := by rw [h]
theorem below1s (w : World) (o : Obj) : Below w.heap.size w (w.alloc o) := (Below.refl _ _).alloc (Nat.le_refl _) o

theorem impl_SectorOk (q p : Int) (A : Option Addr) (n c : Nat) (hn : n ≤ 4611686018427387904) (w : World) :
    Calls Try.prog 95 #[.agg #[.int .i64 q, .int .i64 p, .slice A n c]] w fun e w' => e = .returned (.bool (secOk q p n)) ∧ Below w.heap.size w w' := by
  obtain ⟨r, hr⟩ : ∃ r, secOk q p n = r := ⟨_, rfl⟩
  rw [hr]
  have HR := Lib.hid hr
  clear hr
  go_enter Try.func95, Try.ntmps95
  go_wp2_with (go_at_call 53; refine (in_any _ _ _ _).mono ?_; rintro e w1 ⟨rfl, rfl⟩)
  all_goals
    go_ret
    exact ⟨ret_boolS (by rw [← HR.out]; first | (simp [secOk, *]; done) | (simp [secOk, *]; omega)), below1s _ _⟩
theorem spec_SectorOk (q p : Int) (A : Option Addr) (n c : Nat) (hn : n ≤ 4611686018427387904) (w : World) :
    Calls Try.prog 89 #[.agg #[.int .i64 q, .int .i64 p, .slice A n c]] w fun e w' => e = .returned (.bool (secOk q p n)) ∧ Below w.heap.size w w' := by
  by_cases h1 : q < 0
  · rw [show secOk q p n = false by simp [secOk, inB_false (n := q) (lo := 0) (hi := 599) (.inl h1)]]
    go_enter Try.func89, Try.ntmps89
    go_wp2
    go_ret
    exact ⟨rfl, below1s _ _⟩
  · have h1' : 0 ≤ q := by omega
    clear h1
    by_cases h2 : 600 ≤ q
    · rw [show secOk q p n = false by simp [secOk, inB_false (n := q) (lo := 0) (hi := 599) (.inr (by omega))]]
      go_enter Try.func89, Try.ntmps89
      go_wp2
      go_ret
      exact ⟨ret_boolS (by simp), below1s _ _⟩
    · have h2' : q < 600 := by omega
      clear h2
      by_cases h3 : p < 1
      · rw [show secOk q p n = false by simp [secOk, inB_false (n := p) (lo := 1) (hi := 16000000) (.inl h3)]]
        go_enter Try.func89, Try.ntmps89
        go_wp2
        go_ret
        exact ⟨ret_boolS (by simp), below1s _ _⟩
      · have h3' : 1 ≤ p := by omega
        clear h3
        by_cases h4 : 16000000 < p
        · rw [show secOk q p n = false by simp [secOk, inB_false (n := p) (lo := 1) (hi := 16000000) (.inr h4)]]
          go_enter Try.func89, Try.ntmps89
          go_wp2
          go_ret
          exact ⟨ret_boolS (by simp), below1s _ _⟩
        · have h4' : p ≤ 16000000 := by omega
          clear h4
          rw [show secOk q p n = decide (n ≤ 100) by simp [secOk, inB_true (n := q) (lo := 0) (hi := 599) (by omega) (by omega), inB_true (n := p) (lo := 1) (hi := 16000000) h3' h4']]
          go_enter Try.func89, Try.ntmps89
          go_wp2
          go_ret
          exact ⟨ret_boolS (by simp; omega), below1s _ _⟩
set_option maxHeartbeats 400000 in
theorem eqSector_same (q p : Int) (A : Option Addr) (n c : Nat) (A' : Option Addr) (n' c' : Nat) (l : List UInt8) (w : World) (hr : Rd w w.heap.size 1 A n (Lib.byteCells l)) (hr' : Rd w w.heap.size 1 A' n' (Lib.byteCells l)) (hn : n ≤ 1099511627776) (hn' : n' ≤ 1099511627776) :
    Calls Try.prog 72 #[.agg #[.int .i64 q, .int .i64 p, .slice A n c], .agg #[.int .i64 q, .int .i64 p, .slice A' n' c']] w fun e w' => e = .returned (.bool true) ∧ Below w.heap.size w w' := by
  have hqq : (q != q) = false := by simp
  have hpp : (p != p) = false := by simp
  go_enter Try.func72, Try.ntmps72
  go_wp2_with fail
  refine (eqByteS_any A n c l A' n' c' l _ (((hr.alloc (Nat.le_refl _) _).alloc (by simp) _).more (by simp; omega)) (((hr'.alloc (Nat.le_refl _) _).alloc (by simp) _).more (by simp; omega)) hn hn').mono ?_
  rintro e w1 ⟨rfl, hb1⟩
  rw [eqL_self]
  go_wp2
  go_ret
  exact ⟨rfl, ((((Below.refl w.heap.size w).alloc (Nat.le_refl _) _).alloc (by simp) _).trans (hb1.mono (by simp; omega)))⟩
end Go.Proofs.Ytblenfhacaecmaa
