/- Sectors: SectorOk, toSector, eqSector, szSector, markSector, heldSector. A sector's value: two numbers and a slice of bytes. -/
import Derived.Test.YtdjjmagocakpnaaPut
import Derived.Test.YtdjjmagocakpnaaVar
import Derived.Lib.SmallJoins
namespace Go.Proofs.Ytdjjmagocakpnaa
open Go.RowKit

def secOk (q p : Int) (n : Nat) : Bool := inB q 0 599 && inB p 1 16000000 && decide (n ≤ 100)
theorem ret_boolS {a b : Bool} (h : a = b) : Ending.returned (.bool a) = .returned (.bool b) := by rw [h]
theorem below1 (w : World) (o : Obj) : Below w.heap.size w (w.alloc o) := (Below.refl _ _).alloc (Nat.le_refl _) o

theorem impl_SectorOk (q p : Int) (A : Option Addr) (n c : Nat) (hn : n ≤ 4611686018427387904) (w : World) :
    Calls Try.prog 22 #[.agg #[.int .i64 q, .int .i64 p, .slice A n c]] w fun e w' => e = .returned (.bool (secOk q p n)) ∧ Below w.heap.size w w' := by
  obtain ⟨r, hr⟩ : ∃ r, secOk q p n = r := ⟨_, rfl⟩
  rw [hr]
  have HR := Lib.hid hr
  clear hr
  go_enter Try.func22, Try.ntmps22
  go_wp2_with (go_at_call 53; refine (in_any _ _ _ _).mono ?_; rintro e w1 ⟨rfl, rfl⟩)
  all_goals
    go_ret
    exact ⟨ret_boolS (by rw [← HR.out]; first | (simp [secOk, *]; done) | (simp [secOk, *]; omega)), below1 _ _⟩
theorem spec_SectorOk (q p : Int) (A : Option Addr) (n c : Nat) (hn : n ≤ 4611686018427387904) (w : World) :
    Calls Try.prog 20 #[.agg #[.int .i64 q, .int .i64 p, .slice A n c]] w fun e w' => e = .returned (.bool (secOk q p n)) ∧ Below w.heap.size w w' := by
  by_cases h1 : q < 0
  · rw [show secOk q p n = false by simp [secOk, inB_false (n := q) (lo := 0) (hi := 599) (.inl h1)]]
    go_enter Try.func20, Try.ntmps20
    go_wp2
    go_ret
    exact ⟨rfl, below1 _ _⟩
  · have h1' : 0 ≤ q := by omega
    clear h1
    by_cases h2 : 600 ≤ q
    · rw [show secOk q p n = false by simp [secOk, inB_false (n := q) (lo := 0) (hi := 599) (.inr (by omega))]]
      go_enter Try.func20, Try.ntmps20
      go_wp2
      go_ret
      exact ⟨ret_boolS (by simp), below1 _ _⟩
    · have h2' : q < 600 := by omega
      clear h2
      by_cases h3 : p < 1
      · rw [show secOk q p n = false by simp [secOk, inB_false (n := p) (lo := 1) (hi := 16000000) (.inl h3)]]
        go_enter Try.func20, Try.ntmps20
        go_wp2
        go_ret
        exact ⟨ret_boolS (by simp), below1 _ _⟩
      · have h3' : 1 ≤ p := by omega
        clear h3
        by_cases h4 : 16000000 < p
        · rw [show secOk q p n = false by simp [secOk, inB_false (n := p) (lo := 1) (hi := 16000000) (.inr h4)]]
          go_enter Try.func20, Try.ntmps20
          go_wp2
          go_ret
          exact ⟨ret_boolS (by simp), below1 _ _⟩
        · have h4' : p ≤ 16000000 := by omega
          clear h4
          rw [show secOk q p n = decide (n ≤ 100) by simp [secOk, inB_true (n := q) (lo := 0) (hi := 599) (by omega) (by omega), inB_true (n := p) (lo := 1) (hi := 16000000) h3' h4']]
          go_enter Try.func20, Try.ntmps20
          go_wp2
          go_ret
          exact ⟨ret_boolS (by simp; omega), below1 _ _⟩
/-- A sector whose bytes are the call's own. -/
def MadeSec (q p : Int) (n : Nat) (l : List UInt8) (w : World) (e : Ending) (w' : World) : Prop :=
  ∃ A c, e = .returned (.agg #[.int .i64 q, .int .i64 p, .slice A n c]) ∧ OwnB w' w.heap.size w'.heap.size A n c l ∧ Below w.heap.size w w'
set_option maxHeartbeats 400000 in
theorem toSector_any (q p : Int) (A : Option Addr) (n c : Nat) (l : List UInt8) (w : World) (hr : Rd w w.heap.size 1 A n (Lib.byteCells l)) (hn : n ≤ 1099511627776) :
    Calls Try.prog 21 #[.agg #[.int .i64 q, .int .i64 p, .slice A n c]] w (MadeSec q p n l w) := by
  go_enter Try.func21, Try.ntmps21
  go_wp2_with (go_at_call 16; refine (toByteS_any A n c l _ ((((hr.alloc (Nat.le_refl _) _).alloc (by simp) _).alloc (by simp; omega) _).more (by simp; omega)) hn).mono ?_; rintro e w1 ⟨A1, c1, rfl, t1, hb1⟩; have hz1 := hb1.size; (try simp at hz1); have hk0 := fun o => hb1.cell (p := ⟨w.heap.size, o, none⟩) (by first | omega | (simp; omega) | (simp; done)); have hf0 := fun o => hb1.frozen (p := ⟨w.heap.size, o, none⟩) (by first | omega | (simp; omega) | (simp; done)); have hk1 := fun o => hb1.cell (p := ⟨w.heap.size + 1, o, none⟩) (by first | omega | (simp; omega) | (simp; done)); have hf1 := fun o => hb1.frozen (p := ⟨w.heap.size + 1, o, none⟩) (by first | omega | (simp; omega) | (simp; done)); have hk1_1 := fun o => hb1.cell (p := ⟨w.heap.size + 1 + 1, o, none⟩) (by first | omega | (simp; omega) | (simp; done)); have hf1_1 := fun o => hb1.frozen (p := ⟨w.heap.size + 1 + 1, o, none⟩) (by first | omega | (simp; omega) | (simp; done)))
  refine bodyPost_ret (v := .agg #[.int .i64 q, .int .i64 p, .slice A1 n c1]) (by simp [results, Try.results21, go_sem, *]) rfl ?_
  refine ⟨A1, c1, rfl, t1.made (lo' := w.heap.size) (hi' := w.heap.size + 3) ?_ ?_ ?_, ?_⟩
  · repeat' (first | exact Eff.refl _ _ _ | (refine Eff.setCell ?_ ?_ ?_ _) | omega | (simp; omega) | (simp; done))
  · first | (simp; done) | (simp; omega)
  · first | (simp; done) | (simp; omega)
  · repeat' (first | exact Below.refl _ _ | (refine Below.alloc ?_ ?_ _) | (refine Below.drew ?_) | (refine Below.setCell ?_ ?_ _) | (refine Below.trans ?_ (Below.mono (by assumption) ?_)) | omega | (simp; omega) | (simp; done) | exact Below.size (by assumption) | (refine Nat.le_trans ?_ (Below.size (by assumption))))
set_option maxHeartbeats 400000 in
theorem eqSector_same (q p : Int) (A : Option Addr) (n c : Nat) (A' : Option Addr) (n' c' : Nat) (l : List UInt8) (w : World) (hr : Rd w w.heap.size 1 A n (Lib.byteCells l)) (hr' : Rd w w.heap.size 1 A' n' (Lib.byteCells l)) (hn : n ≤ 1099511627776) (hn' : n' ≤ 1099511627776) :
    Calls Try.prog 23 #[.agg #[.int .i64 q, .int .i64 p, .slice A n c], .agg #[.int .i64 q, .int .i64 p, .slice A' n' c']] w fun e w' => e = .returned (.bool true) ∧ Below w.heap.size w w' := by
  have hqq : (q != q) = false := by simp
  have hpp : (p != p) = false := by simp
  go_enter Try.func23, Try.ntmps23
  go_wp2_with fail
  refine (eqByteS_any A n c l A' n' c' l _ (((hr.alloc (Nat.le_refl _) _).alloc (by simp) _).more (by simp; omega)) (((hr'.alloc (Nat.le_refl _) _).alloc (by simp) _).more (by simp; omega)) hn hn').mono ?_
  rintro e w1 ⟨rfl, hb1⟩
  rw [eqL_self]
  go_wp2
  go_ret
  exact ⟨rfl, ((((Below.refl w.heap.size w).alloc (Nat.le_refl _) _).alloc (by simp) _).trans (hb1.mono (by simp; omega)))⟩
theorem szSector_any (q p : Int) (A : Option Addr) (n c : Nat) (left : Int) (hn : n ≤ 9223372036854775807) (hl : -1 ≤ left ∧ left ≤ 4611686018427387904) (w : World) :
    Calls Try.prog 19 #[.agg #[.int .i64 q, .int .i64 p, .slice A n c], .int .i64 left] w fun e w' => e = .returned (.int .i64 (if left - (n : Int) < 0 then -1 else left - (n : Int))) ∧ Below w.heap.size w w' := by
  by_cases h : left - (n : Int) < 0
  · rw [if_pos h]
    go_enter Try.func19, Try.ntmps19
    go_wp2_with (go_at_call 54; refine (szByteS_any _ _ _ _ hn hl _).mono ?_; rintro e w1 ⟨rfl, rfl⟩; rw [if_pos h])
    go_ret
    exact ⟨rfl, below1 _ _⟩
  · rw [if_neg h]
    go_enter Try.func19, Try.ntmps19
    go_wp2_with (go_at_call 54; refine (szByteS_any _ _ _ _ hn hl _).mono ?_; rintro e w1 ⟨rfl, rfl⟩; rw [if_neg h])
    go_ret
    exact ⟨rfl, below1 _ _⟩
theorem markSector_any (q p : Int) (A : Option Addr) (n c : Nat) (l : List UInt8) (lo hi k0 : Nat) (w : World) (ho : OwnB w lo hi A n c l) (hk0 : k0 ≤ 4611686018427387904) (hn : n ≤ 1099511627776) :
    Calls Try.prog 35 #[.agg #[.int .i64 q, .int .i64 p, .slice A n c], .int .i64 (k0 : Int)] w (MarkedB A n c k0 lo hi w) := by
  go_enter Try.func35, Try.ntmps35
  go_wp2_with fail
  refine (markByteS_any A n c l lo hi k0 _ (ho.keep (Eff.alloc _ _) (.inr (.inr (Nat.le_refl _)))) hk0 hn).mono ?_
  rintro e w1 ⟨rfl, h1, h2⟩
  go_wp2
  go_ret
  exact ⟨rfl, h1, ((Eff.refl _ _ _).new _).trans h2⟩
theorem markSector_1 (q p : Int) (A : Option Addr) (n c : Nat) (l : List UInt8) (lo hi : Nat) (w : World) (ho : OwnB w lo hi A n c l) (hn : n ≤ 1099511627776) :
    Calls Try.prog 35 #[.agg #[.int .i64 q, .int .i64 p, .slice A n c], .int .i64 1] w (MarkedB A n c 1 lo hi w) := markSector_any q p A n c l lo hi 1 w ho (by omega) hn
theorem heldSector_1 (q p : Int) (A : Option Addr) (n c : Nat) (w : World) (hr : Rd w w.heap.size 1 A n (Lib.byteCells (marksB 1 n))) (hn : n ≤ 1099511627776) :
    Calls Try.prog 43 #[.agg #[.int .i64 q, .int .i64 p, .slice A n c], .int .i64 1] w fun e w' => e = .returned (.int .i64 ((1 + n : Nat) : Int)) ∧ Below w.heap.size w w' := by
  go_enter Try.func43, Try.ntmps43
  go_wp2_with fail
  refine (heldByteS_1 A n c _ ((hr.alloc (Nat.le_refl _) _).more (by simp)) hn).mono ?_
  rintro e w1 ⟨rfl, hb1⟩
  go_wp2
  go_ret
  exact ⟨rfl, (below1 _ _).trans (hb1.mono (by simp))⟩
end Go.Proofs.Ytdjjmagocakpnaa
