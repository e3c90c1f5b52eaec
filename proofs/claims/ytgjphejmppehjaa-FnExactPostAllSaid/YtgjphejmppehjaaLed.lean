/- Ledgers and postings: a number and a slice of lines. -/
import Derived.Test.YtgjphejmppehjaaLne
namespace Go.Proofs.Ytgjphejmppehjaa
open Go.RowKit
theorem below1 (w : World) (o : Obj) : Below w.heap.size w (w.alloc o) := (Below.refl _ _).alloc (Nat.le_refl _) o
theorem Own.made {e s lo hi lo' hi' B n c : Nat} {w w' : World} {A : Option Addr} {xs : List Value} (h : Own e s w lo hi A n c xs) (he : Eff lo' hi' w w') (hd : hi ≤ lo' ∨ hi' ≤ lo ∨ hi' ≤ lo') (hB : B ≤ lo) : Own e s w' B w'.heap.size A n c xs := by
  have h1 := h.keep he hd
  exact Own.wide h1 hB (Nat.le_trans (Own.le h) he.size) (Nat.le_refl _)
/-- A number and lines of the call's own. -/
def MadeLd (q : Int) (n : Nat) (ls : List Ln) (w : World) (e : Ending) (w' : World) : Prop :=
  ∃ A c, e = .returned (.agg #[.int .i64 q, .slice A n c]) ∧ OwnL w' w.heap.size w'.heap.size A n c ls ∧ Below w.heap.size w w'
set_option maxHeartbeats 400000 in
theorem toLedger_any (q : Int) (A : Option Addr) (n c : Nat) (ls : List Ln) (w : World) (hr : Rd w w.heap.size 3 A n (lnCells ls)) (hn : n ≤ 1099511627776) :
    Calls Try.prog 19 #[.agg #[.int .i64 q, .slice A n c]] w (MadeLd q n ls w) := by
  go_enter Try.func19, Try.ntmps19
  go_wp2_with (go_at_call 14; refine (toLineS_any A n c ls _ ((((hr.alloc (Nat.le_refl _) _).alloc (by simp) _).alloc (by simp; omega) _).more (by simp; omega)) hn).mono ?_; rintro e w1 ⟨A1, c1, rfl, t1, hb1⟩; have hz1 := hb1.size; (try simp at hz1); have hk0 := fun o => hb1.cell (p := ⟨w.heap.size, o, none⟩) (by first | omega | (simp; omega) | (simp; done)); have hf0 := fun o => hb1.frozen (p := ⟨w.heap.size, o, none⟩) (by first | omega | (simp; omega) | (simp; done)); have hk1 := fun o => hb1.cell (p := ⟨w.heap.size + 1, o, none⟩) (by first | omega | (simp; omega) | (simp; done)); have hf1 := fun o => hb1.frozen (p := ⟨w.heap.size + 1, o, none⟩) (by first | omega | (simp; omega) | (simp; done)); have hk1_1 := fun o => hb1.cell (p := ⟨w.heap.size + 1 + 1, o, none⟩) (by first | omega | (simp; omega) | (simp; done)); have hf1_1 := fun o => hb1.frozen (p := ⟨w.heap.size + 1 + 1, o, none⟩) (by first | omega | (simp; omega) | (simp; done)))
  refine bodyPost_ret (v := .agg #[.int .i64 q, .slice A1 n c1]) (by simp [results, Try.results19, go_sem, *]) rfl ?_
  refine ⟨A1, c1, rfl, Own.made t1 (lo' := w.heap.size) (hi' := w.heap.size + 3) ?_ ?_ ?_, ?_⟩
  · repeat' (first | exact Eff.refl _ _ _ | (refine Eff.setCell ?_ ?_ ?_ _) | omega | (simp; omega) | (simp; done))
  · first | (simp; done) | (simp; omega)
  · first | (simp; done) | (simp; omega)
  · repeat' (first | exact Below.refl _ _ | (refine Below.alloc ?_ ?_ _) | (refine Below.drew ?_) | (refine Below.setCell ?_ ?_ _) | (refine Below.trans ?_ (Below.mono (by assumption) ?_)) | omega | (simp; omega) | (simp; done) | exact Below.size (by assumption) | (refine Nat.le_trans ?_ (Below.size (by assumption))))
set_option maxHeartbeats 400000 in
theorem eqLedger_same (q : Int) (A : Option Addr) (n c : Nat) (A' : Option Addr) (n' c' : Nat) (ls : List Ln) (w : World) (hr : Rd w w.heap.size 3 A n (lnCells ls)) (hr' : Rd w w.heap.size 3 A' n' (lnCells ls)) (hn : n ≤ 1099511627776) :
    Calls Try.prog 21 #[.agg #[.int .i64 q, .slice A n c], .agg #[.int .i64 q, .slice A' n' c']] w fun e w' => e = .returned (.bool true) ∧ Below w.heap.size w w' := by
  have hqq : (q != q) = false := by simp
  go_enter Try.func21, Try.ntmps21
  go_wp2_with fail
  refine (eqLineS_same A n c A' n' c' ls _ (((hr.alloc (Nat.le_refl _) _).alloc (by simp) _).more (by simp; omega)) (((hr'.alloc (Nat.le_refl _) _).alloc (by simp) _).more (by simp; omega)) hn).mono ?_
  rintro e w1 ⟨rfl, hb1⟩
  go_wp2
  go_ret
  exact ⟨rfl, ((((Below.refl w.heap.size w).alloc (Nat.le_refl _) _).alloc (by simp) _).trans (hb1.mono (by simp; omega)))⟩
theorem szLedger_any (q : Int) (A : Option Addr) (n c : Nat) (left : Int) (hn : n ≤ 9223372036854775807) (hl : -1 ≤ left ∧ left ≤ 4611686018427387904) (w : World) :
    Calls Try.prog 17 #[.agg #[.int .i64 q, .slice A n c], .int .i64 left] w fun e w' => e = .returned (.int .i64 (if left - (n : Int) < 0 then -1 else left - (n : Int))) ∧ Below w.heap.size w w' := by
  by_cases h : left - (n : Int) < 0
  · rw [if_pos h]
    go_enter Try.func17, Try.ntmps17
    go_wp2_with (go_at_call 12; refine (szLineS_any _ _ _ _ hn hl _).mono ?_; rintro e w1 ⟨rfl, rfl⟩; rw [if_pos h])
    go_ret
    exact ⟨rfl, below1 _ _⟩
  · rw [if_neg h]
    go_enter Try.func17, Try.ntmps17
    go_wp2_with (go_at_call 12; refine (szLineS_any _ _ _ _ hn hl _).mono ?_; rintro e w1 ⟨rfl, rfl⟩; rw [if_neg h])
    go_ret
    exact ⟨rfl, below1 _ _⟩
theorem markLedger_any (q : Int) (A : Option Addr) (n c : Nat) (ls : List Ln) (lo hi k0 : Nat) (w : World) (ho : OwnL w lo hi A n c ls) (hk0 : k0 ≤ 4611686018427387904) (hn : n ≤ 1099511627776) :
    Calls Try.prog 34 #[.agg #[.int .i64 q, .slice A n c], .int .i64 (k0 : Int)] w (MarkedL A n c k0 lo hi w) := by
  go_enter Try.func34, Try.ntmps34
  go_wp2_with fail
  refine (markLineS_any A n c ls lo hi k0 _ (Own.keep ho (Eff.alloc _ _) (.inr (.inr (Nat.le_refl _)))) hk0 hn).mono ?_
  rintro e w1 ⟨rfl, h1, h2⟩
  go_wp2
  go_ret
  exact ⟨rfl, h1, ((Eff.refl _ _ _).new _).trans h2⟩
theorem heldLedger_yes (q : Int) (A : Option Addr) (n c k0 : Nat) (w : World) (hr : Rd w w.heap.size 3 A n (lnCells (marksL k0 n))) (hk0 : k0 ≤ 4611686018427387904) (hn : n ≤ 1099511627776) :
    Calls Try.prog 36 #[.agg #[.int .i64 q, .slice A n c], .int .i64 (k0 : Int)] w fun e w' => e = .returned (.int .i64 ((k0 + n * 3 : Nat) : Int)) ∧ Below w.heap.size w w' := by
  go_enter Try.func36, Try.ntmps36
  go_wp2_with fail
  refine (heldLineS_yes A n c k0 _ ((hr.alloc (Nat.le_refl _) _).more (by simp)) hk0 hn).mono ?_
  rintro e w1 ⟨rfl, hb1⟩
  go_wp2
  go_ret
  exact ⟨rfl, (below1 _ _).trans (hb1.mono (by simp))⟩
set_option maxHeartbeats 400000 in
theorem toPosting_any (q : Int) (A : Option Addr) (n c : Nat) (ls : List Ln) (w : World) (hr : Rd w w.heap.size 3 A n (lnCells ls)) (hn : n ≤ 1099511627776) :
    Calls Try.prog 24 #[.agg #[.int .i64 q, .slice A n c]] w (MadeLd q n ls w) := by
  go_enter Try.func24, Try.ntmps24
  go_wp2_with (go_at_call 14; refine (toLineS_any A n c ls _ ((((hr.alloc (Nat.le_refl _) _).alloc (by simp) _).alloc (by simp; omega) _).more (by simp; omega)) hn).mono ?_; rintro e w1 ⟨A1, c1, rfl, t1, hb1⟩; have hz1 := hb1.size; (try simp at hz1); have hk0 := fun o => hb1.cell (p := ⟨w.heap.size, o, none⟩) (by first | omega | (simp; omega) | (simp; done)); have hf0 := fun o => hb1.frozen (p := ⟨w.heap.size, o, none⟩) (by first | omega | (simp; omega) | (simp; done)); have hk1 := fun o => hb1.cell (p := ⟨w.heap.size + 1, o, none⟩) (by first | omega | (simp; omega) | (simp; done)); have hf1 := fun o => hb1.frozen (p := ⟨w.heap.size + 1, o, none⟩) (by first | omega | (simp; omega) | (simp; done)); have hk1_1 := fun o => hb1.cell (p := ⟨w.heap.size + 1 + 1, o, none⟩) (by first | omega | (simp; omega) | (simp; done)); have hf1_1 := fun o => hb1.frozen (p := ⟨w.heap.size + 1 + 1, o, none⟩) (by first | omega | (simp; omega) | (simp; done)))
  refine bodyPost_ret (v := .agg #[.int .i64 q, .slice A1 n c1]) (by simp [results, Try.results24, go_sem, *]) rfl ?_
  refine ⟨A1, c1, rfl, Own.made t1 (lo' := w.heap.size) (hi' := w.heap.size + 3) ?_ ?_ ?_, ?_⟩
  · repeat' (first | exact Eff.refl _ _ _ | (refine Eff.setCell ?_ ?_ ?_ _) | omega | (simp; omega) | (simp; done))
  · first | (simp; done) | (simp; omega)
  · first | (simp; done) | (simp; omega)
  · repeat' (first | exact Below.refl _ _ | (refine Below.alloc ?_ ?_ _) | (refine Below.drew ?_) | (refine Below.setCell ?_ ?_ _) | (refine Below.trans ?_ (Below.mono (by assumption) ?_)) | omega | (simp; omega) | (simp; done) | exact Below.size (by assumption) | (refine Nat.le_trans ?_ (Below.size (by assumption))))
set_option maxHeartbeats 400000 in
theorem eqPosting_same (q : Int) (A : Option Addr) (n c : Nat) (A' : Option Addr) (n' c' : Nat) (ls : List Ln) (w : World) (hr : Rd w w.heap.size 3 A n (lnCells ls)) (hr' : Rd w w.heap.size 3 A' n' (lnCells ls)) (hn : n ≤ 1099511627776) :
    Calls Try.prog 26 #[.agg #[.int .i64 q, .slice A n c], .agg #[.int .i64 q, .slice A' n' c']] w fun e w' => e = .returned (.bool true) ∧ Below w.heap.size w w' := by
  have hqq : (q != q) = false := by simp
  go_enter Try.func26, Try.ntmps26
  go_wp2_with fail
  refine (eqLineS_same A n c A' n' c' ls _ (((hr.alloc (Nat.le_refl _) _).alloc (by simp) _).more (by simp; omega)) (((hr'.alloc (Nat.le_refl _) _).alloc (by simp) _).more (by simp; omega)) hn).mono ?_
  rintro e w1 ⟨rfl, hb1⟩
  go_wp2
  go_ret
  exact ⟨rfl, ((((Below.refl w.heap.size w).alloc (Nat.le_refl _) _).alloc (by simp) _).trans (hb1.mono (by simp; omega)))⟩
theorem szPosting_any (q : Int) (A : Option Addr) (n c : Nat) (left : Int) (hn : n ≤ 9223372036854775807) (hl : -1 ≤ left ∧ left ≤ 4611686018427387904) (w : World) :
    Calls Try.prog 22 #[.agg #[.int .i64 q, .slice A n c], .int .i64 left] w fun e w' => e = .returned (.int .i64 (if left - (n : Int) < 0 then -1 else left - (n : Int))) ∧ Below w.heap.size w w' := by
  by_cases h : left - (n : Int) < 0
  · rw [if_pos h]
    go_enter Try.func22, Try.ntmps22
    go_wp2_with (go_at_call 12; refine (szLineS_any _ _ _ _ hn hl _).mono ?_; rintro e w1 ⟨rfl, rfl⟩; rw [if_pos h])
    go_ret
    exact ⟨rfl, below1 _ _⟩
  · rw [if_neg h]
    go_enter Try.func22, Try.ntmps22
    go_wp2_with (go_at_call 12; refine (szLineS_any _ _ _ _ hn hl _).mono ?_; rintro e w1 ⟨rfl, rfl⟩; rw [if_neg h])
    go_ret
    exact ⟨rfl, below1 _ _⟩
theorem markPosting_any (q : Int) (A : Option Addr) (n c : Nat) (ls : List Ln) (lo hi k0 : Nat) (w : World) (ho : OwnL w lo hi A n c ls) (hk0 : k0 ≤ 4611686018427387904) (hn : n ≤ 1099511627776) :
    Calls Try.prog 35 #[.agg #[.int .i64 q, .slice A n c], .int .i64 (k0 : Int)] w (MarkedL A n c k0 lo hi w) := by
  go_enter Try.func35, Try.ntmps35
  go_wp2_with fail
  refine (markLineS_any A n c ls lo hi k0 _ (Own.keep ho (Eff.alloc _ _) (.inr (.inr (Nat.le_refl _)))) hk0 hn).mono ?_
  rintro e w1 ⟨rfl, h1, h2⟩
  go_wp2
  go_ret
  exact ⟨rfl, h1, ((Eff.refl _ _ _).new _).trans h2⟩
end Go.Proofs.Ytgjphejmppehjaa
