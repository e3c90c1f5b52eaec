/- Accounts: AccOk (program and reference), toAcc, and the law's walk. An account is two integers. -/
import Derived.Test.YtoeegfcbicjhgaaAmt1
import Derived.Lib.SmallJoins
namespace Go.Proofs.Ytoeegfcbicjhgaa
open Go.RowKit

def accOk (k c : Int) : Bool := if inB k 6 8 then inB c 1 99 else inB k 1 5 && c == 0
theorem ret_boolA {a b : Bool} (h : a = b) : Ending.returned (.bool a) = .returned (.bool b) := by rw [h]

theorem laws_toAcc (k c : Int) (w : World) : Calls Try.prog 26 #[.agg #[.int .i64 k, .int .i64 c]] w fun e w' => e = .returned (.agg #[.int .i64 k, .int .i64 c]) ∧ Below w.heap.size w w' := by
  go_enter Try.func26, Try.ntmps26
  go_wp2
  refine bodyPost_ret (v := .agg #[.int .i64 k, .int .i64 c]) (by simp [results, Try.results26, go_sem]) rfl ⟨rfl, ?_⟩
  exact ((((Below.refl _ _).alloc (Nat.le_refl _) _).alloc (by simp) _).alloc (by simp; omega) _)
theorem impl_AccOk (k c : Int) (w : World) : Calls Try.prog 27 #[.agg #[.int .i64 k, .int .i64 c]] w fun e w' => e = .returned (.bool (accOk k c)) ∧ Below w.heap.size w w' := by
  obtain ⟨r, hr⟩ : ∃ r, accOk k c = r := ⟨_, rfl⟩
  rw [hr]
  have HR := Lib.hid hr
  clear hr
  go_enter Try.func27, Try.ntmps27
  go_wp2_with (go_at_call 36; refine (in_any _ _ _ _).mono ?_; rintro e w' ⟨rfl, rfl⟩)
  all_goals
    go_ret
    exact ⟨ret_boolA (by rw [← HR.out]; simp [accOk, *]), (Below.refl _ _).alloc (Nat.le_refl _) _⟩
theorem spec_AccOk (k c : Int) (w : World) : Calls Try.prog 25 #[.agg #[.int .i64 k, .int .i64 c]] w fun e w' => e = .returned (.bool (accOk k c)) ∧ Below w.heap.size w w' := by
  by_cases h1 : k < 1
  · rw [show accOk k c = false by simp [accOk, inB_false (n := k) (lo := 6) (hi := 8) (by omega), inB_false (n := k) (lo := 1) (hi := 5) (by omega)]]
    go_enter Try.func25, Try.ntmps25
    go_wp2
    go_ret
    exact ⟨rfl, (Below.refl _ _).alloc (Nat.le_refl _) _⟩
  · have h1' : 1 ≤ k := by omega
    clear h1
    by_cases h2 : 8 < k
    · rw [show accOk k c = false by simp [accOk, inB_false (n := k) (lo := 6) (hi := 8) (by omega), inB_false (n := k) (lo := 1) (hi := 5) (by omega)]]
      go_enter Try.func25, Try.ntmps25
      go_wp2
      go_ret
      exact ⟨rfl, (Below.refl _ _).alloc (Nat.le_refl _) _⟩
    · have h2' : k ≤ 8 := by omega
      clear h2
      by_cases h3 : k < 6
      · rw [show accOk k c = (c == 0) by simp [accOk, inB_false (n := k) (lo := 6) (hi := 8) (by omega), inB_true (n := k) (lo := 1) (hi := 5) (by omega) (by omega)]]
        go_enter Try.func25, Try.ntmps25
        go_wp2
        go_ret
        exact ⟨rfl, (Below.refl _ _).alloc (Nat.le_refl _) _⟩
      · have h3' : 6 ≤ k := by omega
        clear h3
        rw [show accOk k c = inB c 1 99 by simp [accOk, inB_true (n := k) (lo := 6) (hi := 8) (by omega) (by omega)]]
        by_cases h4 : 1 ≤ c
        · by_cases h5 : c ≤ 99
          · rw [inB_true h4 h5]
            go_enter Try.func25, Try.ntmps25
            go_wp2
            go_ret
            exact ⟨rfl, (Below.refl _ _).alloc (Nat.le_refl _) _⟩
          · have h5' : 99 < c := by omega
            clear h5
            rw [inB_false (.inr h5')]
            go_enter Try.func25, Try.ntmps25
            go_wp2
            go_ret
            exact ⟨ret_boolA (by simp; omega), (Below.refl _ _).alloc (Nat.le_refl _) _⟩
        · have h4' : c < 1 := by omega
          clear h4
          rw [inB_false (.inl h4')]
          go_enter Try.func25, Try.ntmps25
          go_wp2
          go_ret
          exact ⟨rfl, (Below.refl _ _).alloc (Nat.le_refl _) _⟩
open Go.Joins Go.ChangeShapes Go.WideShapes in
theorem open_Acc {H : Type} {enc : TypeId × Value → H} {W : World} {base : Nat} {spare : Nat → Bool} {held : Bool} {r : Reach} {b0 : Nat} {v : Value} {d : DataW H} {p : List MemPlace}
    (h : DataW.Trod enc Try.prog W base spare held 31 v d p) (hv : Value.okWide Try.prog W r b0 31 v) :
    ∃ k c : Int, v = .agg #[.int .i64 k, .int .i64 c] ∧ (Lit.int .i64 k).wf = true ∧ (Lit.int .i64 c).wf = true := by
  obtain ⟨c0, c1, y0, y1, m, rfl, rfl, rfl, hy0, hy1⟩ := open_agg2 Try.underlying31 (by kernel_rfl) (by kernel_rfl) hv h
  obtain ⟨a, e0, rfl, wa⟩ := DataW.trod_int Try.underlying3 hy0
  obtain ⟨b, e1, rfl, wb⟩ := DataW.trod_int Try.underlying3 hy1
  simp at e0 e1
  subst e0 e1
  exact ⟨a, b, rfl, wa, wb⟩

theorem walk_FnExactAccOk (k c : Int) (_wk : (Lit.int .i64 k).wf = true) (_wc : (Lit.int .i64 c).wf = true) (W : World) :
    Calls Try.prog 9 #[.agg #[.int .i64 k, .int .i64 c]] W fun e w' => e = .returned (.bool true) ∧ Below W.heap.size W w' := by
  go_enter Try.func9, Try.ntmps9
  go_wp2_with (first | (go_at_call 26; refine (laws_toAcc _ _ _).mono ?_; rintro e w1 ⟨rfl, hb1⟩; have hz1 := hb1.size; (try simp at hz1); have hk0 := fun o => hb1.cell (p := ⟨W.heap.size, o, none⟩) (by first | omega | (simp; omega) | (simp; done)); have hf0 := fun o => hb1.frozen (p := ⟨W.heap.size, o, none⟩) (by first | omega | (simp; omega) | (simp; done))) | (go_at_call 25; refine (spec_AccOk _ _ _).mono ?_; rintro e w1 ⟨rfl, hb1⟩; have hz1 := hb1.size; (try simp at hz1); have hk0 := fun o => hb1.cell (p := ⟨W.heap.size, o, none⟩) (by first | omega | (simp; omega) | (simp; done)); have hf0 := fun o => hb1.frozen (p := ⟨W.heap.size, o, none⟩) (by first | omega | (simp; omega) | (simp; done))) | (go_at_call 27; refine (impl_AccOk _ _ _).mono ?_; rintro e w1 ⟨rfl, hb1⟩; have hz1 := hb1.size; (try simp at hz1); have hk0 := fun o => hb1.cell (p := ⟨W.heap.size, o, none⟩) (by first | omega | (simp; omega) | (simp; done)); have hf0 := fun o => hb1.frozen (p := ⟨W.heap.size, o, none⟩) (by first | omega | (simp; omega) | (simp; done))))
  go_ret
  refine ⟨rfl, ?_⟩
  repeat' (first | exact Below.refl _ _ | (refine Below.alloc ?_ ?_ _) | (refine Below.drew ?_) | (refine Below.setCell ?_ ?_ _) | (refine Below.trans ?_ (Below.mono (by assumption) ?_)) | omega | (simp; omega) | (simp; done))
end Go.Proofs.Ytoeegfcbicjhgaa
