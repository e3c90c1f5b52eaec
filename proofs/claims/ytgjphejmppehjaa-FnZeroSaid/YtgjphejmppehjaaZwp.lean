/- Plain laws on Post: what its answer says. No program in sight. -/
import Derived.Test.YtgjphejmppehjaaWorL
import Derived.Test.YtgjphejmppehjaaDpo
import Derived.Deep.RegionHeld3
namespace Go.Proofs.Ytgjphejmppehjaa
open Go.RowKit
theorem postR_zero {q p : Int} {ls ps : List Ln} (h : (postR q ls p ps).2.2 = 0) : ledOk q ls = true ∧ pstOk p ps = true ∧ ledOk p (mrgU ls ps) = true ∧ postR q ls p ps = (p, mrgU ls ps, 0) := by
  unfold postR at h ⊢
  split at h
  · rename_i h1
    simp only [Bool.and_eq_true] at h1
    rw [if_pos (by simp [h1])]
    split at h
    · simp at h
    · rename_i h2
      rw [if_neg h2]
      split at h
      · rename_i h3
        rw [if_pos h3]
        exact ⟨h1.1, h1.2, (mrg_led h1.1 h1.2).trans h3, rfl⟩
      · simp at h
  · simp at h
theorem postR_not {q p : Int} {ls ps : List Ln} (h : (postR q ls p ps).2.2 ≠ 0) : (postR q ls p ps).1 = 0 ∧ (postR q ls p ps).2.1 = [] := by
  unfold postR at h ⊢
  split
  · split
    · exact ⟨rfl, rfl⟩
    · split
      · rename_i h1 h2 h3
        rw [if_pos h1, if_neg h2, if_pos h3] at h
        exact absurd rfl h
      · exact ⟨rfl, rfl⟩
  · exact ⟨rfl, rfl⟩
/-- What is not owned. -/
def restA : List Ln → Int
  | [] => 0
  | x :: t => (if ownA x then 0 else x.a) + restA t
theorem rest_worth (ls : List Ln) : worth ls + restA ls = sumA ls := by
  induction ls with
  | nil => rfl
  | cons x t ih => simp only [worth, restA, sumA]; split <;> omega
theorem restA_app (l t : List Ln) : restA (l ++ t) = restA l + restA t := by
  induction l with
  | nil => simp [restA]
  | cons x l ih => simp only [List.cons_append, restA, ih]; omega
theorem restA_take {ls : List Ln} {k : Nat} (h : k < ls.length) : restA (ls.take (k + 1)) = restA (ls.take k) + (if ownA (lnAt ls k) then 0 else (lnAt ls k).a) := by
  rw [List.take_succ_eq_append_getElem h, restA_app]
  simp [restA, lnAt, List.getD, h]
theorem restA_bd {ls : List Ln} {k : Nat} (h : okTo ls k) (hk : k ≤ ls.length) : -(1125899906842624 * (k : Int)) ≤ restA (ls.take k) ∧ restA (ls.take k) ≤ 1125899906842624 * (k : Int) := by
  induction k with
  | zero => simp [restA]
  | succ k ih =>
    have h1 := ih (fun j hj => h j (by omega)) (by omega)
    have h2 := lnGood_iff.1 (okAt_iff.1 (h k (by omega))).1
    rw [restA_take (by omega)]
    split <;> omega
theorem pst_ok {p : Int} {ps : List Ln} (h : pstOk p ps = true) : okTo ps ps.length ∧ sumA ps = 0 ∧ 1 ≤ p ∧ p ≤ 1125899906842624 ∧ ps.length ≤ 8 := by
  simp only [pstOk, Bool.and_eq_true, decide_eq_true_eq] at h
  have := linesOk_iff.1 h.2
  have hp := inB_le h.1.1
  exact ⟨this.1, this.2, hp.1, hp.2, h.1.2.2⟩
theorem led_ok {q : Int} {ls : List Ln} (h : ledOk q ls = true) : okTo ls ls.length ∧ sumA ls = 0 ∧ ls.length ≤ 302 := by
  simp only [ledOk, Bool.and_eq_true] at h
  have := linesOk_iff.1 h.2
  exact ⟨this.1, this.2, okTo_le this.1⟩
/-- What is owned changes by the opposite of the other accounts' change. -/
theorem post_worth {q p : Int} {ls ps : List Ln} (h : (postR q ls p ps).2.2 = 0) : wor p (mrgU ls ps) = wor q ls - restA ps := by
  obtain ⟨h1, h2, h3, -⟩ := postR_zero h
  unfold wor
  rw [if_pos h1, if_pos h3, mrgU_worth]
  have := rest_worth ps
  rw [(pst_ok h2).2.1] at this
  omega
theorem wor_bd (q : Int) (ls : List Ln) : -(1125899906842624 * 302) ≤ wor q ls ∧ wor q ls ≤ 1125899906842624 * 302 := by
  unfold wor
  split
  · rename_i h
    obtain ⟨h1, -, h2⟩ := led_ok h
    have := worth_bd h1 (Nat.le_refl _)
    rw [List.take_length] at this
    omega
  · omega
theorem wor_none : wor 0 [] = 0 := by unfold wor; split <;> rfl
theorem ln_acc {ls : List Ln} {i : Nat} {x0 x1 x2 : Int} (h : okTo ls ls.length) (hi : i < ls.length) (hx : lnAt ls i = ⟨x0, x1, x2⟩) : 1 ≤ x0 ∧ x0 ≤ 8 ∧ -1125899906842624 ≤ x2 ∧ x2 ≤ 1125899906842624 := by
  have h2 := lnGood_iff.1 (okAt_iff.1 (h i hi)).1
  rw [hx] at h2
  have := accOk_iff.1 h2.1
  simp only at this h2
  omega
theorem ownA_rest {x0 x1 x2 : Int} (h : x0 = 2 ∨ x0 = 3 ∨ x0 = 4 ∨ x0 = 5) : ownA ⟨x0, x1, x2⟩ = false := by
  rcases h with rfl | rfl | rfl | rfl <;> simp [ownA]
theorem ownA_own {x0 x1 x2 : Int} (h1 : 1 ≤ x0) (h : ¬ (x0 = 2 ∨ x0 = 3 ∨ x0 = 4 ∨ x0 = 5)) : ownA ⟨x0, x1, x2⟩ = true := by
  simp [ownA]; omega
/-- The reversal of a posting is posted, and undoes it; or its number is too great. -/
theorem post_again {q p : Int} {ls ps : List Ln} (h : (postR q ls p ps).2.2 = 0) : (p < 1125899906842624 ∧ postR p (mrgU ls ps) (p + 1) (negL ps) = (p + 1, ls, 0)) ∨ (p = 1125899906842624 ∧ postR p (mrgU ls ps) (p + 1) (negL ps) = (0, [], 1)) := by
  obtain ⟨h1, h2, h3, -⟩ := postR_zero h
  obtain ⟨-, -, h4, h5, -⟩ := pst_ok h2
  rcases Int.lt_or_le p 1125899906842624 with hp | hp
  · refine .inl ⟨hp, ?_⟩
    have h6 := neg_pst h2 hp
    unfold postR
    rw [h3, h6, if_pos (by rfl), if_neg (by omega), post_back h1 h2, if_pos]
    have := (led_rng h1).1
    rw [List.all_eq_true]
    exact this
  · refine .inr ⟨by omega, ?_⟩
    unfold postR
    rw [if_neg]
    simp only [Bool.and_eq_true, not_and]
    intro _ h7
    have := pst_ok h7
    omega
theorem neg_cells (x : Ln) : (⟨x.k, x.c, -x.a⟩ : Ln) = ⟨x.k, x.c, -x.a⟩ := rfl
theorem negL_take {ps : List Ln} {k : Nat} (h : k < ps.length) : negL (ps.take (k + 1)) = negL (ps.take k) ++ [⟨(lnAt ps k).k, (lnAt ps k).c, -(lnAt ps k).a⟩] := by
  unfold negL
  rw [List.take_succ_eq_append_getElem h, List.map_append]
  simp [lnAt, List.getD, h]
end Go.Proofs.Ytgjphejmppehjaa
