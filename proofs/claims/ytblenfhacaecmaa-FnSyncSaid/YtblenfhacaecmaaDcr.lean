/- Crashes and syncs in plain Lean, write after write. No program in sight. -/
import Derived.Test.YtblenfhacaecmaaDpl
namespace Go.Proofs.Ytblenfhacaecmaa
open Go.RowKit
/-- How much of write k is kept. -/
def kp (ks : List Int) (k : Nat) : Nat := clampK (ks.getD k 0)
/-- The cells behind the first k writes of a crash. -/
def crashN (dc : List (List UInt8)) (dw : List (Int × List UInt8)) (ks : List Int) : Nat → List (List UInt8)
  | 0 => dc
  | k + 1 => match dw[k]? with
    | some x => keepC (crashN dc dw ks k) x (kp ks k)
    | none => crashN dc dw ks k
/-- The cells behind the first k writes of a sync. -/
def syncN (dc : List (List UInt8)) (dw : List (Int × List UInt8)) : Nat → List (List UInt8)
  | 0 => dc
  | k + 1 => match dw[k]? with
    | some x => (syncN dc dw k).set x.1.toNat x.2
    | none => syncN dc dw k
theorem crashN_succ {dc : List (List UInt8)} {dw : List (Int × List UInt8)} {ks : List Int} {k : Nat} {x : Int × List UInt8} (h : dw[k]? = some x) : crashN dc dw ks (k + 1) = keepC (crashN dc dw ks k) x (kp ks k) := by simp only [crashN, h]
theorem syncN_succ {dc : List (List UInt8)} {dw : List (Int × List UInt8)} {k : Nat} {x : Int × List UInt8} (h : dw[k]? = some x) : syncN dc dw (k + 1) = (syncN dc dw k).set x.1.toNat x.2 := by simp only [syncN, h]
theorem clampK_le (n : Int) : clampK n ≤ 128 := by unfold clampK; split; omega; split <;> omega
theorem clampK_zero {n : Int} (h : n < 1) : clampK n = 0 := by unfold clampK; split; rfl; rw [if_neg (by omega)]; omega
theorem clampK_pos {n : Int} (h : 1 ≤ n) : 1 ≤ clampK n := by unfold clampK; rw [if_neg (by omega)]; split <;> omega
theorem kp_none {ks : List Int} {k : Nat} (h : ks.length ≤ k) : kp ks k = 0 := by
  unfold kp; rw [show ks.getD k 0 = 0 by simp [List.getD, List.getElem?_eq_none h]]; rfl
theorem kp_some {ks : List Int} {k : Nat} {z : Int} (h : ks[k]? = some z) : kp ks k = clampK z := by unfold kp; simp [List.getD, h]
theorem keepC_len (cs : List (List UInt8)) (x : Int × List UInt8) (n : Nat) : (keepC cs x n).length = cs.length := by unfold keepC; split <;> simp
theorem tearC_len {l b : List UInt8} {n : Nat} (hl : l.length = 0 ∨ l.length = 128) (hb : b.length = 128) : (tearC l b n).length = 128 := by
  have := fullC_len hl
  simp only [tearC, List.length_append, List.length_take, List.length_drop]; omega
theorem crashN_ok {dc : List (List UInt8)} {dw : List (Int × List UInt8)} {ks : List Int} (h : dkOk dc dw = true) (k : Nat) : (crashN dc dw ks k).length = dc.length ∧ ∀ l ∈ crashN dc dw ks k, l.length = 0 ∨ l.length = 128 := by
  obtain ⟨_, hc, hw⟩ := dkOk_iff.1 h
  induction k with
  | zero => exact ⟨rfl, hc⟩
  | succ k ih =>
    simp only [crashN]
    split
    · next x hx =>
      refine ⟨by rw [keepC_len]; exact ih.1, fun l hl => ?_⟩
      unfold keepC at hl
      split at hl
      · exact ih.2 l hl
      · rcases List.mem_or_eq_of_mem_set hl with hl | rfl
        · exact ih.2 l hl
        · refine .inr (tearC_len ?_ (hw x (List.mem_of_getElem? hx)).2.2)
          by_cases hi : x.1.toNat < (crashN dc dw ks k).length
          · rw [show (crashN dc dw ks k).getD x.1.toNat [] = (crashN dc dw ks k)[x.1.toNat] by simp [List.getD, hi]]
            exact ih.2 _ (List.getElem_mem _)
          · rw [show (crashN dc dw ks k).getD x.1.toNat [] = [] by simp [List.getD, List.getElem?_eq_none (Nat.le_of_not_lt hi)]]
            exact .inl rfl
    · exact ih
theorem crashN_at {dc : List (List UInt8)} {dw : List (Int × List UInt8)} {ks : List Int} (h : dkOk dc dw = true) (k : Nat) {i : Nat} {l : List UInt8} (hl : (crashN dc dw ks k)[i]? = some l) : l.length = 0 ∨ l.length = 128 :=
  (crashN_ok h k).2 l (List.mem_of_getElem? hl)
theorem syncN_crash {dc : List (List UInt8)} {dw : List (Int × List UInt8)} {ks : List Int} (h : dkOk dc dw = true) (hk : ∀ k, k < dw.length → kp ks k = 128) : ∀ k, k ≤ dw.length → crashN dc dw ks k = syncN dc dw k := by
  intro k
  induction k with
  | zero => intro _; rfl
  | succ k ih =>
    intro hle
    have hx := List.getElem?_eq_getElem (l := dw) (i := k) (by omega)
    have hb := ((dkOk_iff.1 h).2.2 dw[k] (List.getElem_mem _)).2.2
    rw [crashN_succ hx, syncN_succ hx, ← ih (by omega), hk k (by omega)]
    unfold keepC
    rw [if_neg (by omega)]
    congr 1
    have hl : ((crashN dc dw ks k).getD dw[k].1.toNat []).length = 0 ∨ ((crashN dc dw ks k).getD dw[k].1.toNat []).length = 128 := by
      by_cases hi : dw[k].1.toNat < (crashN dc dw ks k).length
      · rw [show (crashN dc dw ks k).getD dw[k].1.toNat [] = (crashN dc dw ks k)[dw[k].1.toNat] by simp [List.getD, hi]]
        exact (crashN_ok h k).2 _ (List.getElem_mem _)
      · rw [show (crashN dc dw ks k).getD dw[k].1.toNat [] = [] by simp [List.getD, List.getElem?_eq_none (Nat.le_of_not_lt hi)]]
        exact .inl rfl
    have := fullC_len hl
    unfold tearC
    rw [List.take_of_length_le (by omega), List.drop_eq_nil_of_le (by omega), List.append_nil]
theorem kp_full {n k : Nat} (h : k < n) : kp (List.replicate n (128 : Int)) k = 128 := by
  rw [kp_some (z := 128) (by simp [h])]; rfl
/-- What is set into the cells by one write of a crash. -/
theorem keepC_set {cs : List (List UInt8)} {x : Int × List UInt8} {n : Nat} {l : List UInt8} (hn : 1 ≤ n) (hl : cs[x.1.toNat]? = some l) : keepC cs x n = cs.set x.1.toNat (tearC l x.2 n) := by
  unfold keepC; rw [if_neg (by omega), show cs.getD x.1.toNat [] = l by simp [List.getD, hl]]
theorem keepC_zero (cs : List (List UInt8)) (x : Int × List UInt8) : keepC cs x 0 = cs := rfl
end Go.Proofs.Ytblenfhacaecmaa
