/- A synced disk survives a crash, in plain Lean: what is read is what was read. No program in sight. -/
import Derived.Test.YtblenfhacaecmaaDrr
import Derived.Test.YtblenfhacaecmaaDcr
namespace Go.Proofs.Ytblenfhacaecmaa
open Go.RowKit
theorem lenB_ok {dc : List (List UInt8)} {dw : List (Int × List UInt8)} (h : dkOk dc dw = true) : lenB dc dw := by
  obtain ⟨⟨_, h1, h2⟩, h3, h4⟩ := dkOk_iff.1 h
  exact ⟨by omega, by omega, fun l hl => by have := h3 l hl; omega, fun x hx => by have := (h4 x hx).2.2; omega⟩
theorem sync_as_crash {dc : List (List UInt8)} {dw : List (Int × List UInt8)} (h : dkOk dc dw = true) {k : Nat} (hk : k ≤ dw.length) : syncN dc dw k = crashN dc dw (List.replicate dw.length 128) k :=
  (syncN_crash h (fun _ hj => kp_full hj) k hk).symm
theorem crash_dk {dc : List (List UInt8)} {dw : List (Int × List UInt8)} (ks : List Int) (h : dkOk dc dw = true) (k : Nat) : dkOk (crashN dc dw ks k) [] = true := by
  obtain ⟨h1, h2⟩ := crashN_ok (ks := ks) h k
  obtain ⟨h3, _, _⟩ := dkOk_iff.1 h
  exact dkOk_iff.2 ⟨by rw [h1]; simp; omega, h2, fun x hx => by simp at hx⟩
theorem sync_dk {dc : List (List UInt8)} {dw : List (Int × List UInt8)} (h : dkOk dc dw = true) : dkOk (syncN dc dw dw.length) [] = true := by
  rw [sync_as_crash h (Nat.le_refl _)]; exact crash_dk _ h _
theorem sync_len {dc : List (List UInt8)} {dw : List (Int × List UInt8)} (h : dkOk dc dw = true) {k : Nat} (hk : k ≤ dw.length) : (syncN dc dw k).length = dc.length := by
  rw [sync_as_crash h hk]; exact (crashN_ok h k).1
theorem fullC_128 {l : List UInt8} (h : l.length = 128) : fullC l = l := by unfold fullC; rw [if_neg (by omega)]
/-- What is read of a disk whose first k writes are done. -/
theorem sync_read {dc : List (List UInt8)} {dw : List (Int × List UInt8)} (h : dkOk dc dw = true) {p : Int} (h0 : 0 ≤ p) (hp : p < (dc.length : Int)) (k : Nat) (hk : k ≤ dw.length) :
    readD (syncN dc dw k) [] p = readD dc (dw.take k) p := by
  induction k with
  | zero => simp [syncN]
  | succ k ih =>
    have ih := ih (by omega)
    obtain ⟨x, hx⟩ : ∃ x, dw[k]? = some x := ⟨_, List.getElem?_eq_getElem (show k < dw.length by omega)⟩
    have hxo := (dkOk_iff.1 h).2.2 x (List.mem_of_getElem? hx)
    have hl := sync_len h (k := k) (by omega)
    rw [syncN_succ hx]
    by_cases e : x.1 = p
    · have h1 : rdW p (dw.take (k + 1)) = some x.2 := by rw [rdW_take hx, if_pos e]
      rw [readD_hit h1, readD_none (rdW_nil p), e, List.getD_eq_getElem?_getD, List.getElem?_set_self (by omega)]
      exact fullC_128 hxo.2.2
    · have h1 : rdW p (dw.take (k + 1)) = rdW p (dw.take k) := by rw [rdW_take hx, if_neg e]
      have h2 : readD dc (dw.take (k + 1)) p = readD dc (dw.take k) p := by
        unfold readD; rw [h1]
      rw [h2, ← ih, readD_none (rdW_nil p), readD_none (rdW_nil p), List.getD_eq_getElem?_getD, List.getD_eq_getElem?_getD, List.getElem?_set_ne (by omega)]
/-- Behind a sync and a crash each cell reads as before. -/
theorem synced_read {dc : List (List UInt8)} {dw : List (Int × List UInt8)} (h : dkOk dc dw = true) {p : Int} (h0 : 0 ≤ p) (hp : p < (dc.length : Int)) :
    drdB (syncN dc dw dw.length) [] p = drdB dc dw p ∧ drdOk dc dw p = true ∧ drdOk (syncN dc dw dw.length) [] p = true := by
  have h1 : drdOk dc dw p = true := by unfold drdOk inD; rw [h]; simp; omega
  have h2 : drdOk (syncN dc dw dw.length) [] p = true := by unfold drdOk inD; rw [sync_dk h, sync_len h (Nat.le_refl _)]; simp; omega
  refine ⟨?_, h1, h2⟩
  unfold drdB
  rw [h1, h2, if_pos rfl, if_pos rfl, sync_read h h0 hp _ (Nat.le_refl _), List.take_length]
theorem crash_none (dc : List (List UInt8)) (ks : List Int) : crashN dc [] ks ([] : List (Int × List UInt8)).length = dc := rfl
end Go.Proofs.Ytblenfhacaecmaa
