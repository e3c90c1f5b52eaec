/- A torn sector: the plain law. No program in sight. -/
import Derived.Test.YtdjjmagocakpnaaSecM
namespace Go.Proofs.Ytdjjmagocakpnaa
open Go.RowKit
theorem tail_sec {Q P n : Nat} {l : List UInt8} (hl : l.length = n) (hn : n ≤ 100) : (secBytes Q P n l).drop 125 = digs P 3 := by
  unfold secBytes
  exact List.drop_left' (by simp [digs_len, hl]; omega)
theorem head_sec (Q P n : Nat) (l : List UInt8) : ((secBytes Q P n l).drop 4).take 3 = digs P 3 := by
  rw [sec_cons]
  simp [digs]
theorem four_sec (Q P n P' n' : Nat) (l l' : List UInt8) : (secBytes Q P n l).take 4 = (secBytes Q P' n' l').take 4 := by
  rw [sec_cons, sec_cons]
  rfl
theorem digs3_inj {a b : Nat} (ha : a < 16777216) (hb : b < 16777216) (h : digs a 3 = digs b 3) : a = b := by
  have e : ∀ x, digs x 3 = [UInt8.ofNat (x / 65536), UInt8.ofNat (x / 256), UInt8.ofNat x] := fun x => by simp [digs]
  rw [e, e] at h
  rw [← be3 a ha, ← be3 b hb, h]
theorem get_tail {s : List UInt8} {d : List UInt8} (h : s.drop 125 = d) (i : Nat) : s[125 + i]? = d[i]? := by rw [← h, List.getElem?_drop]
theorem get_head {s : List UInt8} {d : List UInt8} (h : (s.drop 4).take 3 = d) {i : Nat} (hi : i < 3) : s[4 + i]? = d[i]? := by rw [← h, List.getElem?_take_of_lt hi, List.getElem?_drop]
theorem get_four {s s' : List UInt8} (h : s.take 4 = s'.take 4) {i : Nat} (hi : i < 4) : s[i]? = s'[i]? := by
  rw [← List.getElem?_take_of_lt hi, h, List.getElem?_take_of_lt hi]
theorem tear {Q P n P' n' k : Nat} {l l' : List UInt8} (hP : P < 16777216) (hP' : P' < 16777216) (hne : P ≠ P') (hn : n ≤ 100) (hn' : n' ≤ 100) (hl : l.length = n) (hl' : l'.length = n') (hk : k ≤ 128)
    {mix : List UInt8} (hmix : mix = (secBytes Q P' n' l').take k ++ (secBytes Q P n l).drop k) (hg : secGood mix = true) : mix = secBytes Q P n l ∨ mix = secBytes Q P' n' l' := by
  obtain ⟨g1, g2, g3, g4⟩ := good_is hg
  have gl := rdB_length g1 g2
  have ok := secOk_le g3
  have lo := secB_len (q := Q) (p := P) hl hn
  have ln := secB_len (q := Q) (p := P') hl' hn'
  have to := tail_sec (Q := Q) (P := P) hl hn
  have tn := tail_sec (Q := Q) (P := P') hl' hn'
  have tm := tail_sec (Q := rdQ mix) (P := rdP mix) gl g2
  have ho := head_sec Q P n l
  have hh := head_sec Q P' n' l'
  have hm := head_sec (rdQ mix) (rdP mix) (rdM mix) (rdB mix)
  rw [g4] at tm hm
  have h4 := four_sec Q P' n' P n l' l
  generalize secBytes Q P n l = old at *
  generalize secBytes Q P' n' l' = now at *
  have lt : ∀ j, j < k → mix[j]? = now[j]? := fun j hj => by
    rw [hmix, List.getElem?_append_left (by simp; omega), List.getElem?_take_of_lt hj]
  have ge : ∀ j, k ≤ j → mix[j]? = old[j]? := fun j hj => by
    rw [hmix, List.getElem?_append_right (by simp; omega), List.getElem?_drop]
    congr 1
    simp; omega
  have M : ∀ i, i < 3 → mix[4 + i]? = mix[125 + i]? := fun i hi => by rw [get_head hm hi, get_tail tm]
  have O : ∀ i, i < 3 → old[4 + i]? = old[125 + i]? := fun i hi => by rw [get_head ho hi, get_tail to]
  have N : ∀ i, i < 3 → now[4 + i]? = now[125 + i]? := fun i hi => by rw [get_head hh hi, get_tail tn]
  by_cases k125 : k ≤ 125
  · have heads : ∀ i, i < 3 → mix[4 + i]? = old[4 + i]? := fun i hi => by rw [M i hi, O i hi, ge _ (by omega)]
    left
    by_cases k7 : 7 ≤ k
    · exfalso
      refine hne (digs3_inj hP hP' ?_)
      apply List.ext_getElem?
      intro i
      by_cases hi : i < 3
      · rw [← get_head ho hi, ← get_head hh hi, ← heads i hi, lt _ (by omega)]
      · rw [List.getElem?_eq_none (by rw [digs_len]; omega), List.getElem?_eq_none (by rw [digs_len]; omega)]
    · apply List.ext_getElem?
      intro j
      by_cases hj : j < 4
      · by_cases hjk : j < k
        · rw [lt j hjk, get_four h4 hj]
        · exact ge j (by omega)
      · by_cases hj7 : j < 7
        · have := heads (j - 4) (by omega)
          rwa [show 4 + (j - 4) = j by omega] at this
        · exact ge j (by omega)
  · right
    apply List.ext_getElem?
    intro j
    by_cases hjk : j < k
    · exact lt j hjk
    · by_cases hj : j < 128
      · have := M (j - 125) (by omega)
        rw [show 125 + (j - 125) = j by omega] at this
        rw [← this, lt _ (by omega), N _ (by omega), show 125 + (j - 125) = j by omega]
      · rw [List.getElem?_eq_none (by omega), List.getElem?_eq_none (by omega)]
end Go.Proofs.Ytdjjmagocakpnaa
