/- Decimal texts in plain Lean: what NumText writes and TextNum reads. No program in sight. -/
import Derived.Lib.ItoaNum
import Derived.Lib.ItoaMem
import Derived.Lib.Atoi
import Derived.Lib.AtoiAll
namespace Go.Proofs.YtnjdmmdbminmoaaDoor
open Go.Lib
/-- A number within the range of amounts and their negatives. -/
def inM (n : Int) : Bool := decide (-1125899906842624 ≤ n ∧ n ≤ 1125899906842624)
theorem inM_iff {n : Int} : inM n = true ↔ -1125899906842624 ≤ n ∧ n ≤ 1125899906842624 := by simp [inM]
/-- The text of a number; nothing out of the range. -/
def nTx (n : Int) : List UInt8 := if inM n then itoa n else []
theorem dec_digit (u : Nat) : ∀ c ∈ decDigits u, 48 ≤ c.toNat ∧ c.toNat ≤ 57 := by
  induction u using Nat.strongRecOn with
  | _ u ih =>
    intro c hc
    by_cases h : u < 10
    · rw [decDigits_one h] at hc
      simp only [List.mem_singleton] at hc
      subst hc
      simp only [UInt8.toNat_ofNat']
      omega
    · rw [decDigits, dif_neg h, List.mem_append] at hc
      rcases hc with hc | hc
      · exact ih (u / 10) (by omega) c hc
      · simp only [List.mem_singleton] at hc
        subst hc
        simp only [UInt8.toNat_ofNat']
        omega
theorem dec_ne (u : Nat) : decDigits u ≠ [] := by
  intro h
  have := decDigits_length u
  have := nDigits_pos u
  rw [h] at *
  simp at *
  omega
theorem digit_val {d : Nat} (h : d < 10) : (UInt8.ofNat (48 + d)).toNat = 48 + d := by simp only [UInt8.toNat_ofNat']; omega
theorem pu_dec (u : Nat) (hu : u ≤ 1000000000000000000) (r : List UInt8) : parseUint10 0 (decDigits u ++ r) = parseUint10 u r := by
  induction u using Nat.strongRecOn generalizing r with
  | _ u ih =>
    by_cases h : u < 10
    · rw [decDigits_one h]
      simp only [List.cons_append, List.nil_append, parseUint10, digit_val h]
      rw [if_pos (by omega), if_neg (by omega), if_neg (by omega)]
      congr 1; omega
    · rw [decDigits, dif_neg h, List.append_assoc, ih (u / 10) (by omega) (by omega)]
      have hd : u % 10 < 10 := by omega
      simp only [List.cons_append, List.nil_append, parseUint10, digit_val hd]
      rw [if_pos (by omega), if_neg (by omega), if_neg (by omega)]
      congr 1; omega
theorem parseMag_dec {u : Nat} (hu : u ≤ 1000000000000000000) : parseMag (decDigits u) = .ok u := by
  have := pu_dec u hu []
  rw [List.append_nil] at this
  unfold parseMag
  rw [if_neg (dec_ne u), this]
  rfl
theorem dec_cons (u : Nat) : ∃ c r, decDigits u = c :: r ∧ 48 ≤ c.toNat ∧ c.toNat ≤ 57 := by
  rcases h : decDigits u with _ | ⟨c, r⟩
  · exact absurd h (dec_ne u)
  · exact ⟨c, r, rfl, dec_digit u c (by rw [h]; simp)⟩
theorem atoi_itoa {n : Int} (h : inM n = true) : atoiAll (itoa n) = .ok n := by
  have h := inM_iff.1 h
  unfold itoa
  by_cases h0 : n < 0
  · rw [if_pos h0]
    have e : (45 : UInt8).toNat = 45 := rfl
    simp only [atoiAll, e, or_true, if_true, parseMag_dec (show n.natAbs ≤ 1000000000000000000 by omega)]
    rw [if_neg (by omega), if_neg (by omega)]
    congr 1; omega
  · rw [if_neg h0]
    obtain ⟨c, r, e, h1, h2⟩ := dec_cons n.toNat
    have hp := parseMag_dec (show n.toNat ≤ 1000000000000000000 by omega)
    rw [e] at hp ⊢
    simp only [atoiAll]
    rw [if_neg (by omega), hp]
    simp only
    rw [if_neg (by omega), if_neg (by omega), if_neg (by omega)]
    congr 1; omega
theorem itoa_inj {n m : Int} (hn : inM n = true) (hm : inM m = true) (h : itoa n = itoa m) : n = m := by
  have h1 := atoi_itoa hn
  rw [h, atoi_itoa hm] at h1
  injection h1 with h1
  exact h1.symm
/-- What TextNum reads. -/
def tNum (l : List UInt8) : Option Int :=
  match atoiAll l with
  | .ok n => if nTx n = l then some n else none
  | _ => none
theorem itoa_ne (n : Int) : itoa n ≠ [] := by
  unfold itoa
  split
  · simp
  · exact dec_ne _
theorem tNum_iff {l : List UInt8} {n : Int} : tNum l = some n ↔ inM n = true ∧ itoa n = l := by
  constructor
  · intro h
    unfold tNum at h
    split at h
    · next m hm =>
      split at h
      · next e =>
        injection h with h
        subst h
        unfold nTx at e
        split at e
        · next hi => exact ⟨hi, e⟩
        · subst e; simp [atoiAll] at hm
      · cases h
    · cases h
  · rintro ⟨h1, rfl⟩
    unfold tNum
    rw [atoi_itoa h1]
    simp only [nTx, h1, if_true]
theorem tNum_none {l : List UInt8} (h : ∀ n, inM n = true → itoa n ≠ l) : tNum l = none := by
  rcases hh : tNum l with _ | n
  · rfl
  · have := tNum_iff.1 hh
    exact absurd this.2 (h n this.1)
theorem tNum_of {l : List UInt8} {n : Int} (hl : l ≠ []) (h : nTx n = l) : tNum l = some n := by
  unfold nTx at h
  split at h
  · next hi => exact tNum_iff.2 ⟨hi, h⟩
  · exact absurd h.symm hl
theorem nDigits_le (k u : Nat) (h : u < 10 ^ (k + 1)) : nDigits u ≤ k + 1 := by
  induction k generalizing u with
  | zero => rw [nDigits_small (by simpa using h)]; exact Nat.le_refl _
  | succ k ih =>
    by_cases h1 : u < 10
    · rw [nDigits_small h1]; omega
    · rw [nDigits_big h1]
      have := ih (u / 10) (by rw [Nat.pow_succ] at h; omega)
      omega
theorem itoa_len {n : Int} (h : inM n = true) : 1 ≤ (itoa n).length ∧ (itoa n).length ≤ 17 := by
  have h := inM_iff.1 h
  unfold itoa
  split
  · have := nDigits_le 15 n.natAbs (by omega)
    have := nDigits_pos n.natAbs
    simp only [List.length_cons, decDigits_length]; omega
  · have := nDigits_le 15 n.toNat (by omega)
    have := nDigits_pos n.toNat
    simp only [decDigits_length]; omega
theorem nTx_len (n : Int) : (nTx n).length ≤ 17 := by
  unfold nTx
  split
  · next h => exact (itoa_len h).2
  · simp
/-! ### the loop of the reference -/
/-- The digits that stand in the first k bytes. -/
def bodyT (l : List UInt8) (k : Nat) : List UInt8 := if l.head? = some 45 then (l.take k).drop 1 else l.take k
theorem decFrom_dec (u : Nat) (r : List UInt8) : decFrom 0 (decDigits u ++ r) = decFrom u r := by
  induction u using Nat.strongRecOn generalizing r with
  | _ u ih =>
    by_cases h : u < 10
    · rw [decDigits_one h]
      simp only [List.cons_append, List.nil_append, decFrom, digitVal, digit_val h]
      rw [if_pos (by omega)]
      simp only
      congr 1; omega
    · rw [decDigits, dif_neg h, List.append_assoc, ih (u / 10) (by omega)]
      have hd : u % 10 < 10 := by omega
      simp only [List.cons_append, List.nil_append, decFrom, digitVal, digit_val hd]
      rw [if_pos (by omega)]
      simp only
      congr 1; omega
theorem decFrom_lt : ∀ (l : List UInt8) (acc v : Nat), decFrom acc l = some v → v < (acc + 1) * 10 ^ l.length
  | [], acc, v, h => by simp [decFrom] at h; subst h; simp
  | b :: r, acc, v, h => by
    simp only [decFrom] at h
    split at h
    · next d hd =>
      have := decFrom_lt r _ v h
      unfold digitVal at hd
      split at hd
      · injection hd with hd
        have h2 : (acc * 10 + d + 1) * 10 ^ r.length ≤ ((acc + 1) * 10) * 10 ^ r.length := Nat.mul_le_mul_right _ (by omega)
        rw [List.length_cons, Nat.pow_succ, Nat.mul_comm (10 ^ r.length) 10, ← Nat.mul_assoc]
        omega
      · cases hd
    · cases h
/-- The value behind the first k bytes. -/
def dT (l : List UInt8) (k : Nat) : Option Nat := decFrom 0 (bodyT l k)
theorem dT_zero (l : List UInt8) : dT l 0 = some 0 := by unfold dT bodyT; split <;> simp [decFrom]
theorem dT_skip {l : List UInt8} (h : l.head? = some 45) : dT l 1 = some 0 := by
  unfold dT bodyT
  rw [if_pos h]
  cases l with
  | nil => rfl
  | cons a t => rfl
theorem dT_step {l : List UInt8} {k n : Nat} {c : UInt8} (h : dT l k = some n) (hc : l[k]? = some c) (hs : ¬ (k = 0 ∧ l.head? = some 45)) (hd : 48 ≤ c.toNat ∧ c.toNat ≤ 57) : dT l (k + 1) = some (n * 10 + (c.toNat - 48)) := by
  have hdv : digitVal c = some (c.toNat - 48) := by unfold digitVal; rw [if_pos hd]
  unfold dT bodyT at h ⊢
  by_cases h0 : l.head? = some 45
  · rw [if_pos h0] at h ⊢
    cases l with
    | nil => simp at hc
    | cons a t =>
      cases k with
      | zero => exact absurd ⟨rfl, h0⟩ hs
      | succ k =>
        simp only [List.take_succ_cons, List.drop_succ_cons, List.drop_zero] at h ⊢
        exact decFrom_take t k 0 n c _ h (by simpa using hc) hdv
  · rw [if_neg h0] at h ⊢
    exact decFrom_take l k 0 n c _ h hc hdv
theorem dT_lt {l : List UInt8} {k v : Nat} (h : dT l k = some v) (hk : k ≤ 17) : v < 100000000000000000 := by
  have h1 := decFrom_lt _ _ _ h
  have h2 : (bodyT l k).length ≤ 17 := by
    unfold bodyT
    split
    · simp only [List.length_drop, List.length_take]; omega
    · simp only [List.length_take]; omega
  have h3 : 10 ^ (bodyT l k).length ≤ 10 ^ 17 := Nat.pow_le_pow_right (by omega) h2
  simp at h1
  omega
theorem itoa_body {n : Int} (k : Nat) (hk : (itoa n).length ≤ k) : bodyT (itoa n) k = decDigits n.natAbs ∧ ((itoa n).head? = some 45 ↔ n < 0) := by
  unfold bodyT
  rw [List.take_of_length_le hk]
  unfold itoa
  by_cases h : n < 0
  · rw [if_pos h]
    simp [h]
  · rw [if_neg h]
    obtain ⟨c, r, e, h1, h2⟩ := dec_cons n.toNat
    have hc : ¬ c = 45 := fun h => by subst h; simp at h1
    rw [e]
    simp only [List.head?_cons, Option.some.injEq, hc, if_false, false_iff]
    exact ⟨by rw [← e]; congr 1; omega, by omega⟩
/-- A byte that is no digit: no number is read. -/
theorem tNum_bad {l : List UInt8} {k : Nat} {c : UInt8} (hc : l[k]? = some c) (hs : ¬ (k = 0 ∧ l.head? = some 45)) (hd : ¬ (48 ≤ c.toNat ∧ c.toNat ≤ 57)) : tNum l = none := by
  refine tNum_none fun n hn e => hd ?_
  obtain ⟨hb, hh⟩ := itoa_body (n := n) l.length (by rw [e]; exact Nat.le_refl _)
  rw [e] at hb hh
  refine dec_digit n.natAbs c ?_
  rw [← hb]
  unfold bodyT
  rw [List.take_length]
  by_cases h0 : l.head? = some 45
  · rw [if_pos h0]
    cases l with
    | nil => simp at hc
    | cons a t =>
      cases k with
      | zero => exact absurd ⟨rfl, h0⟩ hs
      | succ k => exact List.mem_of_getElem? (i := k) (by simpa using hc)
  · rw [if_neg h0]
    exact List.mem_of_getElem? hc
/-- All bytes are digits: the number they spell is read, if its text is this one. -/
theorem tNum_all {l : List UInt8} {v : Nat} {n : Int} (hv : dT l l.length = some v) (hl : l ≠ []) (hn : n = if l.head? = some 45 then -(v : Int) else (v : Int)) : tNum l = if nTx n = l then some n else none := by
  split
  · next h => exact tNum_of hl h
  · next h =>
    refine tNum_none fun m hm e => h ?_
    obtain ⟨hb, hh⟩ := itoa_body (n := m) l.length (by rw [e]; exact Nat.le_refl _)
    rw [e] at hb hh
    have h2 : m.natAbs = v := by
      unfold dT at hv
      rw [hb] at hv
      have := decFrom_dec m.natAbs []
      rw [List.append_nil] at this
      rw [this] at hv
      simpa [decFrom] using hv
    have h3 : n = m := by
      rw [hn]
      split
      · next h => have := hh.1 h; omega
      · next h => have : ¬ m < 0 := fun x => h (hh.2 x); omega
    rw [h3]
    unfold nTx
    rw [hm, if_pos rfl, e]
theorem tNum_empty : tNum [] = none := tNum_none fun n _ => itoa_ne n
theorem tNum_long {l : List UInt8} (h : 17 < l.length) : tNum l = none := tNum_none fun n hn e => by have := (itoa_len hn).2; rw [e] at this; omega
/-! ### the recursion of the reference -/
theorem nTx_neg {n : Int} (h : inM n = true) (h0 : n < 0) : nTx n = 45 :: nTx (-n) := by
  have h1 := inM_iff.1 h
  have h2 : inM (-n) = true := inM_iff.2 (by omega)
  unfold nTx
  rw [h, h2]
  simp only [if_true]
  unfold itoa
  rw [if_pos h0, if_neg (by omega)]
  congr 2; omega
theorem nTx_small {n : Int} (h0 : 0 ≤ n) (h1 : n < 10) : nTx n = [UInt8.ofNat (48 + n.toNat)] := by
  unfold nTx
  rw [inM_iff.2 (by omega)]
  simp only [if_true]
  unfold itoa
  rw [if_neg (by omega), decDigits_one (by omega)]
theorem nTx_big {n : Int} (h : inM n = true) (h1 : 10 ≤ n) : nTx n = nTx (n / 10) ++ [UInt8.ofNat (48 + (n % 10).toNat)] := by
  have h2 := inM_iff.1 h
  have h3 : inM (n / 10) = true := inM_iff.2 (by omega)
  unfold nTx
  rw [h, h3]
  simp only [if_true]
  unfold itoa
  rw [if_neg (by omega), if_neg (by omega), decDigits, dif_neg (by omega), show (n / 10).toNat = n.toNat / 10 by omega, show (n % 10).toNat = n.toNat % 10 by omega]
theorem nTx_out {n : Int} (h : inM n = false) : nTx n = [] := by unfold nTx; rw [h]; rfl
theorem nTx_in {n : Int} (h : inM n = true) : nTx n = itoa n := by unfold nTx; rw [h]; rfl
theorem nTx_ne {n : Int} : nTx n ≠ [] ↔ inM n = true := by
  rcases h : inM n with _ | _
  · rw [nTx_out h]; simp
  · rw [nTx_in h]; simp [itoa_ne]
end Go.Proofs.YtnjdmmdbminmoaaDoor
