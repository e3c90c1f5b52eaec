/- Texts of accounts in plain Lean: what AccText writes and TextAcc reads. No program in sight. -/
import Derived.Test.YtnjdmmdbminmoaaDoorTxt
import Derived.Test.YtnjdmmdbminmoaaDoorAcc
namespace Go.Proofs.YtnjdmmdbminmoaaDoor
open Go.Lib
/-- The words of the accounts, by kind. -/
def accWs : List (List UInt8) := [[], [119, 97, 108, 108, 101, 116], [101, 113, 117, 105, 116, 121], [105, 110, 99, 111, 109, 101], [114, 101, 98, 97, 108], [99, 104, 97, 105, 110], [108, 111, 99, 97, 108], [105, 110], [111, 117, 116]]
def accW (k : Int) : List UInt8 := accWs.getD k.toNat []
theorem accOk_iff {k c : Int} : accOk k c = true ↔ (6 ≤ k ∧ k ≤ 8 ∧ 1 ≤ c ∧ c ≤ 99) ∨ (1 ≤ k ∧ k ≤ 5 ∧ c = 0) := by
  unfold accOk
  rcases h : inB k 6 8 with _ | _
  · have := inB_gt h
    simp only [Bool.false_eq_true, if_false, Bool.and_eq_true, beq_iff_eq, inB, decide_eq_true_eq]
    omega
  · have := inB_le h
    simp only [if_true, inB, decide_eq_true_eq]
    omega
/-- The text of an account; nothing for one that is not valid. -/
def accT (k c : Int) : List UInt8 := if accOk k c then (if 0 < c then accW k ++ nTx c else accW k) else []
theorem kind_cases {k : Int} (h1 : 1 ≤ k) (h2 : k ≤ 8) : k = 1 ∨ k = 2 ∨ k = 3 ∨ k = 4 ∨ k = 5 ∨ k = 6 ∨ k = 7 ∨ k = 8 := by omega
theorem accW_low {k : Int} (h1 : 1 ≤ k) (h2 : k ≤ 8) : accW k ≠ [] ∧ ∀ x ∈ accW k, 97 ≤ x.toNat := by
  rcases kind_cases h1 h2 with rfl | rfl | rfl | rfl | rfl | rfl | rfl | rfl <;> decide
theorem accW_inj {k k' : Int} (h1 : 1 ≤ k) (h2 : k ≤ 8) (h1' : 1 ≤ k') (h2' : k' ≤ 8) (h : accW k = accW k') : k = k' := by
  rcases kind_cases h1 h2 with rfl | rfl | rfl | rfl | rfl | rfl | rfl | rfl <;> rcases kind_cases h1' h2' with rfl | rfl | rfl | rfl | rfl | rfl | rfl | rfl <;> first | rfl | (exact absurd h (by decide))
def isLet (c : UInt8) : Bool := decide (97 ≤ c.toNat)
theorem take_let {w d : List UInt8} (hw : ∀ x ∈ w, 97 ≤ x.toNat) (hd : ∀ x ∈ d, x.toNat ≤ 57) : (w ++ d).takeWhile isLet = w := by
  induction w with
  | nil =>
    cases d with
    | nil => rfl
    | cons x t => have := hd x (by simp); rw [List.nil_append, List.takeWhile_cons_of_neg (by simp only [isLet, decide_eq_true_eq]; omega)]
  | cons x t ih =>
    have h1 := hw x (by simp)
    rw [List.cons_append, List.takeWhile_cons_of_pos (by simp [isLet, h1]), ih (fun y hy => hw y (by simp [hy]))]
theorem nTx_pos {c : Int} (h1 : 0 ≤ c) (h2 : c ≤ 99) : ∀ x ∈ nTx c, 48 ≤ x.toNat ∧ x.toNat ≤ 57 := by
  rw [nTx_in (inM_iff.2 (by omega))]
  unfold itoa
  rw [if_neg (by omega)]
  exact dec_digit _
/-- The number behind the word. -/
def accN (c : Int) : List UInt8 := if 0 < c then nTx c else []
theorem accT_eq {k c : Int} (h : accOk k c = true) : accT k c = accW k ++ accN c := by
  unfold accT accN
  rw [h, if_pos rfl]
  split <;> simp
theorem accT_no {k c : Int} (h : accOk k c = false) : accT k c = [] := by unfold accT; rw [h]; rfl
theorem accT_ne {k c : Int} (h : accOk k c = true) : accT k c ≠ [] := by
  rw [accT_eq h]
  have h := accOk_iff.1 h
  have := (accW_low (k := k) (by omega) (by omega)).1
  simp [this]
theorem accT_ok {k c : Int} {l : List UInt8} (hl : l ≠ []) (h : accT k c = l) : accOk k c = true := by
  rcases hh : accOk k c with _ | _
  · rw [accT_no hh] at h; exact absurd h.symm hl
  · rfl
theorem accT_inj {k c k' c' : Int} (h : accOk k c = true) (h' : accOk k' c' = true) (e : accT k c = accT k' c') : k = k' ∧ c = c' := by
  rw [accT_eq h, accT_eq h'] at e
  have h := accOk_iff.1 h
  have h' := accOk_iff.1 h'
  have d1 : ∀ x ∈ accN c, x.toNat ≤ 57 := fun x hx => by
    unfold accN at hx
    split at hx
    · exact (nTx_pos (by omega) (by omega) x hx).2
    · simp at hx
  have d2 : ∀ x ∈ accN c', x.toNat ≤ 57 := fun x hx => by
    unfold accN at hx
    split at hx
    · exact (nTx_pos (by omega) (by omega) x hx).2
    · simp at hx
  have w1 := (accW_low (k := k) (by omega) (by omega)).2
  have w2 := (accW_low (k := k') (by omega) (by omega)).2
  have hw : accW k = accW k' := by
    have a := take_let w1 d1
    rw [e, take_let w2 d2] at a
    exact a.symm
  have hk := accW_inj (by omega) (by omega) (by omega) (by omega) hw
  refine ⟨hk, ?_⟩
  rw [hw] at e
  have e2 := List.append_cancel_left e
  subst hk
  unfold accN at e2
  by_cases h6 : k ≤ 5
  · omega
  · rw [if_pos (by omega), if_pos (by omega), nTx_in (inM_iff.2 (by omega)), nTx_in (inM_iff.2 (by omega))] at e2
    exact itoa_inj (inM_iff.2 (by omega)) (inM_iff.2 (by omega)) e2
/-- What TextAcc reads: an account with this text. -/
def isAcc (l : List UInt8) (k c : Int) : Prop := accOk k c = true ∧ accT k c = l
theorem isAcc_one {l : List UInt8} {k c k' c' : Int} (h : isAcc l k c) (h' : isAcc l k' c') : k = k' ∧ c = c' := accT_inj h.1 h'.1 (h.2.trans h'.2.symm)
/-- What the program tries at kind k: the number behind the word. -/
def tryN (l : List UInt8) (k : Int) : Int := (tNum (trimPrefix l (accW k))).getD 0
theorem hasPrefix_iff {s p : List UInt8} : hasPrefix s p = true ↔ ∃ t, s = p ++ t := by
  unfold hasPrefix
  rw [List.isPrefixOf_iff_prefix]
  exact ⟨fun ⟨t, h⟩ => ⟨t, h.symm⟩, fun ⟨t, h⟩ => ⟨t, h.symm⟩⟩
/-- A valid account is found at its kind. -/
theorem try_hit {l : List UInt8} {k c : Int} (h : isAcc l k c) : hasPrefix l (accW k) = true ∧ tryN l k = c := by
  obtain ⟨h1, rfl⟩ := h
  have hp : hasPrefix (accT k c) (accW k) = true := by rw [accT_eq h1]; exact hasPrefix_iff.2 ⟨_, rfl⟩
  refine ⟨hp, ?_⟩
  unfold tryN trimPrefix
  rw [hp, if_pos rfl, accT_eq h1, List.drop_left]
  have h := accOk_iff.1 h1
  unfold accN
  by_cases hc : 0 < c
  · rw [if_pos hc, tNum_of (n := c) (nTx_ne.2 (inM_iff.2 (by omega))) rfl]
    rfl
  · rw [if_neg hc, tNum_empty]
    have : c = 0 := by omega
    subst this; rfl
end Go.Proofs.YtnjdmmdbminmoaaDoor
