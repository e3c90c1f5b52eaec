/- Lines, ledgers and postings in plain Lean: what a valid list of lines is, merging two lists, a posting's reversal, what is owned. No program in sight. -/
import Derived.Test.YtgjphejmppehjaaLn
namespace Go.Proofs.Ytgjphejmppehjaa
open Go.RowKit
/-- Is the first line's account ahead of the second's? -/
def ltK (k c k' c' : Int) : Bool := decide (k < k') || (decide (k = k') && decide (c < c'))
def ltA (x y : Ln) : Bool := ltK x.k x.c y.k y.c
def rngA (a : Int) : Bool := inB a (-1125899906842624) 1125899906842624
def lnGood (x : Ln) : Bool := accOk x.k x.c && (x.a != 0) && rngA x.a
def lnAt (ls : List Ln) (j : Nat) : Ln := ls.getD j ⟨0, 0, 0⟩
def okAt (ls : List Ln) (j : Nat) : Bool := lnGood (lnAt ls j) && (j == 0 || ltA (lnAt ls (j - 1)) (lnAt ls j))
def okTo (ls : List Ln) (k : Nat) : Prop := ∀ j, j < k → okAt ls j = true
def sumA : List Ln → Int
  | [] => 0
  | x :: t => x.a + sumA t
open Classical in
noncomputable def linesOk (ls : List Ln) : Bool := decide (okTo ls ls.length) && decide (sumA ls = 0)
theorem ltA_iff {x y : Ln} : ltA x y = true ↔ x.k < y.k ∨ (x.k = y.k ∧ x.c < y.c) := by simp [ltA, ltK]
theorem ltA_no {x y : Ln} : ltA x y = false ↔ ¬ (x.k < y.k ∨ (x.k = y.k ∧ x.c < y.c)) := by rw [← ltA_iff]; simp
theorem ltA_trans {x y z : Ln} (h : ltA x y = true) (h' : ltA y z = true) : ltA x z = true := by
  rw [ltA_iff] at h h' ⊢; omega
theorem rngA_iff {a : Int} : rngA a = true ↔ -1125899906842624 ≤ a ∧ a ≤ 1125899906842624 := ⟨inB_le, fun h => inB_true h.1 h.2⟩
theorem lnGood_iff {x : Ln} : lnGood x = true ↔ accOk x.k x.c = true ∧ x.a ≠ 0 ∧ -1125899906842624 ≤ x.a ∧ x.a ≤ 1125899906842624 := by
  unfold lnGood
  rw [Bool.and_eq_true, Bool.and_eq_true, rngA_iff, bne_iff_ne, and_assoc]
theorem accOk_iff {k c : Int} : accOk k c = true ↔ (6 ≤ k ∧ k ≤ 8 ∧ 1 ≤ c ∧ c ≤ 99) ∨ (1 ≤ k ∧ k ≤ 5 ∧ c = 0) := by
  unfold accOk
  rcases h : inB k 6 8 with _ | _
  · have := inB_gt h
    simp only [Bool.false_eq_true, if_false, Bool.and_eq_true, beq_iff_eq]
    constructor
    · intro ⟨h1, h2⟩; have := inB_le h1; omega
    · intro h1; exact ⟨inB_true (by omega) (by omega), by omega⟩
  · have := inB_le h
    simp only [if_true]
    constructor
    · intro h1; have := inB_le h1; omega
    · intro h1; exact inB_true (by omega) (by omega)
/-- The place of an account among all valid accounts. -/
def rankA (x : Ln) : Int := if x.k < 6 then x.k - 1 else 5 + (x.k - 6) * 99 + (x.c - 1)
theorem rank_bd {x : Ln} (h : accOk x.k x.c = true) : 0 ≤ rankA x ∧ rankA x ≤ 301 := by
  rw [accOk_iff] at h; unfold rankA; split <;> omega
theorem rank_lt {x y : Ln} (h : accOk x.k x.c = true) (h' : accOk y.k y.c = true) (hl : ltA x y = true) : rankA x < rankA y := by
  rw [accOk_iff] at h h'; rw [ltA_iff] at hl; unfold rankA; split <;> split <;> omega
theorem okAt_iff {ls : List Ln} {j : Nat} : okAt ls j = true ↔ lnGood (lnAt ls j) = true ∧ (j = 0 ∨ ltA (lnAt ls (j - 1)) (lnAt ls j) = true) := by
  simp [okAt]
theorem okTo_rank {ls : List Ln} {k : Nat} (h : okTo ls k) : ∀ j, j < k → (j : Int) ≤ rankA (lnAt ls j) := by
  intro j
  induction j with
  | zero => intro hj; have := okAt_iff.1 (h 0 hj); exact (rank_bd (lnGood_iff.1 this.1).1).1
  | succ j ih =>
    intro hj
    have h0 := okAt_iff.1 (h j (by omega))
    have h1 := okAt_iff.1 (h (j + 1) hj)
    have := ih (by omega)
    have h2 := rank_lt (lnGood_iff.1 h0.1).1 (lnGood_iff.1 h1.1).1 (by rcases h1.2 with h | h; omega; simpa using h)
    omega
/-- There are 302 valid accounts. -/
theorem okTo_le {ls : List Ln} {k : Nat} (h : okTo ls k) : k ≤ 302 := by
  rcases k with _ | k
  · omega
  · have h1 := okTo_rank h k (by omega)
    have h2 := (rank_bd (lnGood_iff.1 (okAt_iff.1 (h k (by omega))).1).1).2
    omega
theorem okTo_succ {ls : List Ln} {k : Nat} (h : okTo ls k) (h1 : okAt ls k = true) : okTo ls (k + 1) := fun j hj => by
  by_cases e : j = k
  · subst e; exact h1
  · exact h j (by omega)
theorem okTo_zero (ls : List Ln) : okTo ls 0 := fun j hj => by omega
theorem sumA_app (l t : List Ln) : sumA (l ++ t) = sumA l + sumA t := by
  induction l with
  | nil => simp [sumA]
  | cons x l ih => simp only [List.cons_append, sumA, ih]; omega
theorem sumA_take {ls : List Ln} {k : Nat} (h : k < ls.length) : sumA (ls.take (k + 1)) = sumA (ls.take k) + (lnAt ls k).a := by
  rw [List.take_succ_eq_append_getElem h, sumA_app]
  simp [sumA, lnAt, List.getD, h]
theorem okTo_sum {ls : List Ln} {k : Nat} (h : okTo ls k) (hk : k ≤ ls.length) : -(1125899906842624 * (k : Int)) ≤ sumA (ls.take k) ∧ sumA (ls.take k) ≤ 1125899906842624 * (k : Int) := by
  induction k with
  | zero => simp [sumA]
  | succ k ih =>
    have h1 := ih (fun j hj => h j (by omega)) (by omega)
    have h2 := lnGood_iff.1 (okAt_iff.1 (h k (by omega))).1
    rw [sumA_take (by omega)]
    omega
theorem linesOk_iff {ls : List Ln} : linesOk ls = true ↔ okTo ls ls.length ∧ sumA ls = 0 := by simp [linesOk]
theorem linesOk_no {ls : List Ln} {k : Nat} (hk : k < ls.length) (h : okAt ls k = false) : linesOk ls = false := by
  rcases e : linesOk ls with _ | _
  · rfl
  · have := (linesOk_iff.1 e).1 k hk; rw [h] at this; cases this
theorem linesOk_sum {ls : List Ln} (h : okTo ls ls.length) : linesOk ls = decide (sumA ls = 0) := by simp [linesOk, h]

def Srt (ls : List Ln) : Prop := ls.Pairwise fun x y => ltA x y = true
theorem lnAt_cons (x : Ln) (ls : List Ln) (j : Nat) : lnAt (x :: ls) (j + 1) = lnAt ls j := by simp [lnAt]
/-- A valid list of lines: every line is good, and they are in order. -/
theorem okTo_all {ls : List Ln} : okTo ls ls.length ↔ (∀ x ∈ ls, lnGood x = true) ∧ Srt ls := by
  induction ls with
  | nil => exact ⟨fun _ => ⟨by simp, by simp [Srt]⟩, fun _ => okTo_zero _⟩
  | cons x ls ih =>
    have key : okTo (x :: ls) (ls.length + 1) ↔ lnGood x = true ∧ okTo ls ls.length ∧ (∀ y, ls[0]? = some y → ltA x y = true) := by
      constructor
      · intro h
        refine ⟨(okAt_iff.1 (h 0 (by omega))).1, fun j hj => ?_, fun y hy => ?_⟩
        · have := okAt_iff.1 (h (j + 1) (by omega))
          rw [lnAt_cons] at this
          refine okAt_iff.2 ⟨this.1, ?_⟩
          rcases j with _ | j
          · exact .inl rfl
          · refine .inr ?_
            have h2 := this.2
            simp only [Nat.add_sub_cancel] at h2 ⊢
            rcases h2 with h2 | h2
            · omega
            · rwa [lnAt_cons] at h2
        · obtain ⟨h0, e⟩ := List.getElem?_eq_some_iff.1 hy
          have := (okAt_iff.1 (h 1 (by omega))).2
          rcases this with h2 | h2
          · omega
          · simpa [lnAt, List.getD, hy] using h2
      · intro ⟨h0, h1, h2⟩ j hj
        rcases j with _ | j
        · exact okAt_iff.2 ⟨h0, .inl rfl⟩
        · have h3 := okAt_iff.1 (h1 j (by omega))
          refine okAt_iff.2 ⟨by rw [lnAt_cons]; exact h3.1, .inr ?_⟩
          rw [lnAt_cons]
          simp only [Nat.add_sub_cancel]
          rcases j with _ | j
          · have hy : ls[0]? = some ls[0] := List.getElem?_eq_getElem (by omega)
            have := h2 _ hy
            simpa [lnAt, List.getD, hy] using this
          · rw [lnAt_cons]
            rcases h3.2 with h | h
            · omega
            · exact h
    rw [List.length_cons, key, ih]
    simp only [Srt, List.pairwise_cons, List.mem_cons, forall_eq_or_imp]
    constructor
    · rintro ⟨h0, ⟨h1, h2⟩, h3⟩
      refine ⟨⟨h0, h1⟩, ?_, h2⟩
      intro y hy
      rcases ls with _ | ⟨z, ls⟩
      · cases hy
      · have hz := h3 z rfl
        rcases List.mem_cons.1 hy with rfl | hy
        · exact hz
        · exact ltA_trans hz ((List.pairwise_cons.1 h2).1 y hy)
    · rintro ⟨⟨h0, h1⟩, h2, h3⟩
      refine ⟨h0, ⟨h1, h3⟩, fun y hy => h2 y ?_⟩
      exact List.mem_of_getElem? hy

/-! ### lines added -/
/-- Lines with one more, at its account's place. -/
def addL (x : Ln) : List Ln → List Ln
  | [] => [x]
  | y :: t => if ltA y x then y :: addL x t else if y.k = x.k ∧ y.c = x.c then (if y.a + x.a = 0 then t else ⟨y.k, y.c, y.a + x.a⟩ :: t) else x :: y :: t
/-- Two lists of lines merged, whatever the sums. -/
def mrgU : List Ln → List Ln → List Ln
  | xs, [] => xs
  | [], y :: ys => y :: ys
  | x :: xs, y :: ys => if ltA x y then x :: mrgU xs (y :: ys) else if ltA y x then y :: mrgU (x :: xs) ys else
      if x.a + y.a = 0 then mrgU xs ys else ⟨x.k, x.c, x.a + y.a⟩ :: mrgU xs ys
termination_by xs ys => xs.length + ys.length
/-- Merged; none where a sum is too great. -/
def mrg : List Ln → List Ln → Option (List Ln)
  | xs, [] => some xs
  | [], y :: ys => some (y :: ys)
  | x :: xs, y :: ys => if ltA x y then (mrg xs (y :: ys)).map (x :: ·) else if ltA y x then (mrg (x :: xs) ys).map (y :: ·) else
      if rngA (x.a + y.a) then (mrg xs ys).map (fun r => if x.a + y.a = 0 then r else ⟨x.k, x.c, x.a + y.a⟩ :: r) else none
termination_by xs ys => xs.length + ys.length
theorem same_of {x y : Ln} (h : ltA x y = false) (h' : ltA y x = false) : x.k = y.k ∧ x.c = y.c := by
  rw [ltA_no] at h h'; omega
theorem foldl_skip {x : Ln} {ys : List Ln} (h : ∀ y ∈ ys, ltA x y = true) (l : List Ln) : ys.foldl (fun l y => addL y l) (x :: l) = x :: ys.foldl (fun l y => addL y l) l := by
  induction ys generalizing l with
  | nil => rfl
  | cons y ys ih =>
    simp only [List.foldl_cons]
    rw [show addL y (x :: l) = x :: addL y l by simp [addL, h y (by simp)]]
    exact ih (fun z hz => h z (by simp [hz])) _
theorem foldl_nil {ys : List Ln} (h : Srt ys) : ys.foldl (fun l y => addL y l) [] = ys := by
  induction ys with
  | nil => rfl
  | cons y ys ih =>
    obtain ⟨h1, h2⟩ := List.pairwise_cons.1 h
    simp only [List.foldl_cons]
    show ys.foldl (fun l y => addL y l) [y] = _
    rw [foldl_skip h1, ih h2]
theorem foldl_mrgU (xs ys : List Ln) (h : Srt ys) : ys.foldl (fun l y => addL y l) xs = mrgU xs ys := by
  fun_induction mrgU xs ys with
  | case1 xs => rfl
  | case2 y ys => exact foldl_nil h
  | case3 x xs y ys h1 ih =>
    rw [foldl_skip (x := x) (fun z hz => ?_), ih h]
    rcases List.mem_cons.1 hz with rfl | hz
    · exact h1
    · exact ltA_trans h1 ((List.pairwise_cons.1 h).1 z hz)
  | case4 x xs y ys h1 h2 ih =>
    obtain ⟨h3, h4⟩ := List.pairwise_cons.1 h
    have e : ¬ (x.k = y.k ∧ x.c = y.c) := by rw [ltA_iff] at h2; omega
    simp only [List.foldl_cons]
    rw [show addL y (x :: xs) = y :: x :: xs by simp [addL, h1, e], foldl_skip h3, ih h4]
  | case5 x xs y ys h1 h2 h5 ih =>
    obtain ⟨h3, h4⟩ := List.pairwise_cons.1 h
    have e := same_of (by simpa using h1) (by simpa using h2)
    simp only [List.foldl_cons]
    rw [show addL y (x :: xs) = xs by simp [addL, h1, e, h5], ih h4]
  | case6 x xs y ys h1 h2 h5 ih =>
    obtain ⟨h3, h4⟩ := List.pairwise_cons.1 h
    have e := same_of (by simpa using h1) (by simpa using h2)
    simp only [List.foldl_cons]
    rw [show addL y (x :: xs) = ⟨x.k, x.c, x.a + y.a⟩ :: xs by simp [addL, h1, e, h5], foldl_skip (fun z hz => ?_), ih h4]
    have := h3 z hz
    rw [ltA_iff] at this ⊢
    simp only; omega
/-- 'mrg' gives the merged lines where every sum is in range, and nothing else. -/
theorem mrg_eq (xs ys : List Ln) (hx : ∀ x ∈ xs, rngA x.a = true) (hy : ∀ y ∈ ys, rngA y.a = true) :
    mrg xs ys = if (mrgU xs ys).all (fun x => rngA x.a) then some (mrgU xs ys) else none := by
  fun_induction mrg xs ys with
  | case1 xs =>
    rw [show mrgU xs [] = xs by unfold mrgU; cases xs <;> rfl, if_pos]
    simpa using hx
  | case2 y ys =>
    rw [show mrgU [] (y :: ys) = y :: ys by unfold mrgU; rfl, if_pos]
    simpa using hy
  | case3 x xs y ys h1 ih =>
    rw [ih (fun z hz => hx z (by simp [hz])) hy, show mrgU (x :: xs) (y :: ys) = x :: mrgU xs (y :: ys) by rw [mrgU]; simp [h1]]
    have := hx x (by simp)
    simp only [List.all_cons, this, Bool.true_and]
    split <;> rfl
  | case4 x xs y ys h1 h2 ih =>
    rw [ih hx (fun z hz => hy z (by simp [hz])), show mrgU (x :: xs) (y :: ys) = y :: mrgU (x :: xs) ys by rw [mrgU]; simp [h1, h2]]
    have := hy y (by simp)
    simp only [List.all_cons, this, Bool.true_and]
    split <;> rfl
  | case5 x xs y ys h1 h2 h3 ih =>
    rw [ih (fun z hz => hx z (by simp [hz])) (fun z hz => hy z (by simp [hz]))]
    by_cases h5 : x.a + y.a = 0
    · rw [show mrgU (x :: xs) (y :: ys) = mrgU xs ys by rw [mrgU]; simp [h1, h2, h5]]
      rcases (mrgU xs ys).all (fun x => rngA x.a) with _ | _ <;> simp [h5]
    · rw [show mrgU (x :: xs) (y :: ys) = ⟨x.k, x.c, x.a + y.a⟩ :: mrgU xs ys by rw [mrgU]; simp [h1, h2, h5]]
      simp only [List.all_cons, h3, Bool.true_and]
      rcases (mrgU xs ys).all (fun x => rngA x.a) with _ | _ <;> simp [h5]
  | case6 x xs y ys h1 h2 h3 =>
    have h5 : x.a + y.a ≠ 0 := by intro e; rw [e] at h3; exact h3 (by decide)
    rw [show mrgU (x :: xs) (y :: ys) = ⟨x.k, x.c, x.a + y.a⟩ :: mrgU xs ys by rw [mrgU]; simp [h1, h2, h5]]
    simp [h3]
theorem mrgU_nil (xs : List Ln) : mrgU xs [] = xs := by unfold mrgU; cases xs <;> rfl
theorem mrgU_nil' (ys : List Ln) : mrgU [] ys = ys := by unfold mrgU; cases ys <;> rfl
/-- What stands ahead of both stands ahead of the merged lines. -/
theorem mrgU_lt {z : Ln} (xs ys : List Ln) (hx : ∀ x ∈ xs, ltA z x = true) (hy : ∀ y ∈ ys, ltA z y = true) : ∀ x ∈ mrgU xs ys, ltA z x = true := by
  fun_induction mrgU xs ys with
  | case1 xs => exact hx
  | case2 y ys => exact hy
  | case3 x xs y ys h1 ih =>
    intro u hu
    rcases List.mem_cons.1 hu with rfl | hu
    · exact hx u (by simp)
    · exact ih (fun z hz => hx z (by simp [hz])) hy u hu
  | case4 x xs y ys h1 h2 ih =>
    intro u hu
    rcases List.mem_cons.1 hu with rfl | hu
    · exact hy u (by simp)
    · exact ih hx (fun z hz => hy z (by simp [hz])) u hu
  | case5 x xs y ys h1 h2 h5 ih => exact ih (fun z hz => hx z (by simp [hz])) (fun z hz => hy z (by simp [hz]))
  | case6 x xs y ys h1 h2 h5 ih =>
    intro u hu
    rcases List.mem_cons.1 hu with rfl | hu
    · have := hx x (by simp)
      rw [ltA_iff] at this ⊢; simpa using this
    · exact ih (fun z hz => hx z (by simp [hz])) (fun z hz => hy z (by simp [hz])) u hu
theorem mrgU_srt (xs ys : List Ln) (hx : Srt xs) (hy : Srt ys) : Srt (mrgU xs ys) := by
  fun_induction mrgU xs ys with
  | case1 xs => exact hx
  | case2 y ys => exact hy
  | case3 x xs y ys h1 ih =>
    obtain ⟨a1, a2⟩ := List.pairwise_cons.1 hx
    refine List.pairwise_cons.2 ⟨mrgU_lt _ _ a1 (fun z hz => ?_), ih a2 hy⟩
    rcases List.mem_cons.1 hz with rfl | hz
    · exact h1
    · exact ltA_trans h1 ((List.pairwise_cons.1 hy).1 z hz)
  | case4 x xs y ys h1 h2 ih =>
    obtain ⟨a1, a2⟩ := List.pairwise_cons.1 hy
    refine List.pairwise_cons.2 ⟨mrgU_lt _ _ (fun z hz => ?_) a1, ih hx a2⟩
    rcases List.mem_cons.1 hz with rfl | hz
    · exact h2
    · exact ltA_trans h2 ((List.pairwise_cons.1 hx).1 z hz)
  | case5 x xs y ys h1 h2 h5 ih => exact ih (List.pairwise_cons.1 hx).2 (List.pairwise_cons.1 hy).2
  | case6 x xs y ys h1 h2 h5 ih =>
    obtain ⟨a1, a2⟩ := List.pairwise_cons.1 hx
    obtain ⟨b1, b2⟩ := List.pairwise_cons.1 hy
    have e := same_of (by simpa using h1) (by simpa using h2)
    refine List.pairwise_cons.2 ⟨mrgU_lt _ _ (fun z hz => ?_) (fun z hz => ?_), ih a2 b2⟩
    · have := a1 z hz; rw [ltA_iff] at this ⊢; simpa using this
    · have := b1 z hz; rw [ltA_iff] at this ⊢; simp only; omega
theorem mrgU_good (xs ys : List Ln) (hx : ∀ x ∈ xs, lnGood x = true) (hy : ∀ y ∈ ys, lnGood y = true) (hr : ∀ x ∈ mrgU xs ys, rngA x.a = true) : ∀ x ∈ mrgU xs ys, lnGood x = true := by
  fun_induction mrgU xs ys with
  | case1 xs => exact hx
  | case2 y ys => exact hy
  | case3 x xs y ys h1 ih =>
    intro u hu
    rcases List.mem_cons.1 hu with rfl | hu
    · exact hx u (by simp)
    · exact ih (fun z hz => hx z (by simp [hz])) hy (fun z hz => hr z (by simp [hz])) u hu
  | case4 x xs y ys h1 h2 ih =>
    intro u hu
    rcases List.mem_cons.1 hu with rfl | hu
    · exact hy u (by simp)
    · exact ih hx (fun z hz => hy z (by simp [hz])) (fun z hz => hr z (by simp [hz])) u hu
  | case5 x xs y ys h1 h2 h5 ih => exact ih (fun z hz => hx z (by simp [hz])) (fun z hz => hy z (by simp [hz])) hr
  | case6 x xs y ys h1 h2 h5 ih =>
    intro u hu
    have hu0 := hr u hu
    rcases List.mem_cons.1 hu with rfl | hu
    · have := lnGood_iff.1 (hx x (by simp))
      exact lnGood_iff.2 ⟨this.1, h5, rngA_iff.1 hu0⟩
    · exact ih (fun z hz => hx z (by simp [hz])) (fun z hz => hy z (by simp [hz])) (fun z hz => hr z (by simp [hz])) u hu
theorem mrgU_sum (xs ys : List Ln) : sumA (mrgU xs ys) = sumA xs + sumA ys := by
  fun_induction mrgU xs ys with
  | case1 xs => simp [sumA]
  | case2 y ys => simp [sumA]
  | case3 x xs y ys h1 ih => simp only [sumA] at ih ⊢; omega
  | case4 x xs y ys h1 h2 ih => simp only [sumA] at ih ⊢; omega
  | case5 x xs y ys h1 h2 h5 ih => simp only [sumA] at ih ⊢; omega
  | case6 x xs y ys h1 h2 h5 ih => simp only [sumA] at ih ⊢; omega

/-! ### ledgers and postings -/
noncomputable def ledOk (last : Int) (ls : List Ln) : Bool := inB last 0 1125899906842624 && decide (ls.length ≤ 320) && linesOk ls
noncomputable def pstOk (id : Int) (ps : List Ln) : Bool := inB id 1 1125899906842624 && (decide (2 ≤ ps.length) && decide (ps.length ≤ 8)) && linesOk ps
theorem linesOk_all {ls : List Ln} : linesOk ls = true ↔ (∀ x ∈ ls, lnGood x = true) ∧ Srt ls ∧ sumA ls = 0 := by
  rw [linesOk_iff, okTo_all, and_assoc]
theorem linesOk_len {ls : List Ln} (h : linesOk ls = true) : ls.length ≤ 302 := okTo_le (linesOk_iff.1 h).1
theorem good_rng {ls : List Ln} (h : ∀ x ∈ ls, lnGood x = true) : ∀ x ∈ ls, rngA x.a = true := fun x hx => rngA_iff.2 (lnGood_iff.1 (h x hx)).2.2
/-- What posting leaves: the last number, the lines, the code. -/
noncomputable def postR (last : Int) (ls : List Ln) (id : Int) (ps : List Ln) : Int × List Ln × Int :=
  if ledOk last ls && pstOk id ps then (if id ≤ last then (0, [], 2) else if (mrgU ls ps).all (fun x => rngA x.a) then (id, mrgU ls ps, 0) else (0, [], 3)) else (0, [], 1)
theorem mrg_ok {last id : Int} {ls ps : List Ln} (h : ledOk last ls = true) (h' : pstOk id ps = true) : mrg ls ps = if (mrgU ls ps).all (fun x => rngA x.a) then some (mrgU ls ps) else none := by
  simp only [ledOk, pstOk, Bool.and_eq_true] at h h'
  exact mrg_eq ls ps (good_rng (linesOk_all.1 h.2).1) (good_rng (linesOk_all.1 h'.2).1)
theorem mrg_lines {last id : Int} {ls ps : List Ln} (h : ledOk last ls = true) (h' : pstOk id ps = true) : linesOk (mrgU ls ps) = (mrgU ls ps).all (fun x => rngA x.a) := by
  simp only [ledOk, pstOk, Bool.and_eq_true] at h h'
  obtain ⟨a1, a2, a3⟩ := linesOk_all.1 h.2
  obtain ⟨b1, b2, b3⟩ := linesOk_all.1 h'.2
  rcases e : (mrgU ls ps).all (fun x => rngA x.a) with _ | _
  · rcases e2 : linesOk (mrgU ls ps) with _ | _
    · rfl
    · have := good_rng (linesOk_all.1 e2).1
      rw [List.all_eq_true.2 this] at e
      cases e
  · have hr := List.all_eq_true.1 e
    exact linesOk_all.2 ⟨mrgU_good _ _ a1 b1 hr, mrgU_srt _ _ a2 b2, by rw [mrgU_sum]; omega⟩
theorem mrg_led {last id : Int} {ls ps : List Ln} (h : ledOk last ls = true) (h' : pstOk id ps = true) : ledOk id (mrgU ls ps) = (mrgU ls ps).all (fun x => rngA x.a) := by
  have hl := mrg_lines h h'
  simp only [pstOk, Bool.and_eq_true] at h'
  have hid := inB_le h'.1.1
  unfold ledOk
  rw [inB_true (by omega) (by omega), hl]
  rcases e : (mrgU ls ps).all (fun x => rngA x.a) with _ | _
  · simp
  · rw [e] at hl
    have := linesOk_len hl
    simp; omega
theorem pst_srt {id : Int} {ps : List Ln} (h' : pstOk id ps = true) : Srt ps := by
  simp only [pstOk, Bool.and_eq_true] at h'
  exact (linesOk_all.1 h'.2).2.1
/-- The reference's fold is the program's merging. -/
theorem post_fold {id : Int} {ls ps : List Ln} (h' : pstOk id ps = true) : ps.foldl (fun l y => addL y l) ls = mrgU ls ps := foldl_mrgU _ _ (pst_srt h')

/-! ### the other way round -/
def negL (ps : List Ln) : List Ln := ps.map fun x => ⟨x.k, x.c, -x.a⟩
theorem negL_len (ps : List Ln) : (negL ps).length = ps.length := by simp [negL]
theorem negL_sum (ps : List Ln) : sumA (negL ps) = - sumA ps := by
  induction ps with
  | nil => rfl
  | cons x ps ih => simp only [negL, List.map_cons, sumA] at ih ⊢; omega
theorem negL_good {ps : List Ln} (h : ∀ x ∈ ps, lnGood x = true) : ∀ x ∈ negL ps, lnGood x = true := by
  intro x hx
  obtain ⟨y, hy, rfl⟩ := List.mem_map.1 hx
  have := lnGood_iff.1 (h y hy)
  exact lnGood_iff.2 ⟨this.1, by simp only; omega, by simp only; omega, by simp only; omega⟩
theorem negL_srt {ps : List Ln} (h : Srt ps) : Srt (negL ps) := by
  refine List.Pairwise.map _ (fun x y hxy => ?_) h
  rw [ltA_iff] at hxy ⊢; simpa using hxy
theorem mrgU_pre {z : Ln} {l ys : List Ln} (h : ∀ x ∈ l, ltA z x = true) : mrgU l (z :: ys) = z :: mrgU l ys := by
  cases l with
  | nil => rw [mrgU_nil', mrgU_nil']
  | cons x l =>
    have h1 := h x (by simp)
    have h2 : ltA x z = false := by rw [ltA_no]; rw [ltA_iff] at h1; omega
    rw [mrgU]
    simp [h1, h2]
theorem mrgU_self (ps : List Ln) (h : Srt ps) : mrgU ps (negL ps) = [] := by
  induction ps with
  | nil => rw [show negL [] = [] from rfl, mrgU_nil]
  | cons x ps ih =>
    have e1 : ltA x ⟨x.k, x.c, -x.a⟩ = false := by rw [ltA_no]; simp
    have e2 : ltA ⟨x.k, x.c, -x.a⟩ x = false := by rw [ltA_no]; simp
    show mrgU (x :: ps) (⟨x.k, x.c, -x.a⟩ :: negL ps) = []
    rw [mrgU]
    simp only [e1, e2, Bool.false_eq_true, if_false, show x.a + -x.a = 0 by omega, if_true]
    exact ih (List.pairwise_cons.1 h).2
theorem mrgU_back (xs ys : List Ln) (hx : Srt xs) (hy : Srt ys) (hxa : ∀ x ∈ xs, x.a ≠ 0) : mrgU (mrgU xs ys) (negL ys) = xs := by
  fun_induction mrgU xs ys with
  | case1 xs => rw [show negL [] = [] from rfl, mrgU_nil]
  | case2 y ys => exact mrgU_self _ hy
  | case3 x xs y ys h1 ih =>
    have := ih (List.pairwise_cons.1 hx).2 hy (fun z hz => hxa z (by simp [hz]))
    have e1 : ltA x ⟨y.k, y.c, -y.a⟩ = true := by rw [ltA_iff] at h1 ⊢; simpa using h1
    show mrgU (x :: mrgU xs (y :: ys)) (⟨y.k, y.c, -y.a⟩ :: negL ys) = _
    rw [mrgU]
    simp only [e1, if_true]
    congr 1
  | case4 x xs y ys h1 h2 ih =>
    have := ih hx (List.pairwise_cons.1 hy).2 hxa
    have e1 : ltA y ⟨y.k, y.c, -y.a⟩ = false := by rw [ltA_no]; simp
    have e2 : ltA ⟨y.k, y.c, -y.a⟩ y = false := by rw [ltA_no]; simp
    show mrgU (y :: mrgU (x :: xs) ys) (⟨y.k, y.c, -y.a⟩ :: negL ys) = _
    rw [mrgU]
    simp only [e1, e2, Bool.false_eq_true, if_false, show y.a + -y.a = 0 by omega, if_true]
    exact this
  | case5 x xs y ys h1 h2 h5 ih =>
    obtain ⟨a1, a2⟩ := List.pairwise_cons.1 hx
    obtain ⟨b1, b2⟩ := List.pairwise_cons.1 hy
    have := ih a2 b2 (fun z hz => hxa z (by simp [hz]))
    have e := same_of (by simpa using h1) (by simpa using h2)
    show mrgU (mrgU xs ys) (⟨y.k, y.c, -y.a⟩ :: negL ys) = _
    rw [mrgU_pre, this]
    · congr 1
      rcases x with ⟨xk, xc, xa⟩
      simp only [Ln.mk.injEq] at e h5 ⊢
      omega
    · refine mrgU_lt _ _ (fun z hz => ?_) (fun z hz => ?_)
      · have := a1 z hz; rw [ltA_iff] at this ⊢; simp only; omega
      · have := b1 z hz; rw [ltA_iff] at this ⊢; simpa using this
  | case6 x xs y ys h1 h2 h5 ih =>
    obtain ⟨a1, a2⟩ := List.pairwise_cons.1 hx
    obtain ⟨b1, b2⟩ := List.pairwise_cons.1 hy
    have := ih a2 b2 (fun z hz => hxa z (by simp [hz]))
    have e := same_of (by simpa using h1) (by simpa using h2)
    have hx0 := hxa x (by simp)
    have e1 : ltA ⟨x.k, x.c, x.a + y.a⟩ ⟨y.k, y.c, -y.a⟩ = false := by rw [ltA_no]; simp only; omega
    have e2 : ltA ⟨y.k, y.c, -y.a⟩ ⟨x.k, x.c, x.a + y.a⟩ = false := by rw [ltA_no]; simp only; omega
    show mrgU (⟨x.k, x.c, x.a + y.a⟩ :: mrgU xs ys) (⟨y.k, y.c, -y.a⟩ :: negL ys) = _
    rw [mrgU]
    simp only [e1, e2, Bool.false_eq_true, if_false, show x.a + y.a + -y.a = x.a by omega, hx0, this]
/-- A posting's reversal undoes it. -/
theorem post_back {last id : Int} {ls ps : List Ln} (h : ledOk last ls = true) (h' : pstOk id ps = true) : mrgU (mrgU ls ps) (negL ps) = ls := by
  simp only [ledOk, pstOk, Bool.and_eq_true] at h h'
  obtain ⟨a1, a2, a3⟩ := linesOk_all.1 h.2
  exact mrgU_back _ _ a2 (linesOk_all.1 h'.2).2.1 (fun x hx => (lnGood_iff.1 (a1 x hx)).2.1)
theorem neg_pst {id : Int} {ps : List Ln} (h' : pstOk id ps = true) (hid : id < 1125899906842624) : pstOk (id + 1) (negL ps) = true := by
  simp only [pstOk, Bool.and_eq_true] at h' ⊢
  obtain ⟨b1, b2, b3⟩ := linesOk_all.1 h'.2
  have := inB_le h'.1.1
  exact ⟨⟨inB_true (by omega) (by omega), by rw [negL_len]; exact h'.1.2⟩, linesOk_all.2 ⟨negL_good b1, negL_srt b2, by rw [negL_sum]; omega⟩⟩
/-- What is owned. -/
def ownA (x : Ln) : Bool := decide (x.k = 1) || decide (6 ≤ x.k)
def worth : List Ln → Int
  | [] => 0
  | x :: t => (if ownA x then x.a else 0) + worth t
theorem ownA_same {k k' c c' a a' : Int} (h : k = k') : ownA ⟨k, c, a⟩ = ownA ⟨k', c', a'⟩ := by subst h; rfl
theorem mrgU_worth (xs ys : List Ln) : worth (mrgU xs ys) = worth xs + worth ys := by
  fun_induction mrgU xs ys with
  | case1 xs => simp [worth]
  | case2 y ys => simp [worth]
  | case3 x xs y ys h1 ih => simp only [worth] at ih ⊢; omega
  | case4 x xs y ys h1 h2 ih => simp only [worth] at ih ⊢; omega
  | case5 x xs y ys h1 h2 h5 ih =>
    have e := same_of (by simpa using h1) (by simpa using h2)
    have : ownA x = ownA y := ownA_same e.1
    simp only [worth, this] at ih ⊢
    split <;> omega
  | case6 x xs y ys h1 h2 h5 ih =>
    have e := same_of (by simpa using h1) (by simpa using h2)
    have h6 : ownA x = ownA y := ownA_same e.1
    have h7 : ownA ⟨x.k, x.c, x.a + y.a⟩ = ownA y := ownA_same e.1
    simp only [worth, h6, h7] at ih ⊢
    split <;> omega
theorem worth_app (l t : List Ln) : worth (l ++ t) = worth l + worth t := by
  induction l with
  | nil => simp [worth]
  | cons x l ih => simp only [List.cons_append, worth, ih]; omega
theorem worth_take {ls : List Ln} {k : Nat} (h : k < ls.length) : worth (ls.take (k + 1)) = worth (ls.take k) + (if ownA (lnAt ls k) then (lnAt ls k).a else 0) := by
  rw [List.take_succ_eq_append_getElem h, worth_app]
  simp [worth, lnAt, List.getD, h]
theorem worth_bd {ls : List Ln} {k : Nat} (h : okTo ls k) (hk : k ≤ ls.length) : -(1125899906842624 * (k : Int)) ≤ worth (ls.take k) ∧ worth (ls.take k) ≤ 1125899906842624 * (k : Int) := by
  induction k with
  | zero => simp [worth]
  | succ k ih =>
    have h1 := ih (fun j hj => h j (by omega)) (by omega)
    have h2 := lnGood_iff.1 (okAt_iff.1 (h k (by omega))).1
    rw [worth_take (by omega)]
    split <;> omega
end Go.Proofs.Ytgjphejmppehjaa
