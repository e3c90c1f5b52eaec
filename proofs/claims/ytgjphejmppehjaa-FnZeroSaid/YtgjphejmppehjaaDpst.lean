/- Draws of postings (l02Posting); a change of lines (l02Any). -/
import Derived.Test.YtgjphejmppehjaaDln
namespace Go.Proofs.Ytgjphejmppehjaa
open Go.RowKit
theorem new_lns (w : World) (ls : List Ln) (h : ls.length ≤ 1000) : OwnL (w.alloc (.cells (lnCells ls).toArray 63)) w.heap.size (w.heap.size + 1) (some ⟨w.heap.size, 0, none⟩) ls.length ls.length ls :=
  ⟨⟨lnCells_len ls, .inr ⟨w.heap.size, ls.length, (lnCells ls).toArray, rfl, Nat.le_refl _, heap_alloc_new w _, Nat.le_refl _, by unfold maxLen; omega, by simp [lnCells_len], by rw [← lnCells_len]; simp⟩⟩, fun k hk => by simp [Value.ownBlock] at hk; omega, by simp⟩
/-- Integers alone. -/
def IntL (xs : List Value) : Prop := ∀ (j : Nat) (u : Value), xs[j]? = some u → ∃ z : Int, u = Value.int .i64 z
theorem ints_lnCells (ls : List Ln) : IntL (lnCells ls) := by
  intro j u hu
  have hm := List.mem_of_getElem? hu
  obtain ⟨x, _, hx⟩ := List.mem_flatMap.1 hm
  simp only [List.mem_cons, List.not_mem_nil, or_false] at hx
  rcases hx with rfl | rfl | rfl <;> exact ⟨_, rfl⟩
theorem ints_set {xs : List Value} (h : IntL xs) (j : Nat) (z : Int) : IntL (xs.set j (.int .i64 z)) := by
  intro k u hu
  rw [List.getElem?_set] at hu
  split at hu
  · split at hu
    · exact ⟨z, (Option.some.inj hu).symm⟩
    · cases hu
  · exact h k u hu
theorem ints_at {xs : List Value} (h : IntL xs) {j : Nat} (hj : j < xs.length) : ∃ z : Int, xs[j]? = some (Value.int .i64 z) := by
  have hx : xs[j]? = some xs[j] := List.getElem?_eq_getElem hj
  obtain ⟨z, hz⟩ := h j _ hx
  exact ⟨z, hx.trans (congrArg some hz)⟩
theorem ints_ln (xs : List Value) (n : Nat) (hl : xs.length = n * 3) (h : IntL xs) : ∃ ls, lnCells ls = xs := by
  induction n generalizing xs with
  | zero => exact ⟨[], (List.eq_nil_of_length_eq_zero (by omega)).symm⟩
  | succ n ih =>
    match xs, hl with
    | a :: b :: c :: t, hl =>
      obtain ⟨x, rfl⟩ := h 0 a rfl
      obtain ⟨y, rfl⟩ := h 1 b rfl
      obtain ⟨z, rfl⟩ := h 2 c rfl
      obtain ⟨ls, rfl⟩ := ih t (by simp at hl; omega) (fun j u hu => h (j + 3) u hu)
      exact ⟨⟨x, y, z⟩ :: ls, rfl⟩
    | [], hl => simp at hl
    | [_], hl => simp at hl; omega
    | [_, _], hl => simp at hl; omega
theorem lnCells_take (ls : List Ln) (m : Nat) : lnCells (ls.take m) = (lnCells ls).take (m * 3) := by
  induction ls generalizing m with
  | nil => simp [lnCells]
  | cons x t ih =>
    cases m with
    | zero => simp [lnCells]
    | succ m =>
      have e : lnCells (x :: t) = .int .i64 x.k :: .int .i64 x.c :: .int .i64 x.a :: lnCells t := rfl
      have e2 : lnCells (x :: t.take m) = .int .i64 x.k :: .int .i64 x.c :: .int .i64 x.a :: lnCells (t.take m) := rfl
      rw [List.take_succ_cons, e, e2, ih, Nat.succ_mul]
      rfl
theorem OwnL.take {w : World} {lo hi n m c : Nat} {A : Option Addr} {ls : List Ln} (h : OwnL w lo hi A n c ls) (hm : m ≤ n) (hA : 0 < n) : OwnL w lo hi A m c (ls.take m) := by
  have hl := lnlen_of_own h
  refine ⟨⟨by rw [lnCells_len, List.length_take]; omega, ?_⟩, fun k hk => h.top k (by cases A <;> exact hk), h.le⟩
  rcases h.row.2 with ⟨hv, hn⟩ | ⟨g, cap, cur, hv, hb, hh, h1, h2, h3, h4⟩
  · omega
  · simp only [Value.slice.injEq] at hv
    obtain ⟨rfl, -, rfl⟩ := hv
    refine .inr ⟨g, c, cur, rfl, hb, hh, by omega, h2, h3, ?_⟩
    rw [lnCells_take, ← h4, List.take_take, Nat.min_eq_left (by omega)]
/-- A ledger or a posting whose lines are the call's own, drawn. -/
def LedPost (B g most : Nat) (w : World) (e : Ending) (w' : World) : Prop :=
  ∃ (q : Int) (A : Option Addr) (n c : Nat) (ls : List Ln), e = .returned (.agg #[.int .i64 q, .slice A n c]) ∧ n ≤ most ∧ Cur B w' g ∧ OwnL w' w.heap.size w'.heap.size A n c ls ∧ Eff g (g + 1) w w'
theorem LedPost.mk {B g b lo hi n c most : Nat} {w w1 w2 : World} {q : Int} {A : Option Addr} {ls : List Ln} (hn : n ≤ most) (E : Eff g (g + 1) w w1) (hc : Cur B w1 g) (o : OwnL w1 lo hi A n c ls) (he : Eff b (b + 1) w1 w2) (h1 : w.heap.size ≤ lo) (h2 : b + 1 ≤ lo ∨ hi ≤ b) (h3 : w.heap.size ≤ b) (h4 : B ≤ g ∧ g < w.heap.size) : LedPost B g most w (.returned (.agg #[.int .i64 q, .slice A n c])) w2 :=
  ⟨q, A, n, c, ls, rfl, hn, hc.keep he (by omega) (by omega), Own.made o he (by omega) h1, E.step he (by omega)⟩
/-- Lines changed in their own row, behind draws. -/
def AnyPost (B g lo hi most : Nat) (w : World) (e : Ending) (w' : World) : Prop :=
  ∃ (A : Option Addr) (n c : Nat) (ls : List Ln) (wy : World), e = .returned (.slice A n c) ∧ n ≤ most ∧ Cur B w' g ∧ OwnL w' lo hi A n c ls ∧ Eff g (g + 1) w wy ∧ Eff lo hi wy w'
set_option maxHeartbeats 2000000 in
set_option maxRecDepth 100000 in
theorem l02Posting_any (B g : Nat) (q : Int) (W : World) (hc : Cur B W g) : Calls Try.prog 60 #[.pointer (some ⟨g, 0, none⟩), .int .i64 q] W (LedPost B g 15 W) := by
  have hgl := hc.lt
  have hgB := hc.le
  have E0 : Eff g (g + 1) W W := Eff.refl _ _ _
  go_enter Try.func60, Try.ntmps60
  go_wp2_with fail
  have he1 : Eff 0 0 W (W.alloc (.cells #[.int .i64 0, .slice none 0 0] 43)) := Eff.alloc _ _
  have hs1 : (W.alloc (.cells #[.int .i64 0, .slice none 0 0] 43)).heap.size = W.heap.size + 1 := (by simp)
  have res_0 : (W.alloc (.cells #[.int .i64 0, .slice none 0 0] 43)).cell? ⟨W.heap.size, 0, none⟩ = some (.int .i64 0) := var_cell _ _ _ _ _ rfl
  have res_1 : (W.alloc (.cells #[.int .i64 0, .slice none 0 0] 43)).cell? ⟨W.heap.size, 1, none⟩ = some (.slice none 0 0) := var_cell _ _ _ _ _ rfl
  have res_f0 : (W.alloc (.cells #[.int .i64 0, .slice none 0 0] 43)).frozen? ⟨W.heap.size, 0, none⟩ = false := var_frozen _ _ _ _
  have res_f1 : (W.alloc (.cells #[.int .i64 0, .slice none 0 0] 43)).frozen? ⟨W.heap.size, 1, none⟩ = false := var_frozen _ _ _ _
  generalize (W.alloc (.cells #[.int .i64 0, .slice none 0 0] 43)) = w1 at *
  have hz1 : W.heap.size ≤ w1.heap.size := he1.size
  have E1 : Eff g (g + 1) W w1 := E0.step he1 (by omega)
  have S1 := E1.size
  replace hc := hc.keep he1 (by omega) (by omega)
  have res_l : W.heap.size < w1.heap.size := (by omega)
  refine (l02Lines_any B g 4 (by omega) (by omega) w1 hc).mono ?_
  rintro e w2 hpost
  obtain ⟨A, n, c, ls, rfl, hn, hc, o, he⟩ := hpost
  have he2 : Eff (g) (g + 1) w1 w2 := he
  have hz2 : w1.heap.size ≤ w2.heap.size := he2.size
  have E2 : Eff g (g + 1) W w2 := E1.step he2 (by omega)
  have S2 := E2.size
  replace res_f0 := (he2.frozen res_0 (by simp only; omega)).trans res_f0
  replace res_f1 := (he2.frozen res_1 (by simp only; omega)).trans res_f1
  replace res_0 := he2.cell res_0 (by simp only; omega)
  replace res_1 := he2.cell res_1 (by simp only; omega)
  replace res_l := Nat.lt_of_lt_of_le res_l hz2
  clear he
  go_upto_region 2 with fail
  have he3 : Eff 0 0 w2 (w2.alloc (.cells #[.int .i64 q, .slice A n c] 43)) := Eff.alloc _ _
  have hs3 : (w2.alloc (.cells #[.int .i64 q, .slice A n c] 43)).heap.size = w2.heap.size + 1 := (by simp)
  have p_0 : (w2.alloc (.cells #[.int .i64 q, .slice A n c] 43)).cell? ⟨w2.heap.size, 0, none⟩ = some (.int .i64 q) := var_cell _ _ _ _ _ rfl
  have p_1 : (w2.alloc (.cells #[.int .i64 q, .slice A n c] 43)).cell? ⟨w2.heap.size, 1, none⟩ = some (.slice A n c) := var_cell _ _ _ _ _ rfl
  have p_f0 : (w2.alloc (.cells #[.int .i64 q, .slice A n c] 43)).frozen? ⟨w2.heap.size, 0, none⟩ = false := var_frozen _ _ _ _
  have p_f1 : (w2.alloc (.cells #[.int .i64 q, .slice A n c] 43)).frozen? ⟨w2.heap.size, 1, none⟩ = false := var_frozen _ _ _ _
  generalize (w2.alloc (.cells #[.int .i64 q, .slice A n c] 43)) = w3 at *
  have hz3 : w2.heap.size ≤ w3.heap.size := he3.size
  have E3 : Eff g (g + 1) W w3 := E2.step he3 (by omega)
  have S3 := E3.size
  replace o := o.keep he3 (by omega)
  replace res_f0 := (he3.frozen res_0 (by simp only; omega)).trans res_f0
  replace res_f1 := (he3.frozen res_1 (by simp only; omega)).trans res_f1
  replace res_0 := he3.cell res_0 (by simp only; omega)
  replace res_1 := he3.cell res_1 (by simp only; omega)
  replace res_l := Nat.lt_of_lt_of_le res_l hz3
  replace hc := hc.keep he3 (by omega) (by omega)
  have p_l : w2.heap.size < w3.heap.size := (by omega)
  have hpW : w2.heap.size < w3.heap.size := by omega
  clear hs3
  by_cases hn2 : n < 2
  · skip
    have hn3 : (n : Int) < 2 := by omega
    go_upto_region 4 with fail
    have hq : (w3.setCell ⟨w2.heap.size, 1, none⟩ (.slice (some ⟨w3.heap.size, 0, none⟩) 2 2)).heap.size = w3.heap.size := by simp
    have he4 : Eff (w2.heap.size) (w2.heap.size + 1) w3 (w3.setCell ⟨w2.heap.size, 1, none⟩ (.slice (some ⟨w3.heap.size, 0, none⟩) 2 2)) := eff_set _ _ _ _
    replace res_f0 := (he4.frozen res_0 (by simp only; omega)).trans res_f0
    replace res_f1 := (he4.frozen res_1 (by simp only; omega)).trans res_f1
    replace p_f0 := set_frozen (p := ⟨w2.heap.size, 1, none⟩) p_f0 (.slice (some ⟨w3.heap.size, 0, none⟩) 2 2)
    replace p_f1 := set_frozen (p := ⟨w2.heap.size, 1, none⟩) p_f1 (.slice (some ⟨w3.heap.size, 0, none⟩) 2 2)
    replace res_0 := he4.cell res_0 (by simp only; omega)
    replace res_1 := he4.cell res_1 (by simp only; omega)
    replace p_0 := set_other (b' := w2.heap.size) (o' := 1) p_0 (.slice (some ⟨w3.heap.size, 0, none⟩) 2 2) (.inr (by omega))
    replace p_1 := set_same p_1 (.slice (some ⟨w3.heap.size, 0, none⟩) 2 2)
    have hz4 : w3.heap.size ≤ (w3.setCell ⟨w2.heap.size, 1, none⟩ (.slice (some ⟨w3.heap.size, 0, none⟩) 2 2)).heap.size := he4.size
    generalize (w3.setCell ⟨w2.heap.size, 1, none⟩ (.slice (some ⟨w3.heap.size, 0, none⟩) 2 2)) = w4 at *
    have E4 : Eff g (g + 1) W w4 := E3.step he4 (by omega)
    have S4 := E4.size
    replace o := o.keep he4 (by omega)
    replace res_l := Nat.lt_of_lt_of_le res_l hz4
    replace p_l := Nat.lt_of_lt_of_le p_l hz4
    replace hc := hc.keep he4 (by omega) (by omega)
    have he5 : Eff 0 0 w4 (w4.alloc (.cells #[.int .i64 1, .int .i64 0, .int .i64 5, .int .i64 2, .int .i64 0, .int .i64 (-5)] 63)) := Eff.alloc _ _
    have hs5 : (w4.alloc (.cells #[.int .i64 1, .int .i64 0, .int .i64 5, .int .i64 2, .int .i64 0, .int .i64 (-5)] 63)).heap.size = w4.heap.size + 1 := (by simp)
    have o2 : OwnL (w4.alloc (.cells #[.int .i64 1, .int .i64 0, .int .i64 5, .int .i64 2, .int .i64 0, .int .i64 (-5)] 63)) w4.heap.size (w4.heap.size + 1) (some ⟨w4.heap.size, 0, none⟩) 2 2 [⟨1, 0, 5⟩, ⟨2, 0, (-5)⟩] := new_lns w4 [⟨1, 0, 5⟩, ⟨2, 0, (-5)⟩] (by simp)
    generalize (w4.alloc (.cells #[.int .i64 1, .int .i64 0, .int .i64 5, .int .i64 2, .int .i64 0, .int .i64 (-5)] 63)) = w5 at *
    have hz5 : w4.heap.size ≤ w5.heap.size := he5.size
    have E5 : Eff g (g + 1) W w5 := E4.step he5 (by omega)
    have S5 := E5.size
    replace o := o.keep he5 (by omega)
    replace res_f0 := (he5.frozen res_0 (by simp only; omega)).trans res_f0
    replace res_f1 := (he5.frozen res_1 (by simp only; omega)).trans res_f1
    replace p_f0 := (he5.frozen p_0 (by simp only; omega)).trans p_f0
    replace p_f1 := (he5.frozen p_1 (by simp only; omega)).trans p_f1
    replace res_0 := he5.cell res_0 (by simp only; omega)
    replace res_1 := he5.cell res_1 (by simp only; omega)
    replace p_0 := he5.cell p_0 (by simp only; omega)
    replace p_1 := he5.cell p_1 (by simp only; omega)
    replace res_l := Nat.lt_of_lt_of_le res_l hz5
    replace p_l := Nat.lt_of_lt_of_le p_l hz5
    replace hc := hc.keep he5 (by omega) (by omega)
    clear hs5
    rw [hq] at o2
    clear hq
    go_wp2_with fail
    have r0 : ((w5.setCell ⟨W.heap.size, 0, none⟩ (.int .i64 q)).setCell ⟨W.heap.size, 1, none⟩ (.slice (some ⟨w3.heap.size, 0, none⟩) 2 2)).cell? ⟨W.heap.size, 0, none⟩ = some (.int .i64 q) := set_other (set_same res_0 _) _ (.inr (by omega))
    have r1 : ((w5.setCell ⟨W.heap.size, 0, none⟩ (.int .i64 q)).setCell ⟨W.heap.size, 1, none⟩ (.slice (some ⟨w3.heap.size, 0, none⟩) 2 2)).cell? ⟨W.heap.size, 1, none⟩ = some (.slice (some ⟨w3.heap.size, 0, none⟩) 2 2) := set_same (set_other res_1 _ (.inr (by omega))) _
    refine bodyPost_ret (v := .agg #[.int .i64 q, .slice (some ⟨w3.heap.size, 0, none⟩) 2 2]) (by simp [results, Try.results60, go_sem, r0, r1]) rfl ?_
    exact LedPost.mk (by omega) E5 hc o2 (eff_set2a _ _ _ _) (by omega) (by omega) (by omega) (by omega)
  · skip
    have hn3 : ¬ (n : Int) < 2 := by omega
    go_wp2_with fail
    have r0 : ((w3.setCell ⟨W.heap.size, 0, none⟩ (.int .i64 q)).setCell ⟨W.heap.size, 1, none⟩ (.slice A n c)).cell? ⟨W.heap.size, 0, none⟩ = some (.int .i64 q) := set_other (set_same res_0 _) _ (.inr (by omega))
    have r1 : ((w3.setCell ⟨W.heap.size, 0, none⟩ (.int .i64 q)).setCell ⟨W.heap.size, 1, none⟩ (.slice A n c)).cell? ⟨W.heap.size, 1, none⟩ = some (.slice A n c) := set_same (set_other res_1 _ (.inr (by omega))) _
    refine bodyPost_ret (v := .agg #[.int .i64 q, .slice A n c]) (by simp [results, Try.results60, go_sem, r0, r1]) rfl ?_
    exact LedPost.mk (by omega) E3 hc o (eff_set2a _ _ _ _) (by omega) (by omega) (by omega) (by omega)
set_option maxHeartbeats 4000000 in
set_option maxRecDepth 100000 in
theorem l02Any_any (B g lo hi m c : Nat) (A : Option Addr) (ls : List Ln) (W : World) (hc : Cur B W g) (o : OwnL W lo hi A m c ls) (hm : m ≤ 1000) (hg : g < lo) : Calls Try.prog 62 #[.pointer (some ⟨g, 0, none⟩), .slice A m c] W (AnyPost B g lo hi m W) := by
  by_cases hm0 : m = 0
  · subst hm0
    go_enter Try.func62, Try.ntmps62
    go_wp2_with fail
    go_ret
    exact ⟨A, 0, c, ls, W, rfl, by omega, hc, o, Eff.refl _ _ _, Eff.refl _ _ _⟩
  have hgl := hc.lt
  have hgB := hc.le
  have E0 : Eff g (g + 1) W W := Eff.refl _ _ _
  have hmz : ((m : Int) == 0) = false := by simp; omega
  have hgo := hg
  go_enter Try.func62, Try.ntmps62
  go_wp2_with fail
  refine (l01Below_any B g (m : Int) (by omega) W hc).mono ?_
  rintro e w1 hpost
  obtain ⟨i, rfl, ⟨i_0, i_1, -⟩, hc, he⟩ := hpost.eff
  clear hpost
  replace i_1 := i_1 (by omega)
  obtain ⟨i, rfl⟩ : ∃ j : Nat, i = (j : Int) := ⟨i.toNat, by omega⟩
  have he1 : Eff (g) (g + 1) W w1 := he
  have hz1 : W.heap.size ≤ w1.heap.size := he1.size
  have E1 : Eff g (g + 1) W w1 := E0.step he1 (by omega)
  have S1 := E1.size
  replace o := o.keep he1 (by omega)
  clear he
  go_wp2_with fail
  refine (l01Below_any B g (14) (by omega) w1 hc).mono ?_
  rintro e w2 hpost
  obtain ⟨k, rfl, ⟨k_0, k_1, -⟩, hc, he⟩ := hpost.eff
  clear hpost
  replace k_1 := k_1 (by omega)
  have he2 : Eff (g) (g + 1) w1 w2 := he
  have hz2 : w1.heap.size ≤ w2.heap.size := he2.size
  have E2 : Eff g (g + 1) W w2 := E1.step he2 (by omega)
  have S2 := E2.size
  replace o := o.keep he2 (by omega)
  clear he
  have hal := ints_lnCells ls
  have hln := Own.len o
  by_cases k0 : k = 0
  · skip
    subst k0
    go_wp2_with fail
    refine (l01Raw_any B g w2 hc).mono ?_
    rintro e w3 hpost
    obtain ⟨z, rfl, z_r, hc, he⟩ := hpost.eff
    clear hpost
    have he3 : Eff (g) (g + 1) w2 w3 := he
    have hz3 : w2.heap.size ≤ w3.heap.size := he3.size
    have E3 : Eff g (g + 1) W w3 := E2.step he3 (by omega)
    have S3 := E3.size
    replace o := o.keep he3 (by omega)
    clear he
    obtain ⟨gb, rfl, hg1, hg2, hcell, hfz⟩ := Own.form o (by omega)
    obtain ⟨x2, hx2⟩ := ints_at hal (j := i * 3 + 2) (by omega)
    have cA : w3.cell? ⟨gb, i * 3 + 2, none⟩ = some (.int .i64 x2) := (hcell _ (by omega)).trans hx2
    have fA := hfz (i * 3 + 2)
    clear hcell hfz hx2
    go_wp2_with fail
    go_ret
    obtain ⟨q0, e0⟩ := Own.stored o (i * 3 + 2) (.int .i64 z)
    have EF : Eff lo hi w3 (w3.setCell ⟨gb, i * 3 + 2, none⟩ (.int .i64 z)) := e0
    obtain ⟨ls2, hl2⟩ := ints_ln _ _ (Own.len q0) (ints_set hal _ _)
    rw [← hl2] at q0
    clear hl2
    exact ⟨_, _, _, ls2, w3, rfl, by omega, hc.keep EF (by omega) (by omega), q0, E3, EF⟩
  have n0 : (k == 0) = false := by simp; omega
  by_cases k1 : k = 1
  · skip
    subst k1
    go_wp2_with fail
    refine (l02AnyAcc_any B g w2 hc).mono ?_
    rintro e w3 hpost
    obtain ⟨ak, ac, rfl, hkc, hc, he⟩ := hpost
    have he3 : Eff (g) (g + 1) w2 w3 := he
    have hz3 : w2.heap.size ≤ w3.heap.size := he3.size
    have E3 : Eff g (g + 1) W w3 := E2.step he3 (by omega)
    have S3 := E3.size
    replace o := o.keep he3 (by omega)
    clear he
    obtain ⟨gb, rfl, hg1, hg2, hcell, hfz⟩ := Own.form o (by omega)
    obtain ⟨x0, hx0⟩ := ints_at hal (j := i * 3) (by omega)
    have cA0 : w3.cell? ⟨gb, i * 3, none⟩ = some (.int .i64 x0) := (hcell _ (by omega)).trans hx0
    have fA0 := hfz (i * 3)
    obtain ⟨x1, hx1⟩ := ints_at hal (j := i * 3 + 1) (by omega)
    have cA1 : w3.cell? ⟨gb, i * 3 + 1, none⟩ = some (.int .i64 x1) := (hcell _ (by omega)).trans hx1
    have fA1 := hfz (i * 3 + 1)
    clear hcell hfz hx0 hx1
    go_wp2_with fail
    go_ret
    obtain ⟨q0, e0⟩ := Own.stored o (i * 3) (.int .i64 ak)
    obtain ⟨q1, e1⟩ := Own.stored q0 (i * 3 + 1) (.int .i64 ac)
    have EF : Eff lo hi w3 ((w3.setCell ⟨gb, i * 3, none⟩ (.int .i64 ak)).setCell ⟨gb, i * 3 + 1, none⟩ (.int .i64 ac)) := (e0).trans e1
    obtain ⟨ls2, hl2⟩ := ints_ln _ _ (Own.len q1) (ints_set (ints_set hal _ _) _ _)
    rw [← hl2] at q1
    clear hl2
    exact ⟨_, _, _, ls2, w3, rfl, by omega, hc.keep EF (by omega) (by omega), q1, E3, EF⟩
  have n1 : (k == 1) = false := by simp; omega
  by_cases k2 : k = 2
  · skip
    subst k2
    obtain ⟨m, rfl⟩ : ∃ q, m = q + 1 := ⟨m - 1, by omega⟩
    obtain ⟨gb, rfl, hg1, hg2, hcell, hfz⟩ := Own.form o (by omega)
    have hcap := Own.caps o
    clear hcell hfz
    have s1 : IntKind.i64.wrap (((m + 1 : Nat) : Int) - 1) = (m : Int) := by rw [show ((m + 1 : Nat) : Int) - 1 = (m : Int) by omega]; exact IntWalk.i64_in _ (by omega)
    have s2 : ((m + 1 : Nat) : Int) - 1 = (m : Int) := by omega
    have s3 : (0 : Int) ≤ (m : Int) := by omega
    have s4 : (m : Int) ≤ (c : Int) := by omega
    have s5 : m ≤ c := by omega
    go_wp2_with fail
    go_ret
    exact ⟨_, _, _, ls.take m, w2, rfl, by omega, hc, OwnL.take o (by omega) (by omega), E2, Eff.refl _ _ _⟩
  have n2 : (k == 2) = false := by simp; omega
  by_cases k3 : k = 3
  · skip
    subst k3
    obtain ⟨m, rfl⟩ : ∃ q, m = q + 1 := ⟨m - 1, by omega⟩
    obtain ⟨gb, rfl, hg1, hg2, hcell, hfz⟩ := Own.form o (by omega)
    have s1 : IntKind.i64.wrap (((m + 1 : Nat) : Int) - 1) = (m : Int) := by rw [show ((m + 1 : Nat) : Int) - 1 = (m : Int) by omega]; exact IntWalk.i64_in _ (by omega)
    have s2 : ((m + 1 : Nat) : Int) - 1 = (m : Int) := by omega
    have s3 : (0 : Int) ≤ (m : Int) := by omega
    obtain ⟨xa0, hxa0⟩ := ints_at hal (j := 0) (by omega)
    have ca0 : w2.cell? ⟨gb, 0, none⟩ = some (.int .i64 xa0) := (hcell _ (by omega)).trans hxa0
    have fa0 := hfz (0)
    obtain ⟨xa1, hxa1⟩ := ints_at hal (j := 1) (by omega)
    have ca1 : w2.cell? ⟨gb, 1, none⟩ = some (.int .i64 xa1) := (hcell _ (by omega)).trans hxa1
    have fa1 := hfz (1)
    obtain ⟨xa2, hxa2⟩ := ints_at hal (j := 2) (by omega)
    have ca2 : w2.cell? ⟨gb, 2, none⟩ = some (.int .i64 xa2) := (hcell _ (by omega)).trans hxa2
    have fa2 := hfz (2)
    obtain ⟨xb0, hxb0⟩ := ints_at hal (j := m * 3) (by omega)
    have cb0 : w2.cell? ⟨gb, m * 3, none⟩ = some (.int .i64 xb0) := (hcell _ (by omega)).trans hxb0
    have fb0 := hfz (m * 3)
    obtain ⟨xb1, hxb1⟩ := ints_at hal (j := m * 3 + 1) (by omega)
    have cb1 : w2.cell? ⟨gb, m * 3 + 1, none⟩ = some (.int .i64 xb1) := (hcell _ (by omega)).trans hxb1
    have fb1 := hfz (m * 3 + 1)
    obtain ⟨xb2, hxb2⟩ := ints_at hal (j := m * 3 + 2) (by omega)
    have cb2 : w2.cell? ⟨gb, m * 3 + 2, none⟩ = some (.int .i64 xb2) := (hcell _ (by omega)).trans hxb2
    have fb2 := hfz (m * 3 + 2)
    clear hcell hfz hxa0 hxa1 hxa2 hxb0 hxb1 hxb2
    have hole := Own.le o
    go_upto_region 14 with fail
    have he3 : Eff 0 0 w2 (w2.alloc (.cells #[.int .i64 xa0, .int .i64 xa1, .int .i64 xa2] 63)) := Eff.alloc _ _
    have hs3 : (w2.alloc (.cells #[.int .i64 xa0, .int .i64 xa1, .int .i64 xa2] 63)).heap.size = w2.heap.size + 1 := (by simp)
    have x_0 : (w2.alloc (.cells #[.int .i64 xa0, .int .i64 xa1, .int .i64 xa2] 63)).cell? ⟨w2.heap.size, 0, none⟩ = some (.int .i64 xa0) := var_cell _ _ _ _ _ rfl
    have x_1 : (w2.alloc (.cells #[.int .i64 xa0, .int .i64 xa1, .int .i64 xa2] 63)).cell? ⟨w2.heap.size, 1, none⟩ = some (.int .i64 xa1) := var_cell _ _ _ _ _ rfl
    have x_2 : (w2.alloc (.cells #[.int .i64 xa0, .int .i64 xa1, .int .i64 xa2] 63)).cell? ⟨w2.heap.size, 2, none⟩ = some (.int .i64 xa2) := var_cell _ _ _ _ _ rfl
    generalize (w2.alloc (.cells #[.int .i64 xa0, .int .i64 xa1, .int .i64 xa2] 63)) = w3 at *
    have hz3 : w2.heap.size ≤ w3.heap.size := he3.size
    have E3 : Eff g (g + 1) W w3 := E2.step he3 (by omega)
    have S3 := E3.size
    replace o := o.keep he3 (by omega)
    replace fa0 := (he3.frozen ca0 (by simp only; omega)).trans fa0
    replace fa1 := (he3.frozen ca1 (by simp only; omega)).trans fa1
    replace fa2 := (he3.frozen ca2 (by simp only; omega)).trans fa2
    replace fb0 := (he3.frozen cb0 (by simp only; omega)).trans fb0
    replace fb1 := (he3.frozen cb1 (by simp only; omega)).trans fb1
    replace fb2 := (he3.frozen cb2 (by simp only; omega)).trans fb2
    replace ca0 := he3.cell ca0 (by simp only; omega)
    replace ca1 := he3.cell ca1 (by simp only; omega)
    replace ca2 := he3.cell ca2 (by simp only; omega)
    replace cb0 := he3.cell cb0 (by simp only; omega)
    replace cb1 := he3.cell cb1 (by simp only; omega)
    replace cb2 := he3.cell cb2 (by simp only; omega)
    replace hc := hc.keep he3 (by omega) (by omega)
    have x_l : w2.heap.size < w3.heap.size := (by omega)
    clear hs3
    go_upto_region 15 with fail
    obtain ⟨q0, e0⟩ := Own.stored o 0 (.int .i64 xb0)
    obtain ⟨q1, e1⟩ := Own.stored q0 1 (.int .i64 xb1)
    obtain ⟨q2, e2⟩ := Own.stored q1 2 (.int .i64 xb2)
    have EF : Eff lo hi w3 (((w3.setCell ⟨gb, 0, none⟩ (.int .i64 xb0)).setCell ⟨gb, 1, none⟩ (.int .i64 xb1)).setCell ⟨gb, 2, none⟩ (.int .i64 xb2)) := (e0.trans e1).trans e2
    have hal2 := ints_set (ints_set (ints_set hal 0 xb0) 1 xb1) 2 xb2
    replace hc := hc.keep EF (by omega) (by omega)
    replace x_0 := EF.cell x_0 (by simp only; omega)
    replace x_1 := EF.cell x_1 (by simp only; omega)
    replace x_2 := EF.cell x_2 (by simp only; omega)
    have hzE := EF.size
    generalize (((w3.setCell ⟨gb, 0, none⟩ (.int .i64 xb0)).setCell ⟨gb, 1, none⟩ (.int .i64 xb1)).setCell ⟨gb, 2, none⟩ (.int .i64 xb2)) = wz at *
    clear ca0 ca1 ca2 cb0 cb1 cb2 fa0 fa1 fa2 fb0 fb1 fb2 e0 e1 e2 q0 q1
    obtain ⟨gb2, hgg, -, -, hcell, hfz⟩ := Own.form q2 (by omega)
    obtain rfl : gb = gb2 := by injection hgg with h; injection h
    obtain ⟨y0, hy0⟩ := ints_at hal2 (j := m * 3) (by rw [Own.len q2]; omega)
    have d0 : wz.cell? ⟨gb, m * 3, none⟩ = some (.int .i64 y0) := (hcell _ (by omega)).trans hy0
    have g0 := hfz (m * 3)
    obtain ⟨y1, hy1⟩ := ints_at hal2 (j := m * 3 + 1) (by rw [Own.len q2]; omega)
    have d1 : wz.cell? ⟨gb, m * 3 + 1, none⟩ = some (.int .i64 y1) := (hcell _ (by omega)).trans hy1
    have g1 := hfz (m * 3 + 1)
    obtain ⟨y2, hy2⟩ := ints_at hal2 (j := m * 3 + 2) (by rw [Own.len q2]; omega)
    have d2 : wz.cell? ⟨gb, m * 3 + 2, none⟩ = some (.int .i64 y2) := (hcell _ (by omega)).trans hy2
    have g2 := hfz (m * 3 + 2)
    clear hcell hfz hy0 hy1 hy2 hgg
    go_wp2_with fail
    go_ret
    obtain ⟨r0, h0⟩ := Own.stored q2 (m * 3) (.int .i64 xa0)
    obtain ⟨r1, h1⟩ := Own.stored r0 (m * 3 + 1) (.int .i64 xa1)
    obtain ⟨r2, h2⟩ := Own.stored r1 (m * 3 + 2) (.int .i64 xa2)
    obtain ⟨ls2, hl2⟩ := ints_ln _ _ (Own.len r2) (ints_set (ints_set (ints_set hal2 _ _) _ _) _ _)
    rw [← hl2] at r2
    clear hl2
    have EG := EF.trans ((h0.trans h1).trans h2)
    exact ⟨_, _, _, ls2, w3, rfl, by omega, hc.keep ((h0.trans h1).trans h2) (by omega) (by omega), r2, E3, EG⟩
  have n3 : (k == 3) = false := by simp; omega
  go_wp2_with fail
  go_ret
  exact ⟨A, m, c, ls, w2, rfl, by omega, hc, o, E2, Eff.refl _ _ _⟩
end Go.Proofs.Ytgjphejmppehjaa
