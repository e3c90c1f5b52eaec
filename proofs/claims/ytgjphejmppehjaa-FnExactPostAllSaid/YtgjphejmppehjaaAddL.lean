/- Lines with one more (reference): l02Add. -/
import Derived.Test.YtgjphejmppehjaaMrg
namespace Go.Proofs.Ytgjphejmppehjaa
open Go.RowKit
/-- Lines of the call's own, with their number. -/
def MadeLs (ls : List Ln) (w : World) (e : Ending) (w' : World) : Prop :=
  ∃ A n c, n = ls.length ∧ e = .returned (.slice A n c) ∧ OwnL w' w.heap.size w'.heap.size A n c ls ∧ Below w.heap.size w w'
theorem addL_lt {x y : Ln} {t : List Ln} (h : ltA y x = true) : addL x (y :: t) = y :: addL x t := by simp [addL, h]
theorem addL_new {x y : Ln} {t : List Ln} (h : ltA y x = false) (h' : ¬ (y.k = x.k ∧ y.c = x.c)) : addL x (y :: t) = x :: y :: t := by simp [addL, h, h']
theorem addL_zero {x y : Ln} {t : List Ln} (h : ltA y x = false) (h' : y.k = x.k ∧ y.c = x.c) (h2 : y.a + x.a = 0) : addL x (y :: t) = t := by simp [addL, h, h', h2]
theorem addL_sum {x y : Ln} {t : List Ln} (h : ltA y x = false) (h' : y.k = x.k ∧ y.c = x.c) (h2 : y.a + x.a ≠ 0) : addL x (y :: t) = ⟨y.k, y.c, y.a + x.a⟩ :: t := by simp [addL, h, h', h2]
theorem ln_drop {ls : List Ln} {i : Nat} {y : Ln} (hx : lnAt ls i = y) (h : i < ls.length) : ls.drop i = y :: ls.drop (i + 1) := by
  have e : ls[i] = y := by rw [← hx]; simp [lnAt, List.getD, h]
  rw [List.drop_eq_getElem_cons h, e]
theorem ln_mem {ls : List Ln} {i : Nat} {y : Ln} (hx : lnAt ls i = y) (h : i < ls.length) : y ∈ ls := by
  have e : ls[i] = y := by rw [← hx]; simp [lnAt, List.getD, h]
  rw [← e]; exact List.getElem_mem h
/-- An amount far from the ends of an integer. -/
def midA (a : Int) : Bool := decide (-2305843009213693952 ≤ a ∧ a ≤ 2305843009213693952)
theorem midA_iff {a : Int} : midA a = true ↔ -2305843009213693952 ≤ a ∧ a ≤ 2305843009213693952 := by simp [midA]
set_option maxHeartbeats 8000000 in
set_option maxRecDepth 100000 in
theorem l02Add_any (A : Option Addr) (n c : Nat) (ls : List Ln) (x0 x1 x2 : Int) (W : World) (hr : Rd W W.heap.size 3 A n (lnCells ls)) (hn : n ≤ 1099511627776) (hM : ∀ y ∈ ls, midA y.a = true) (hx2 : midA x2 = true) :
    Calls Try.prog 54 #[.slice A n c, .agg #[.int .i64 x0, .int .i64 x1, .int .i64 x2]] W (MadeLs (addL ⟨x0, x1, x2⟩ ls) W) := by
  obtain ⟨i0, hi0, hj0, hj1, hj2⟩ := info_parts info_Line
  have hl := lnlen_of_rd hr
  have HL := Lib.hid hl
  clear hl
  have HM := Lib.hid hM
  have hx2 := midA_iff.1 hx2
  clear hM
  go_enter Try.func54, Try.ntmps54
  go_wp2_with fail
  have he1 : Eff 0 0 W (W.alloc (.cells #[.int .i64 x0, .int .i64 x1, .int .i64 x2] 63)) := Eff.alloc _ _
  have hs1 : (W.alloc (.cells #[.int .i64 x0, .int .i64 x1, .int .i64 x2] 63)).heap.size = W.heap.size + 1 := (by simp)
  have x_0 : (W.alloc (.cells #[.int .i64 x0, .int .i64 x1, .int .i64 x2] 63)).cell? ⟨W.heap.size, 0, none⟩ = some (.int .i64 x0) := var_cell _ _ _ _ _ rfl
  have x_1 : (W.alloc (.cells #[.int .i64 x0, .int .i64 x1, .int .i64 x2] 63)).cell? ⟨W.heap.size, 1, none⟩ = some (.int .i64 x1) := var_cell _ _ _ _ _ rfl
  have x_2 : (W.alloc (.cells #[.int .i64 x0, .int .i64 x1, .int .i64 x2] 63)).cell? ⟨W.heap.size, 2, none⟩ = some (.int .i64 x2) := var_cell _ _ _ _ _ rfl
  generalize (W.alloc (.cells #[.int .i64 x0, .int .i64 x1, .int .i64 x2] 63)) = w1 at *
  have hz1 : W.heap.size ≤ w1.heap.size := he1.size
  have b1 : Below W.heap.size W w1 := he1.below (Nat.le_refl _) (by omega)
  replace hr := (hr.below (he1.below (B := W.heap.size) (by omega) (by omega)) (Nat.le_refl _))
  have x_l : W.heap.size < w1.heap.size := (by omega)
  go_wp2
  go_loopw [5, 6, 12] (fun vo vd vi wr => ∃ (i : Nat) (Ao : Option Addr) (no co : Nat) (os : List Ln) (d : Bool), i ≤ n ∧ vo = .slice Ao no co ∧ vd = .bool d ∧ vi = .int .i64 (i : Int) ∧ OwnL wr w1.heap.size wr.heap.size Ao no co os ∧ no ≤ i + (if d then 1 else 0) ∧ Hid (addL ⟨x0, x1, x2⟩ ls = os ++ (if d then ls.drop i else addL ⟨x0, x1, x2⟩ (ls.drop i))) ∧ Below w1.heap.size w1 wr) (fun _ _ vi _ => n - (intOf vi).toNat)
  case atStart => exact ⟨0, _, _, _, [], false, Nat.zero_le _, rfl, rfl, rfl, by rw [show (⟨W.heap.size + 1, 0, none⟩ : Addr) = ⟨w1.heap.size, 0, none⟩ by rw [hs1]]; exact Own.wide (new_empty w1 63 3) (Nat.le_refl _) (by simp) (Nat.le_refl _), by simp, Lib.hid (by simp), (Below.refl _ _).alloc (Nat.le_refl _) _⟩
  case round =>
    obtain ⟨i, Ao, no, co, os, d, hi, rfl, rfl, rfl, ho, hno, HB, hb⟩ := hrel
    replace x_0 := cell_kept hb x_0 x_l
    replace x_1 := cell_kept hb x_1 x_l
    replace x_2 := cell_kept hb x_2 x_l
    have hzr := hb.size
    replace hr := hr.below (hb.mono hz1) (Nat.le_refl _)
    clear he1
    have hbW := b1.trans (hb.mono hz1)
    by_cases hlt : i < n
    · obtain ⟨y0, y1, y2, hy⟩ : ∃ y0 y1 y2, lnAt ls i = ⟨y0, y1, y2⟩ := ⟨_, _, _, rfl⟩
      have HY := Lib.hid hy
      have HD := Lib.hid (ln_drop hy (by have := HL.out; omega))
      have hy2 := midA_iff.1 (HM.out _ (ln_mem hy (by have := HL.out; omega)))
      simp only at hy2
      obtain ⟨b, off, rfl, hbB, hcell⟩ := hr.form (by omega)
      obtain ⟨g0, g1, g2⟩ := lnCells_at (k := i) hy (by have := HL.out; omega)
      have c0 := hcell _ _ g0
      have c1 := hcell _ _ g1
      have c2 := hcell _ _ g2
      rw [← Nat.add_assoc] at c1 c2
      have j0 : (0 : Int) ≤ (i : Int) := by omega
      have j1 : (i : Int) < (n : Int) := by omega
      clear hcell g0 g1 g2 hy
      have hw1 : W.heap.size ≤ w1.heap.size := hz1
      clear hz1
      rcases d with _ | _
      · skip
        replace hno : no ≤ i := by simpa using hno
        have x_0P := (Eff.alloc wr (.cells #[.int .i64 y0, .int .i64 y1, .int .i64 y2] 63)).cell x_0 (by simp only; omega)
        have x_1P := (Eff.alloc wr (.cells #[.int .i64 y0, .int .i64 y1, .int .i64 y2] 63)).cell x_1 (by simp only; omega)
        have x_2P := (Eff.alloc wr (.cells #[.int .i64 y0, .int .i64 y1, .int .i64 y2] 63)).cell x_2 (by simp only; omega)
        go_wp2_with fail
        have he1 : Eff 0 0 wr (wr.alloc (.cells #[.int .i64 y0, .int .i64 y1, .int .i64 y2] 63)) := Eff.alloc _ _
        have hs1 : (wr.alloc (.cells #[.int .i64 y0, .int .i64 y1, .int .i64 y2] 63)).heap.size = wr.heap.size + 1 := (by simp)
        have y_0 : (wr.alloc (.cells #[.int .i64 y0, .int .i64 y1, .int .i64 y2] 63)).cell? ⟨wr.heap.size, 0, none⟩ = some (.int .i64 y0) := var_cell _ _ _ _ _ rfl
        have y_1 : (wr.alloc (.cells #[.int .i64 y0, .int .i64 y1, .int .i64 y2] 63)).cell? ⟨wr.heap.size, 1, none⟩ = some (.int .i64 y1) := var_cell _ _ _ _ _ rfl
        have y_2 : (wr.alloc (.cells #[.int .i64 y0, .int .i64 y1, .int .i64 y2] 63)).cell? ⟨wr.heap.size, 2, none⟩ = some (.int .i64 y2) := var_cell _ _ _ _ _ rfl
        generalize (wr.alloc (.cells #[.int .i64 y0, .int .i64 y1, .int .i64 y2] 63)) = z1 at *
        have hz1 : wr.heap.size ≤ z1.heap.size := he1.size
        have b1 : Below W.heap.size W z1 := hbW.trans (he1.below hbW.size (by omega))
        replace ho := Own.keep ho he1 (by omega)
        replace x_0 := he1.cell x_0 (by simp only; omega)
        replace x_1 := he1.cell x_1 (by simp only; omega)
        replace x_2 := he1.cell x_2 (by simp only; omega)
        have y_l : wr.heap.size < z1.heap.size := (by omega)
        clear x_0P x_1P x_2P
        rcases hL : ltK y0 y1 x0 x1 with _ | _
        · skip
          refine (spec_l02Less y0 y1 x0 x1 z1).mono ?_
          rintro e z2 ⟨rfl, hb⟩
          have he2 : Eff 0 0 z1 z2 := Eff.of hb
          have hz2 : z1.heap.size ≤ z2.heap.size := he2.size
          have b2 : Below W.heap.size W z2 := b1.trans (he2.below b1.size (by omega))
          replace ho := Own.keep ho he2 (by omega)
          replace x_0 := he2.cell x_0 (by simp only; omega)
          replace x_1 := he2.cell x_1 (by simp only; omega)
          replace x_2 := he2.cell x_2 (by simp only; omega)
          replace y_0 := he2.cell y_0 (by simp only; omega)
          replace y_1 := he2.cell y_1 (by simp only; omega)
          replace y_2 := he2.cell y_2 (by simp only; omega)
          replace y_l := Nat.lt_of_lt_of_le y_l hz2
          clear hb
          rw [hL]
          by_cases hk : y0 = x0
          · skip
            have e1 : (y0 == x0) = true := by simp; exact hk
            by_cases hc : y1 = x1
            · skip
              have HS : Hid (y0 = x0 ∧ y1 = x1) := Lib.hid ⟨hk, hc⟩
              have e2 : (y1 == x1) = true := by simp; exact hc
              clear hk hc
              by_cases hs : y2 + x2 = 0
              · skip
                have HZ := Lib.hid hs
                have e3 : (y2 + x2 != 0) = false := by simp; exact hs
                clear hs
                have hbl : Below w1.heap.size w1 z2 := ((hb.trans (he1.below (by omega) (by omega))).trans (he2.below (by omega) (by omega)))
                have o1 : OwnL z2 w1.heap.size z2.heap.size Ao no co os := Own.wide ho (Nat.le_refl _) (by omega) (Nat.le_refl _)
                go_wp2
                go_roundw
                case rel => exact ⟨i + 1, _, _, _, _, true, by omega, rfl, rfl, by go_num, o1, by first | (simp; done) | (simp; omega), Lib.hid (by rw [HB.out, HD.out]; simp [addL_zero (x := ⟨x0, x1, x2⟩) (y := ⟨y0, y1, y2⟩) hL HS.out HZ.out]), hbl⟩
                case measure => simp [intOf]; omega
              · skip
                have HZ := Lib.hid hs
                have e3 : (y2 + x2 != 0) = true := by simp; exact hs
                clear hs
                have tok1 : True := trivial
                go_wp2_with (have _t := tok1; at_builtin; refine wpList_app _ rfl _ _ 25 rfl 63 i0 (.agg #[.int .i64 0, .int .i64 0, .int .i64 0]) 3 24 Try.underlying25 hi0 hj0 hj1 hj2 rfl (by omega) rfl (Own.alloc ho _) 1 rfl (rd_new3 _ (.int .i64 (y0)) (.int .i64 (y1)) (.int .i64 (y2 + x2)) 63) (one3 _ _ _) (by unfold maxLen; omega) (by omega) (by first | (simp; done) | (simp; omega)) ?_; intro Ao1 co1 z3 o1 hE _; clear tok1 _t; have he3 : Eff (w1.heap.size) (wr.heap.size) z2 z3 := ((Eff.refl _ _ _).new _).trans hE; have hz3 : z2.heap.size ≤ z3.heap.size := he3.size; have b3 : Below W.heap.size W z3 := b2.trans (he3.below b2.size (by omega)); replace x_0 := he3.cell x_0 (by simp only; omega); replace x_1 := he3.cell x_1 (by simp only; omega); replace x_2 := he3.cell x_2 (by simp only; omega); replace y_0 := he3.cell y_0 (by simp only; omega); replace y_1 := he3.cell y_1 (by simp only; omega); replace y_2 := he3.cell y_2 (by simp only; omega); replace y_l := Nat.lt_of_lt_of_le y_l hz3; clear hE ho; replace o1 : OwnL z3 (w1.heap.size) z3.heap.size Ao1 (no + 1) co1 _ := lnCells_snoc _ (y0) (y1) (y2 + x2) ▸ o1)
                have hbl : Below w1.heap.size w1 z3 := (((hb.trans (he1.below (by omega) (by omega))).trans (he2.below (by omega) (by omega))).trans (he3.below (by omega) (by omega)))
                go_wp2
                go_roundw
                case rel => exact ⟨i + 1, _, _, _, _, true, by omega, rfl, rfl, by go_num, o1, by first | (simp; done) | (simp; omega), Lib.hid (by rw [HB.out, HD.out]; simp [addL_sum (x := ⟨x0, x1, x2⟩) (y := ⟨y0, y1, y2⟩) hL HS.out HZ.out]), hbl⟩
                case measure => simp [intOf]; omega
            · skip
              have HC := Lib.hid hc
              have e2 : (y1 == x1) = false := by simp; exact hc
              clear hc hk
              have tok1 : True := trivial
              have tok2 : True := trivial
              go_wp2_with (first | (have _t := tok1; at_builtin; refine wpList_app _ rfl _ _ 25 rfl 63 i0 (.agg #[.int .i64 0, .int .i64 0, .int .i64 0]) 3 24 Try.underlying25 hi0 hj0 hj1 hj2 rfl (by omega) rfl (Own.alloc ho _) 1 rfl (rd_new3 _ (.int .i64 (x0)) (.int .i64 (x1)) (.int .i64 (x2)) 63) (one3 _ _ _) (by unfold maxLen; omega) (by omega) (by first | (simp; done) | (simp; omega)) ?_; intro Ao1 co1 z3 o1 hE _; clear tok1 _t; have he3 : Eff (w1.heap.size) (wr.heap.size) z2 z3 := ((Eff.refl _ _ _).new _).trans hE; have hz3 : z2.heap.size ≤ z3.heap.size := he3.size; have b3 : Below W.heap.size W z3 := b2.trans (he3.below b2.size (by omega)); replace x_0 := he3.cell x_0 (by simp only; omega); replace x_1 := he3.cell x_1 (by simp only; omega); replace x_2 := he3.cell x_2 (by simp only; omega); replace y_0 := he3.cell y_0 (by simp only; omega); replace y_1 := he3.cell y_1 (by simp only; omega); replace y_2 := he3.cell y_2 (by simp only; omega); replace y_l := Nat.lt_of_lt_of_le y_l hz3; clear hE ho; replace o1 : OwnL z3 (w1.heap.size) z3.heap.size Ao1 (no + 1) co1 _ := lnCells_snoc _ (x0) (x1) (x2) ▸ o1) | (have _t := tok2; at_builtin; refine wpList_app _ rfl _ _ 25 rfl 63 i0 (.agg #[.int .i64 0, .int .i64 0, .int .i64 0]) 3 24 Try.underlying25 hi0 hj0 hj1 hj2 rfl (by omega) rfl (Own.alloc o1 _) 1 rfl (rd_new3 _ (.int .i64 (y0)) (.int .i64 (y1)) (.int .i64 (y2)) 63) (one3 _ _ _) (by unfold maxLen; omega) (by omega) (by first | (simp; done) | (simp; omega)) ?_; intro Ao2 co2 z4 o2 hE _; clear tok2 _t; have he4 : Eff (w1.heap.size) (z3.heap.size) z3 z4 := ((Eff.refl _ _ _).new _).trans hE; have hz4 : z3.heap.size ≤ z4.heap.size := he4.size; have b4 : Below W.heap.size W z4 := b3.trans (he4.below b3.size (by omega)); replace x_0 := he4.cell x_0 (by simp only; omega); replace x_1 := he4.cell x_1 (by simp only; omega); replace x_2 := he4.cell x_2 (by simp only; omega); clear hE o1; replace o2 : OwnL z4 (w1.heap.size) z4.heap.size Ao2 (no + 1 + 1) co2 _ := lnCells_snoc _ (y0) (y1) (y2) ▸ o2))
              have hbl : Below w1.heap.size w1 z4 := ((((hb.trans (he1.below (by omega) (by omega))).trans (he2.below (by omega) (by omega))).trans (he3.below (by omega) (by omega))).trans (he4.below (by omega) (by omega)))
              go_wp2
              go_roundw
              case rel => exact ⟨i + 1, _, _, _, _, true, by omega, rfl, rfl, by go_num, o2, by first | (simp; done) | (simp; omega), Lib.hid (by rw [HB.out, HD.out]; simp [addL_new (x := ⟨x0, x1, x2⟩) (y := ⟨y0, y1, y2⟩) hL (fun h => HC.out h.2)]), hbl⟩
              case measure => simp [intOf]; omega
          · skip
            have HK := Lib.hid hk
            have e1 : (y0 == x0) = false := by simp; exact hk
            clear hk
            have tok1 : True := trivial
            have tok2 : True := trivial
            go_wp2_with (first | (have _t := tok1; at_builtin; refine wpList_app _ rfl _ _ 25 rfl 63 i0 (.agg #[.int .i64 0, .int .i64 0, .int .i64 0]) 3 24 Try.underlying25 hi0 hj0 hj1 hj2 rfl (by omega) rfl (Own.alloc ho _) 1 rfl (rd_new3 _ (.int .i64 (x0)) (.int .i64 (x1)) (.int .i64 (x2)) 63) (one3 _ _ _) (by unfold maxLen; omega) (by omega) (by first | (simp; done) | (simp; omega)) ?_; intro Ao1 co1 z3 o1 hE _; clear tok1 _t; have he3 : Eff (w1.heap.size) (wr.heap.size) z2 z3 := ((Eff.refl _ _ _).new _).trans hE; have hz3 : z2.heap.size ≤ z3.heap.size := he3.size; have b3 : Below W.heap.size W z3 := b2.trans (he3.below b2.size (by omega)); replace x_0 := he3.cell x_0 (by simp only; omega); replace x_1 := he3.cell x_1 (by simp only; omega); replace x_2 := he3.cell x_2 (by simp only; omega); replace y_0 := he3.cell y_0 (by simp only; omega); replace y_1 := he3.cell y_1 (by simp only; omega); replace y_2 := he3.cell y_2 (by simp only; omega); replace y_l := Nat.lt_of_lt_of_le y_l hz3; clear hE ho; replace o1 : OwnL z3 (w1.heap.size) z3.heap.size Ao1 (no + 1) co1 _ := lnCells_snoc _ (x0) (x1) (x2) ▸ o1) | (have _t := tok2; at_builtin; refine wpList_app _ rfl _ _ 25 rfl 63 i0 (.agg #[.int .i64 0, .int .i64 0, .int .i64 0]) 3 24 Try.underlying25 hi0 hj0 hj1 hj2 rfl (by omega) rfl (Own.alloc o1 _) 1 rfl (rd_new3 _ (.int .i64 (y0)) (.int .i64 (y1)) (.int .i64 (y2)) 63) (one3 _ _ _) (by unfold maxLen; omega) (by omega) (by first | (simp; done) | (simp; omega)) ?_; intro Ao2 co2 z4 o2 hE _; clear tok2 _t; have he4 : Eff (w1.heap.size) (z3.heap.size) z3 z4 := ((Eff.refl _ _ _).new _).trans hE; have hz4 : z3.heap.size ≤ z4.heap.size := he4.size; have b4 : Below W.heap.size W z4 := b3.trans (he4.below b3.size (by omega)); replace x_0 := he4.cell x_0 (by simp only; omega); replace x_1 := he4.cell x_1 (by simp only; omega); replace x_2 := he4.cell x_2 (by simp only; omega); clear hE o1; replace o2 : OwnL z4 (w1.heap.size) z4.heap.size Ao2 (no + 1 + 1) co2 _ := lnCells_snoc _ (y0) (y1) (y2) ▸ o2))
            have hbl : Below w1.heap.size w1 z4 := ((((hb.trans (he1.below (by omega) (by omega))).trans (he2.below (by omega) (by omega))).trans (he3.below (by omega) (by omega))).trans (he4.below (by omega) (by omega)))
            go_wp2
            go_roundw
            case rel => exact ⟨i + 1, _, _, _, _, true, by omega, rfl, rfl, by go_num, o2, by first | (simp; done) | (simp; omega), Lib.hid (by rw [HB.out, HD.out]; simp [addL_new (x := ⟨x0, x1, x2⟩) (y := ⟨y0, y1, y2⟩) hL (fun h => HK.out h.1)]), hbl⟩
            case measure => simp [intOf]; omega
        · skip
          refine (spec_l02Less y0 y1 x0 x1 z1).mono ?_
          rintro e z2 ⟨rfl, hb⟩
          have he2 : Eff 0 0 z1 z2 := Eff.of hb
          have hz2 : z1.heap.size ≤ z2.heap.size := he2.size
          have b2 : Below W.heap.size W z2 := b1.trans (he2.below b1.size (by omega))
          replace ho := Own.keep ho he2 (by omega)
          replace x_0 := he2.cell x_0 (by simp only; omega)
          replace x_1 := he2.cell x_1 (by simp only; omega)
          replace x_2 := he2.cell x_2 (by simp only; omega)
          replace y_0 := he2.cell y_0 (by simp only; omega)
          replace y_1 := he2.cell y_1 (by simp only; omega)
          replace y_2 := he2.cell y_2 (by simp only; omega)
          replace y_l := Nat.lt_of_lt_of_le y_l hz2
          clear hb
          rw [hL]
          have tok1 : True := trivial
          go_wp2_with (have _t := tok1; at_builtin; refine wpList_app _ rfl _ _ 25 rfl 63 i0 (.agg #[.int .i64 0, .int .i64 0, .int .i64 0]) 3 24 Try.underlying25 hi0 hj0 hj1 hj2 rfl (by omega) rfl (Own.alloc ho _) 1 rfl (rd_new3 _ (.int .i64 (y0)) (.int .i64 (y1)) (.int .i64 (y2)) 63) (one3 _ _ _) (by unfold maxLen; omega) (by omega) (by first | (simp; done) | (simp; omega)) ?_; intro Ao1 co1 z3 o1 hE _; clear tok1 _t; have he3 : Eff (w1.heap.size) (wr.heap.size) z2 z3 := ((Eff.refl _ _ _).new _).trans hE; have hz3 : z2.heap.size ≤ z3.heap.size := he3.size; have b3 : Below W.heap.size W z3 := b2.trans (he3.below b2.size (by omega)); replace x_0 := he3.cell x_0 (by simp only; omega); replace x_1 := he3.cell x_1 (by simp only; omega); replace x_2 := he3.cell x_2 (by simp only; omega); replace y_0 := he3.cell y_0 (by simp only; omega); replace y_1 := he3.cell y_1 (by simp only; omega); replace y_2 := he3.cell y_2 (by simp only; omega); replace y_l := Nat.lt_of_lt_of_le y_l hz3; clear hE ho; replace o1 : OwnL z3 (w1.heap.size) z3.heap.size Ao1 (no + 1) co1 _ := lnCells_snoc _ (y0) (y1) (y2) ▸ o1)
          have hbl : Below w1.heap.size w1 z3 := (((hb.trans (he1.below (by omega) (by omega))).trans (he2.below (by omega) (by omega))).trans (he3.below (by omega) (by omega)))
          go_wp2
          go_roundw
          case rel => exact ⟨i + 1, _, _, _, _, false, by omega, rfl, rfl, by go_num, o1, by first | (simp; done) | (simp; omega), Lib.hid (by rw [HB.out, HD.out]; simp [addL_lt (x := ⟨x0, x1, x2⟩) (y := ⟨y0, y1, y2⟩) hL]), hbl⟩
          case measure => simp [intOf]; omega
      · skip
        replace hno : no ≤ i + 1 := by simpa using hno
        have tok1 : True := trivial
        go_wp2_with (have _t := tok1; at_builtin; have he1 : Eff 0 0 wr (wr.alloc (.cells #[.int .i64 y0, .int .i64 y1, .int .i64 y2] 63)) := Eff.alloc _ _; have hs1 : (wr.alloc (.cells #[.int .i64 y0, .int .i64 y1, .int .i64 y2] 63)).heap.size = wr.heap.size + 1 := (by simp); have y_0 : (wr.alloc (.cells #[.int .i64 y0, .int .i64 y1, .int .i64 y2] 63)).cell? ⟨wr.heap.size, 0, none⟩ = some (.int .i64 y0) := var_cell _ _ _ _ _ rfl; have y_1 : (wr.alloc (.cells #[.int .i64 y0, .int .i64 y1, .int .i64 y2] 63)).cell? ⟨wr.heap.size, 1, none⟩ = some (.int .i64 y1) := var_cell _ _ _ _ _ rfl; have y_2 : (wr.alloc (.cells #[.int .i64 y0, .int .i64 y1, .int .i64 y2] 63)).cell? ⟨wr.heap.size, 2, none⟩ = some (.int .i64 y2) := var_cell _ _ _ _ _ rfl; generalize (wr.alloc (.cells #[.int .i64 y0, .int .i64 y1, .int .i64 y2] 63)) = z1 at *; have hz1 : wr.heap.size ≤ z1.heap.size := he1.size; have b1 : Below W.heap.size W z1 := hbW.trans (he1.below hbW.size (by omega)); replace ho := Own.keep ho he1 (by omega); replace x_0 := he1.cell x_0 (by simp only; omega); replace x_1 := he1.cell x_1 (by simp only; omega); replace x_2 := he1.cell x_2 (by simp only; omega); have y_l : wr.heap.size < z1.heap.size := (by omega); refine wpList_app _ rfl _ _ 25 rfl 63 i0 (.agg #[.int .i64 0, .int .i64 0, .int .i64 0]) 3 24 Try.underlying25 hi0 hj0 hj1 hj2 rfl (by omega) rfl (Own.alloc ho _) 1 rfl (by rw [show (⟨wr.heap.size + 1, 0, none⟩ : Addr) = ⟨z1.heap.size, 0, none⟩ by rw [hs1]]; exact rd_new3 _ (.int .i64 (y0)) (.int .i64 (y1)) (.int .i64 (y2)) 63) (one3 _ _ _) (by unfold maxLen; omega) (by omega) (by first | (simp; done) | (simp; omega)) ?_; intro Ao1 co1 z2 o1 hE _; clear tok1 _t; have he2 : Eff (w1.heap.size) (wr.heap.size) z1 z2 := ((Eff.refl _ _ _).new _).trans hE; have hz2 : z1.heap.size ≤ z2.heap.size := he2.size; have b2 : Below W.heap.size W z2 := b1.trans (he2.below b1.size (by omega)); replace x_0 := he2.cell x_0 (by simp only; omega); replace x_1 := he2.cell x_1 (by simp only; omega); replace x_2 := he2.cell x_2 (by simp only; omega); replace y_0 := he2.cell y_0 (by simp only; omega); replace y_1 := he2.cell y_1 (by simp only; omega); replace y_2 := he2.cell y_2 (by simp only; omega); replace y_l := Nat.lt_of_lt_of_le y_l hz2; clear hE ho; replace o1 : OwnL z2 (w1.heap.size) z2.heap.size Ao1 (no + 1) co1 _ := lnCells_snoc _ (y0) (y1) (y2) ▸ o1)
        have hbl : Below w1.heap.size w1 z2 := ((hb.trans (he1.below (by omega) (by omega))).trans (he2.below (by omega) (by omega)))
        go_wp2
        go_roundw
        case rel => exact ⟨i + 1, _, _, _, _, true, by omega, rfl, rfl, by go_num, o1, by first | (simp; done) | (simp; omega), Lib.hid (by rw [HB.out, HD.out]; simp), hbl⟩
        case measure => simp [intOf]; omega
    · have hge : i = n := by omega
      subst hge
      have HN : Hid (ls.drop i = []) := Lib.hid (List.drop_of_length_le (by rw [HL.out]; exact Nat.le_refl _))
      have hw1 : W.heap.size ≤ w1.heap.size := hz1
      clear hz1
      rcases d with _ | _
      · skip
        replace hno : no ≤ i := by simpa using hno
        have tok1 : True := trivial
        go_wp2_with (have _t := tok1; at_builtin; refine wpList_app _ rfl _ _ 25 rfl 63 i0 (.agg #[.int .i64 0, .int .i64 0, .int .i64 0]) 3 24 Try.underlying25 hi0 hj0 hj1 hj2 rfl (by omega) rfl (Own.alloc ho _) 1 rfl (rd_new3 _ (.int .i64 (x0)) (.int .i64 (x1)) (.int .i64 (x2)) 63) (one3 _ _ _) (by unfold maxLen; omega) (by omega) (by first | (simp; done) | (simp; omega)) ?_; intro Ao1 co1 z1 o1 hE _; clear tok1 _t; have he1 : Eff (w1.heap.size) (wr.heap.size) wr z1 := ((Eff.refl _ _ _).new _).trans hE; have hz1 : wr.heap.size ≤ z1.heap.size := he1.size; have b1 : Below W.heap.size W z1 := hbW.trans (he1.below hbW.size (by omega)); replace x_0 := he1.cell x_0 (by simp only; omega); replace x_1 := he1.cell x_1 (by simp only; omega); replace x_2 := he1.cell x_2 (by simp only; omega); clear hE ho; replace o1 : OwnL z1 (w1.heap.size) z1.heap.size Ao1 (no + 1) co1 _ := lnCells_snoc _ (x0) (x1) (x2) ▸ o1)
        go_wp2
        go_ret
        refine ⟨_, _, _, ?_, rfl, ?_, b1⟩
        · rw [HB.out, HN.out]; have := lnlen_of_own o1; simp [addL] at this ⊢; omega
        · have e : addL ⟨x0, x1, x2⟩ ls = _ := HB.out
          rw [HN.out] at e
          rw [e]
          unfold OwnL
          simpa [addL] using Own.wide o1 (by omega) (Nat.le_refl _) (Nat.le_refl _)
      · skip
        replace hno : no ≤ i + 1 := by simpa using hno
        go_wp2
        go_ret
        refine ⟨_, _, _, ?_, rfl, ?_, hbW⟩
        · rw [HB.out, HN.out]; have := lnlen_of_own ho; simp at this ⊢; omega
        · have e : addL ⟨x0, x1, x2⟩ ls = _ := HB.out
          rw [HN.out] at e
          rw [e]
          unfold OwnL
          simpa using Own.wide ho (by omega) (Nat.le_refl _) (Nat.le_refl _)
end Go.Proofs.Ytgjphejmppehjaa
