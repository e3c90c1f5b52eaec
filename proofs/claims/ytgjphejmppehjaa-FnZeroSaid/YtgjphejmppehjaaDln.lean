/- Draws of lines (l02Lines). -/
import Derived.Test.YtgjphejmppehjaaDacc
import Derived.Test.YtgjphejmppehjaaPosS
import Derived.Deep.Cut
namespace Go.Proofs.Ytgjphejmppehjaa
open Go.RowKit
theorem OwnL.keep {w w' : World} {lo hi lo' hi' n c : Nat} {A : Option Addr} {ls : List Ln} (h : OwnL w lo hi A n c ls) (he : Eff lo' hi' w w') (hd : hi ≤ lo' ∨ hi' ≤ lo ∨ hi' ≤ lo') : OwnL w' lo hi A n c ls := Own.keep h he hd
/-- No amount is greater. -/
def bdL (M : Int) (ls : List Ln) : Prop := ∀ y ∈ ls, -M ≤ y.a ∧ y.a ≤ M
theorem bdL_nil (M : Int) : bdL M [] := fun y hy => by simp at hy
theorem bdL_addL {M X N : Int} {x : Ln} {ls : List Ln} (h : bdL M ls) (hx : -X ≤ x.a ∧ x.a ≤ X) (hN : 0 ≤ M ∧ 0 ≤ X ∧ N = M + X) : bdL N (addL x ls) := by
  induction ls with
  | nil =>
    intro y hy
    simp [addL] at hy
    subst hy; omega
  | cons z t ih =>
    have hz := h z (by simp)
    have ht : bdL M t := fun y hy => h y (by simp [hy])
    have h1 := ih ht
    intro y hy
    unfold addL at hy
    split at hy
    · rcases List.mem_cons.1 hy with rfl | hy
      · omega
      · exact h1 y hy
    · split at hy
      · split at hy
        · have := ht y hy; omega
        · rcases List.mem_cons.1 hy with rfl | hy
          · simp only; omega
          · have := ht y hy; omega
      · rcases List.mem_cons.1 hy with rfl | hy
        · omega
        · rcases List.mem_cons.1 hy with rfl | hy
          · omega
          · have := ht y hy; omega
theorem bdL_mid {M : Int} {ls : List Ln} (h : bdL M ls) (hM : M ≤ 2305843009213693952) : ∀ y ∈ ls, midA y.a = true := fun y hy => midA_iff.2 (by have := h y hy; omega)
theorem sum_bd {M : Int} {ls : List Ln} {k : Nat} (h : bdL M ls) (hk : k ≤ 14) (hM : M ≤ 14000) : -(196000 : Int) ≤ sumA (ls.take k) ∧ sumA (ls.take k) ≤ 196000 := by
  have h1 : ∀ (t : List Ln), bdL M t → t.length ≤ 14 → -(14000 * (t.length : Int)) ≤ sumA t ∧ sumA t ≤ 14000 * (t.length : Int) := by
    intro t ht
    induction t with
    | nil => intro _; simp [sumA]
    | cons y t ih =>
      intro hl
      have hy := ht y (by simp)
      have := ih (fun z hz => ht z (by simp [hz])) (by simp at hl; omega)
      simp only [sumA, List.length_cons]
      omega
  have h2 := h1 (ls.take k) (fun y hy => h y (List.mem_of_mem_take hy)) (by simp; omega)
  have h3 : (ls.take k).length ≤ 14 := by simp; omega
  omega
/-- Lines of the call's own, drawn. -/
def LnsPost (B g : Nat) (most : Nat) (w : World) (e : Ending) (w' : World) : Prop :=
  ∃ (A : Option Addr) (n c : Nat) (ls : List Ln), e = .returned (.slice A n c) ∧ n ≤ most ∧ Cur B w' g ∧ OwnL w' w.heap.size w'.heap.size A n c ls ∧ Eff g (g + 1) w w'
set_option maxHeartbeats 2000000 in
set_option maxRecDepth 100000 in
theorem l02Lines_any (B g : Nat) (most : Int) (h1 : 1 ≤ most) (hm : most ≤ 14) (W : World) (hc : Cur B W g) : Calls Try.prog 67 #[.pointer (some ⟨g, 0, none⟩), .int .i64 most] W (LnsPost B g 15 W) := by
  have hgl := hc.lt
  have hgB := hc.le
  have E0 : Eff g (g + 1) W W := Eff.refl _ _ _
  go_enter Try.func67, Try.ntmps67
  go_wp2_with fail
  have he1 : Eff 0 0 W (W.alloc (.cells #[] 63)) := Eff.alloc _ _
  have hs1 : (W.alloc (.cells #[] 63)).heap.size = W.heap.size + 1 := (by simp)
  have o : OwnL (W.alloc (.cells #[] 63)) W.heap.size (W.heap.size + 1) (some ⟨W.heap.size, 0, none⟩) 0 0 [] := new_empty W 63 3
  generalize (W.alloc (.cells #[] 63)) = w1 at *
  have hz1 : W.heap.size ≤ w1.heap.size := he1.size
  have E1 : Eff g (g + 1) W w1 := E0.step he1 (by omega)
  have S1 := E1.size
  replace hc := hc.keep he1 (by omega) (by omega)
  refine (l01Below_any B g (most) (by omega) w1 hc).mono ?_
  rintro e w2 hpost
  obtain ⟨x, rfl, ⟨x_0, x_1, -⟩, hc, he⟩ := hpost.eff
  clear hpost
  replace x_1 := x_1 (by omega)
  have he2 : Eff (g) (g + 1) w1 w2 := he
  have hz2 : w1.heap.size ≤ w2.heap.size := he2.size
  have E2 : Eff g (g + 1) W w2 := E1.step he2 (by omega)
  have S2 := E2.size
  replace o := o.keep he2 (by omega)
  clear he
  go_wp2_with fail
  obtain ⟨R, rfl⟩ : ∃ R : Nat, x = (R : Int) := ⟨x.toNat, by omega⟩
  go_loopw [5, 7] (fun vl vn wr => ∃ (k r m c : Nat) (A : Option Addr) (ls : List Ln), r + k ≤ 14 ∧ m ≤ r ∧ vn = .int .i64 (k : Int) ∧ vl = .slice A m c ∧ Hid (bdL (1000 * (r : Int)) ls) ∧ OwnL wr W.heap.size wr.heap.size A m c ls ∧ Cur B wr g ∧ Eff g (g + 1) W wr) (fun _ vn _ => (intOf vn).toNat)
  case atStart => exact ⟨R + 1, 0, 0, 0, _, [], by omega, by omega, by go_num, rfl, Lib.hid (bdL_nil _), Own.wide o (by omega) (by omega) (Nat.le_refl _), hc, E2⟩
  clear o hc E1 S1 E2 S2
  case round =>
    obtain ⟨k, r, m, c, A, ls, hrk, hm, rfl, rfl, HB, o, hc, E⟩ := hrel
    by_cases hlt : 0 < k
    · obtain ⟨k, rfl⟩ : ∃ q, k = q + 1 := ⟨k - 1, by omega⟩
      have hk0 : (0 : Int) < ((k + 1 : Nat) : Int) := by omega
      have hgl := hc.lt
      have hgB := hc.le
      have E0 := E
      have S0 := E0.size
      go_wp2_with fail
      refine (l01Below_any B g (1000) (by omega) wr hc).mono ?_
      rintro e u1 hpost
      obtain ⟨a, rfl, ⟨a_0, a_1, -⟩, hc, he⟩ := hpost.eff
      clear hpost
      replace a_1 := a_1 (by omega)
      have he1 : Eff (g) (g + 1) wr u1 := he
      have hz1 : wr.heap.size ≤ u1.heap.size := he1.size
      have E1 : Eff g (g + 1) W u1 := E0.step he1 (by omega)
      have S1 := E1.size
      replace o := o.keep he1 (by omega)
      clear he
      go_wp2_with fail
      refine (l01Below_any B g (2) (by omega) u1 hc).mono ?_
      rintro e u2 hpost
      obtain ⟨b, rfl, ⟨b_0, b_1, -⟩, hc, he⟩ := hpost.eff
      clear hpost
      replace b_1 := b_1 (by omega)
      have he2 : Eff (g) (g + 1) u1 u2 := he
      have hz2 : u1.heap.size ≤ u2.heap.size := he2.size
      have E2 : Eff g (g + 1) W u2 := E1.step he2 (by omega)
      have S2 := E2.size
      replace o := o.keep he2 (by omega)
      clear he
      by_cases hb0 : b = 0
      · skip
        subst hb0
        go_wp2_with fail
        refine (l02Acc_any B g u2 hc).mono ?_
        rintro e u3 hpost
        obtain ⟨ak, ac, rfl, hkc, hc, he⟩ := hpost
        have he3 : Eff (g) (g + 1) u2 u3 := he
        have hz3 : u2.heap.size ≤ u3.heap.size := he3.size
        have E3 : Eff g (g + 1) W u3 := E2.step he3 (by omega)
        have S3 := E3.size
        replace o := o.keep he3 (by omega)
        clear he
        go_wp2_with fail
        refine (l02Add_any _ _ _ ls _ _ _ u3 (Own.rd o (Own.le o)) (by omega) (bdL_mid HB.out (by omega)) (midA_iff.2 (by omega))).mono ?_
        rintro e u4 ⟨A2, n2, c2, hn2, rfl, o2, hb⟩
        have he4 : Eff 0 0 u3 u4 := Eff.of hb
        have hz4 : u3.heap.size ≤ u4.heap.size := he4.size
        have E4 : Eff g (g + 1) W u4 := E3.step he4 (by omega)
        have S4 := E4.size
        replace o := o.keep he4 (by omega)
        replace hc := hc.keep he4 (by omega) (by omega)
        clear hb
        have hal := addL_len ⟨ak, ac, -(1 + a)⟩ ls
        have hol := lnlen_of_own o
        replace hal : n2 ≤ r + 1 := by omega
        clear hn2
        go_wp2_with fail
        go_roundw
        case rel => exact ⟨k, r + 1, n2, c2, A2, _, by omega, by omega, by go_num, rfl, Lib.hid (bdL_addL (X := 1000) HB.out (by simp only; omega) (by omega)), Own.wide o2 (by omega) (by omega) (Nat.le_refl _), hc, E4⟩
        case measure => simp [intOf] <;> omega
      · skip
        have hb1 : (b == 0) = false := by simp; omega
        go_wp2_with fail
        refine (l02Acc_any B g u2 hc).mono ?_
        rintro e u3 hpost
        obtain ⟨ak, ac, rfl, hkc, hc, he⟩ := hpost
        have he3 : Eff (g) (g + 1) u2 u3 := he
        have hz3 : u2.heap.size ≤ u3.heap.size := he3.size
        have E3 : Eff g (g + 1) W u3 := E2.step he3 (by omega)
        have S3 := E3.size
        replace o := o.keep he3 (by omega)
        clear he
        go_wp2_with fail
        refine (l02Add_any _ _ _ ls _ _ _ u3 (Own.rd o (Own.le o)) (by omega) (bdL_mid HB.out (by omega)) (midA_iff.2 (by omega))).mono ?_
        rintro e u4 ⟨A2, n2, c2, hn2, rfl, o2, hb⟩
        have he4 : Eff 0 0 u3 u4 := Eff.of hb
        have hz4 : u3.heap.size ≤ u4.heap.size := he4.size
        have E4 : Eff g (g + 1) W u4 := E3.step he4 (by omega)
        have S4 := E4.size
        replace o := o.keep he4 (by omega)
        replace hc := hc.keep he4 (by omega) (by omega)
        clear hb
        have hal := addL_len ⟨ak, ac, 1 + a⟩ ls
        have hol := lnlen_of_own o
        replace hal : n2 ≤ r + 1 := by omega
        clear hn2
        go_wp2_with fail
        go_roundw
        case rel => exact ⟨k, r + 1, n2, c2, A2, _, by omega, by omega, by go_num, rfl, Lib.hid (bdL_addL (X := 1000) HB.out (by simp only; omega) (by omega)), Own.wide o2 (by omega) (by omega) (Nat.le_refl _), hc, E4⟩
        case measure => simp [intOf] <;> omega
    · obtain rfl : k = 0 := by omega
      have hk0 : ¬ (0 : Int) < ((0 : Nat) : Int) := by omega
      have hol := lnlen_of_own o
      obtain ⟨w0, rfl⟩ : ∃ x : World, x = wr := ⟨wr, rfl⟩
      have hz0 := E.size
      go_wp2_with fail
      go_loopw [6, 36] (fun vs vi wr => ∃ (i : Nat) (s : Int), i ≤ m ∧ vi = .int .i64 (i : Int) ∧ vs = .int .i64 s ∧ Hid (s = sumA (ls.take i)) ∧ Below w0.heap.size w0 wr) (fun _ vi _ => m - (intOf vi).toNat)
      case atStart => exact ⟨0, 0, by omega, rfl, rfl, Lib.hid rfl, Below.refl _ _⟩
      case round =>
        obtain ⟨i, s, hi, rfl, rfl, HS, hb⟩ := hrel
        have hs14 := sum_bd (k := i) HB.out (by omega) (by omega)
        rw [← HS.out] at hs14
        have hzb := hb.size
        by_cases hlt2 : i < m
        · obtain ⟨x0, x1, x2, hx⟩ : ∃ x0 x1 x2, lnAt ls i = ⟨x0, x1, x2⟩ := ⟨_, _, _, rfl⟩
          have HX := Lib.hid hx
          have hxb := HB.out _ (ln_mem hx (by omega))
          simp only at hxb
          obtain ⟨gb, off, rfl, hbB, hcell⟩ := ((Own.rd o (Own.le o)).below hb (Nat.le_refl _)).form (by omega)
          obtain ⟨g0, g1, g2⟩ := lnCells_at (k := i) hx (by omega)
          have c0 := hcell _ _ g0
          have c1 := hcell _ _ g1
          have c2 := hcell _ _ g2
          rw [← Nat.add_assoc] at c1 c2
          have i0 : (0 : Int) ≤ (i : Int) := by omega
          have i1 : (i : Int) < (m : Int) := by omega
          have HS2 := Lib.hid (sumA_take (ls := ls) (k := i) (by omega))
          clear hcell g0 g1 g2 hx
          go_wp2_with fail
          go_roundw
          case rel => exact ⟨i + 1, s + x2, by omega, by go_num, rfl, Lib.hid (by rw [HS2.out, HX.out, HS.out]), hb.alloc (by omega) _⟩
          case measure => simp [intOf]; omega
        · obtain rfl : i = m := by omega
          have E1 : Eff g (g + 1) W wr := E.step (Eff.of hb) (.inr (.inl rfl))
          have o1 := Own.keep o (Eff.of hb) (.inr (.inr (Nat.le_refl _)))
          replace hc := hc.keep (Eff.of hb) (.inr (Nat.zero_le _)) (.inr rfl)
          by_cases hs0 : s = 0
          · subst hs0
            go_wp2_with fail
            go_ret
            exact ⟨A, i, c, ls, rfl, by omega, hc, Own.wide o1 (by omega) (by omega) (Nat.le_refl _), E1⟩
          · have hs1 : (s != 0) = true := by simp; exact hs0
            go_wp2_with fail
            refine (l02Add_any _ _ _ ls _ _ _ wr (Own.rd o1 (Own.le o1)) (by omega) (bdL_mid HB.out (by omega)) (midA_iff.2 (by omega))).mono ?_
            rintro e w2 ⟨A2, n2, c2, hn2, rfl, o2, hb2⟩
            have hal := addL_len ⟨2, 0, -s⟩ ls
            replace hal : n2 ≤ 15 := by omega
            clear hn2
            go_wp2_with fail
            go_ret
            exact ⟨A2, n2, c2, _, rfl, by omega, hc.keep (Eff.of hb2) (.inr (Nat.zero_le _)) (.inr rfl), Own.wide o2 (by omega) (by omega) (Nat.le_refl _), E1.step (Eff.of hb2) (.inr (.inl rfl))⟩
end Go.Proofs.Ytgjphejmppehjaa
