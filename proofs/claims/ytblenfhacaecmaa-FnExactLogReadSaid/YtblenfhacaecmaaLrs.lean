/- LogRead (the reference). -/
import Derived.Test.YtblenfhacaecmaaScs
import Derived.Test.YtblenfhacaecmaaLrc
import Derived.Deep.RegionHeld3
import Derived.IntWalk
namespace Go.Proofs.Ytblenfhacaecmaa
open Go.RowKit
set_option maxHeartbeats 4000000 in
set_option maxRecDepth 100000 in
theorem spec_LogRead_d (Ac : Option Addr) (nc cc : Nat) (Aw : Option Addr) (nw cw : Nat) (dc : List (List UInt8)) (dw : List (Int × List UInt8)) (W : World) (h : RdDk W W.heap.size Ac nc Aw nw dc dw) (LB : lenB dc dw) :
    Calls Try.prog 43 #[.agg #[.slice Ac nc cc, .slice Aw nw cw]] W (MadeLr (lgR dc dw) W) := by
  rcases hok : dkOk dc dw with _ | _
  · skip
    go_enter Try.func43, Try.ntmps43
    go_wp2_with fail
    have he1 : Eff 0 0 W (W.alloc (.cells #[.slice Ac nc cc, .slice Aw nw cw] 33)) := Eff.alloc _ _
    have hs1 : (W.alloc (.cells #[.slice Ac nc cc, .slice Aw nw cw] 33)).heap.size = W.heap.size + 1 := (by simp)
    have aD_0 : (W.alloc (.cells #[.slice Ac nc cc, .slice Aw nw cw] 33)).cell? ⟨W.heap.size, 0, none⟩ = some (.slice Ac nc cc) := var_cell _ _ _ _ _ rfl
    have aD_1 : (W.alloc (.cells #[.slice Ac nc cc, .slice Aw nw cw] 33)).cell? ⟨W.heap.size, 1, none⟩ = some (.slice Aw nw cw) := var_cell _ _ _ _ _ rfl
    generalize (W.alloc (.cells #[.slice Ac nc cc, .slice Aw nw cw] 33)) = w1 at *
    have hz1 : W.heap.size ≤ w1.heap.size := he1.size
    have b1 : Below W.heap.size W w1 := he1.below (Nat.le_refl _) (by omega)
    replace h := (h.below (he1.below (B := W.heap.size) (by omega) (by omega)) (Nat.le_refl _))
    have aD_l : W.heap.size < w1.heap.size := (by omega)
    have he2 : Eff 0 0 w1 (w1.alloc (.cells #[] 91)) := Eff.alloc _ _
    have hs2 : (w1.alloc (.cells #[] 91)).heap.size = w1.heap.size + 1 := (by simp)
    have hC : OwnSector (w1.alloc (.cells #[] 91)) w1.heap.size (w1.alloc (.cells #[] 91)).heap.size (some ⟨w1.heap.size, 0, none⟩) 0 0 [] := ⟨Own.wide (new_empty w1 91 3) (Nat.le_refl _) (by omega) (Nat.le_refl _), Inns.nil (by omega) (Nat.le_refl _)⟩
    generalize (w1.alloc (.cells #[] 91)) = w2 at *
    have hz2 : w1.heap.size ≤ w2.heap.size := he2.size
    have b2 : Below W.heap.size W w2 := b1.trans (he2.below b1.size (by omega))
    replace h := (h.below (he2.below (B := W.heap.size) (by omega) (by omega)) (Nat.le_refl _))
    replace aD_0 := he2.cell aD_0 (by simp only; omega)
    replace aD_1 := he2.cell aD_1 (by simp only; omega)
    replace aD_l := Nat.lt_of_lt_of_le aD_l hz2
    go_wp2_with fail
    refine (spec_DiskOk_d Ac nc cc Aw nw cw dc dw w2 (h.more (by omega)) LB).mono ?_
    rintro e w3 ⟨rfl, hb⟩
    have he3 : Eff 0 0 w2 w3 := Eff.of hb
    have hz3 : w2.heap.size ≤ w3.heap.size := he3.size
    have b3 : Below W.heap.size W w3 := b2.trans (he3.below b2.size (by omega))
    replace h := (h.below (he3.below (B := W.heap.size) (by omega) (by omega)) (Nat.le_refl _))
    replace aD_0 := he3.cell aD_0 (by simp only; omega)
    replace aD_1 := he3.cell aD_1 (by simp only; omega)
    replace aD_l := Nat.lt_of_lt_of_le aD_l hz3
    clear hb
    rw [hok]
    replace hC := (hC.keep he3 (.inr (.inr (Nat.le_refl _)))).wide (Nat.le_refl _) hz3 (Nat.le_refl _)
    go_wp2_with fail
    refine bodyPost_ret (v := .tuple #[.slice (some ⟨w1.heap.size, 0, none⟩) 0 0, .int .i64 0]) (by simp [results, Try.results43, go_sem]) rfl ?_
    exact ⟨_, 0, 0, [], rfl, by rw [lgR, if_neg (by rw [hok]; simp)]; rfl, hC.wide (by omega) (Nat.le_refl _) (Nat.le_refl _), b3⟩
  · skip
    have hW0 := h
    obtain ⟨i0, hi0, hj0, hj1, hj2⟩ := info_parts info_Sector
    have hlc := h.len.1
    have hncb : nc ≤ 1048576 := by have := LB.1; omega
    have HLC := Lib.hid hlc
    have HOK := Lib.hid hok
    have HLB := Lib.hid LB
    go_enter Try.func43, Try.ntmps43
    go_wp2_with fail
    have he1 : Eff 0 0 W (W.alloc (.cells #[.slice Ac nc cc, .slice Aw nw cw] 33)) := Eff.alloc _ _
    have hs1 : (W.alloc (.cells #[.slice Ac nc cc, .slice Aw nw cw] 33)).heap.size = W.heap.size + 1 := (by simp)
    have aD_0 : (W.alloc (.cells #[.slice Ac nc cc, .slice Aw nw cw] 33)).cell? ⟨W.heap.size, 0, none⟩ = some (.slice Ac nc cc) := var_cell _ _ _ _ _ rfl
    have aD_1 : (W.alloc (.cells #[.slice Ac nc cc, .slice Aw nw cw] 33)).cell? ⟨W.heap.size, 1, none⟩ = some (.slice Aw nw cw) := var_cell _ _ _ _ _ rfl
    generalize (W.alloc (.cells #[.slice Ac nc cc, .slice Aw nw cw] 33)) = w1 at *
    have hz1 : W.heap.size ≤ w1.heap.size := he1.size
    have b1 : Below W.heap.size W w1 := he1.below (Nat.le_refl _) (by omega)
    replace h := (h.below (he1.below (B := W.heap.size) (by omega) (by omega)) (Nat.le_refl _))
    have aD_l : W.heap.size < w1.heap.size := (by omega)
    have he2 : Eff 0 0 w1 (w1.alloc (.cells #[] 91)) := Eff.alloc _ _
    have hs2 : (w1.alloc (.cells #[] 91)).heap.size = w1.heap.size + 1 := (by simp)
    have hC : OwnSector (w1.alloc (.cells #[] 91)) w1.heap.size (w1.alloc (.cells #[] 91)).heap.size (some ⟨w1.heap.size, 0, none⟩) 0 0 [] := ⟨Own.wide (new_empty w1 91 3) (Nat.le_refl _) (by omega) (Nat.le_refl _), Inns.nil (by omega) (Nat.le_refl _)⟩
    generalize (w1.alloc (.cells #[] 91)) = w2 at *
    have hz2 : w1.heap.size ≤ w2.heap.size := he2.size
    have b2 : Below W.heap.size W w2 := b1.trans (he2.below b1.size (by omega))
    replace h := (h.below (he2.below (B := W.heap.size) (by omega) (by omega)) (Nat.le_refl _))
    replace aD_0 := he2.cell aD_0 (by simp only; omega)
    replace aD_1 := he2.cell aD_1 (by simp only; omega)
    replace aD_l := Nat.lt_of_lt_of_le aD_l hz2
    go_wp2_with fail
    refine (spec_DiskOk_d Ac nc cc Aw nw cw dc dw w2 (h.more (by omega)) LB).mono ?_
    rintro e w3 ⟨rfl, hb⟩
    have he3 : Eff 0 0 w2 w3 := Eff.of hb
    have hz3 : w2.heap.size ≤ w3.heap.size := he3.size
    have b3 : Below W.heap.size W w3 := b2.trans (he3.below b2.size (by omega))
    replace h := (h.below (he3.below (B := W.heap.size) (by omega) (by omega)) (Nat.le_refl _))
    replace aD_0 := he3.cell aD_0 (by simp only; omega)
    replace aD_1 := he3.cell aD_1 (by simp only; omega)
    replace aD_l := Nat.lt_of_lt_of_le aD_l hz3
    clear hb
    rw [hok]
    replace hC := (hC.keep he3 (.inr (.inr (Nat.le_refl _)))).wide (Nat.le_refl _) hz3 (Nat.le_refl _)
    clear hok LB hlc
    have hlo : W.heap.size < w1.heap.size := by omega
    go_wp2
    go_loopw [4, 5, 6] (fun vo vt vi wr => ∃ (k : Nat) (A : Option Addr) (c : Nat) (es : List Sc) (t : Nat), k ≤ nc ∧ vi = .int .i64 (k : Int) ∧ vt = .int .i64 (t : Int) ∧ vo = .slice A k c ∧ Below W.heap.size W wr ∧ wr.cell? ⟨W.heap.size, 0, none⟩ = some (.slice Ac nc cc) ∧ wr.cell? ⟨W.heap.size, 1, none⟩ = some (.slice Aw nw cw) ∧ W.heap.size < wr.heap.size ∧ OwnSector wr w1.heap.size wr.heap.size A k c es ∧ Hid (es.map Sc.d ++ logR (lgF dc dw) (nc - k) k t = logR (lgF dc dw) nc 0 0)) (fun _ _ vi _ => nc - (intOf vi).toNat)
    case atStart => exact ⟨0, _, 0, [], 0, Nat.zero_le _, rfl, rfl, rfl, b3, aD_0, aD_1, aD_l, by rw [← hs1]; exact hC, Lib.hid rfl⟩
    clear hC
    case round =>
      obtain ⟨k, A, c, es, t, hk, rfl, rfl, rfl, hbW, aD_0, aD_1, aD_l, hC, HD⟩ := hrel
      have hzL := hbW.size
      replace h := hW0.below hbW (Nat.le_refl _)
      by_cases hlt : k < nc
      · skip
        obtain ⟨l, hl⟩ : ∃ l, readD dc dw (k : Int) = l := ⟨_, rfl⟩
        have HL := Lib.hid hl
        have hll : l.length ≤ 1048576 := by rw [← hl]; exact len_readD_le HLB.out _
        clear hl
        obtain ⟨gd, hG⟩ : ∃ x, secGood l = x := ⟨_, rfl⟩
        obtain ⟨q, hQ⟩ : ∃ x, (if secGood l then rdQ l else 0) = x := ⟨_, rfl⟩
        obtain ⟨p, hP⟩ : ∃ x, (if secGood l then rdP l else 0) = x := ⟨_, rfl⟩
        obtain ⟨m, hM⟩ : ∃ x, (if secGood l then rdM l else 0) = x := ⟨_, rfl⟩
        obtain ⟨B, hB⟩ : ∃ x, (if secGood l then rdB l else []) = x := ⟨_, rfl⟩
        have HG := Lib.hid hG
        have HQ := Lib.hid hQ
        have HP := Lib.hid hP
        have HM := Lib.hid hM
        have HB := Lib.hid hB
        clear hG hQ hP hM hB
        have hgood : drdOk dc dw (k : Int) = true := by simp only [drdOk, inD, HOK.out, Bool.true_and, decide_eq_true_eq]; rw [HLC.out]; omega
        have hdr : drdB dc dw (k : Int) = l := by rw [← HL.out]; simp only [drdB, hgood, if_true]
        have HGD := Lib.hid hgood
        have HDR := Lib.hid hdr
        clear hgood hdr
        have hel := hC.len Sc.hf (by omega)
        have HEL := Lib.hid hel
        clear hel
        go_wp2_with fail
        refine (spec_DiskRead_d Ac nc cc Aw nw cw dc dw (k : Int) wr (h.more (by omega)) HLB.out).mono ?_
        rintro e u1 ⟨Ab, nb, cb, qb, rfl, b, hb⟩
        rw [HDR.out] at b qb
        rw [HGD.out]
        have QB := Lib.hid qb
        clear qb
        have he1 : Eff 0 0 wr u1 := Eff.of hb
        have hz1 : wr.heap.size ≤ u1.heap.size := he1.size
        have b1 : Below W.heap.size W u1 := hbW.trans (he1.below hbW.size (by omega))
        replace h := (h.below (he1.below (B := W.heap.size) (by omega) (by omega)) (Nat.le_refl _))
        replace aD_0 := he1.cell aD_0 (by simp only; omega)
        replace aD_1 := he1.cell aD_1 (by simp only; omega)
        replace aD_l := Nat.lt_of_lt_of_le aD_l hz1
        clear hb
        go_wp2_with fail
        refine (spec_SectorRead Ab nb cb l b.row_le (Own.caps b).2 (by have := QB.out; omega) u1 (b.rd (by omega))).mono ?_
        rintro e u2 hpost
        obtain ⟨As, cs, rfl, s, hb⟩ := hpost.get HG.out HQ.out HP.out HM.out HB.out
        clear hpost
        have he2 : Eff 0 0 u1 u2 := Eff.of hb
        have hz2 : u1.heap.size ≤ u2.heap.size := he2.size
        have b2 : Below W.heap.size W u2 := b1.trans (he2.below b1.size (by omega))
        replace h := (h.below (he2.below (B := W.heap.size) (by omega) (by omega)) (Nat.le_refl _))
        replace b := b.keep he2 (by omega)
        replace aD_0 := he2.cell aD_0 (by simp only; omega)
        replace aD_1 := he2.cell aD_1 (by simp only; omega)
        replace aD_l := Nat.lt_of_lt_of_le aD_l hz2
        clear hb
        clear b
        have hgd0 : gd = false ∨ gd = true := by cases gd <;> simp
        rcases gd with _ | _
        · skip
          go_wp2_with fail
          have he3 : Eff 0 0 u2 (u2.alloc (.cells #[.int .i64 (q : Int), .int .i64 (p : Int), .slice As m cs] 91)) := Eff.alloc _ _
          have hs3 : (u2.alloc (.cells #[.int .i64 (q : Int), .int .i64 (p : Int), .slice As m cs] 91)).heap.size = u2.heap.size + 1 := (by simp)
          have sS_0 : (u2.alloc (.cells #[.int .i64 (q : Int), .int .i64 (p : Int), .slice As m cs] 91)).cell? ⟨u2.heap.size, 0, none⟩ = some (.int .i64 (q : Int)) := var_cell _ _ _ _ _ rfl
          have sS_1 : (u2.alloc (.cells #[.int .i64 (q : Int), .int .i64 (p : Int), .slice As m cs] 91)).cell? ⟨u2.heap.size, 1, none⟩ = some (.int .i64 (p : Int)) := var_cell _ _ _ _ _ rfl
          have sS_2 : (u2.alloc (.cells #[.int .i64 (q : Int), .int .i64 (p : Int), .slice As m cs] 91)).cell? ⟨u2.heap.size, 2, none⟩ = some (.slice As m cs) := var_cell _ _ _ _ _ rfl
          generalize (u2.alloc (.cells #[.int .i64 (q : Int), .int .i64 (p : Int), .slice As m cs] 91)) = u3 at *
          have hz3 : u2.heap.size ≤ u3.heap.size := he3.size
          have b3 : Below W.heap.size W u3 := b2.trans (he3.below b2.size (by omega))
          replace h := (h.below (he3.below (B := W.heap.size) (by omega) (by omega)) (Nat.le_refl _))
          replace s := s.keep he3 (by omega)
          replace aD_0 := he3.cell aD_0 (by simp only; omega)
          replace aD_1 := he3.cell aD_1 (by simp only; omega)
          replace aD_l := Nat.lt_of_lt_of_le aD_l hz3
          have sS_l : u2.heap.size < u3.heap.size := (by omega)
          have he0 : Eff 0 0 wr u3 := eff00 (eff00 he1 he2) he3
          go_wp2_with fail
          refine bodyPost_ret (v := .tuple #[.slice A k c, .int .i64 (k : Int)]) (by simp [results, Try.results43, go_sem]) rfl ?_
          exact ⟨A, k, c, es, rfl, by rw [lgR, if_pos HOK.out, HLC.out, ← HD.out, show nc - k = (nc - (k + 1)) + 1 by omega, logR_no (.inl (by show secGood (readD dc dw (k : Int)) = false; rw [HL.out]; exact HG.out)), List.append_nil], (hC.keep he0 (.inr (.inr (Nat.le_refl _)))).wide (by omega) he0.size (Nat.le_refl _), b3⟩
        · skip
          have hg1 : secGood (lgF dc dw k) = true := by show secGood (readD dc dw (k : Int)) = true; rw [HL.out]; exact HG.out
          have hgq : rdQ (lgF dc dw k) = q := by have := HQ.out; rw [if_pos HG.out] at this; show rdQ (readD dc dw (k : Int)) = q; rw [HL.out]; exact this
          have hg4 : rdP (lgF dc dw k) = p := by have := HP.out; rw [if_pos HG.out] at this; show rdP (readD dc dw (k : Int)) = p; rw [HL.out]; exact this
          have hg5 : rdB (lgF dc dw k) = B := by have := HB.out; rw [if_pos HG.out] at this; show rdB (readD dc dw (k : Int)) = B; rw [HL.out]; exact this
          replace hg1 := Lib.hid hg1
          replace hgq := Lib.hid hgq
          replace hg4 := Lib.hid hg4
          replace hg5 := Lib.hid hg5
          by_cases hqk : q = k
          · have hqb : ((q : Int) != (k : Int)) = false := by subst hqk; simp
            replace hqk := Lib.hid hqk
            by_cases hpt : (p : Int) < (t : Int)
            · have hp1 : decide (p < t) = true := by simp; omega
              go_wp2_with fail
              have he3 : Eff 0 0 u2 (u2.alloc (.cells #[.int .i64 (q : Int), .int .i64 (p : Int), .slice As m cs] 91)) := Eff.alloc _ _
              have hs3 : (u2.alloc (.cells #[.int .i64 (q : Int), .int .i64 (p : Int), .slice As m cs] 91)).heap.size = u2.heap.size + 1 := (by simp)
              have sS_0 : (u2.alloc (.cells #[.int .i64 (q : Int), .int .i64 (p : Int), .slice As m cs] 91)).cell? ⟨u2.heap.size, 0, none⟩ = some (.int .i64 (q : Int)) := var_cell _ _ _ _ _ rfl
              have sS_1 : (u2.alloc (.cells #[.int .i64 (q : Int), .int .i64 (p : Int), .slice As m cs] 91)).cell? ⟨u2.heap.size, 1, none⟩ = some (.int .i64 (p : Int)) := var_cell _ _ _ _ _ rfl
              have sS_2 : (u2.alloc (.cells #[.int .i64 (q : Int), .int .i64 (p : Int), .slice As m cs] 91)).cell? ⟨u2.heap.size, 2, none⟩ = some (.slice As m cs) := var_cell _ _ _ _ _ rfl
              generalize (u2.alloc (.cells #[.int .i64 (q : Int), .int .i64 (p : Int), .slice As m cs] 91)) = u3 at *
              have hz3 : u2.heap.size ≤ u3.heap.size := he3.size
              have b3 : Below W.heap.size W u3 := b2.trans (he3.below b2.size (by omega))
              replace h := (h.below (he3.below (B := W.heap.size) (by omega) (by omega)) (Nat.le_refl _))
              replace s := s.keep he3 (by omega)
              replace aD_0 := he3.cell aD_0 (by simp only; omega)
              replace aD_1 := he3.cell aD_1 (by simp only; omega)
              replace aD_l := Nat.lt_of_lt_of_le aD_l hz3
              have sS_l : u2.heap.size < u3.heap.size := (by omega)
              have he0 : Eff 0 0 wr u3 := eff00 (eff00 he1 he2) he3
              go_wp2_with fail
              refine bodyPost_ret (v := .tuple #[.slice A k c, .int .i64 (k : Int)]) (by simp [results, Try.results43, go_sem]) rfl ?_
              exact ⟨A, k, c, es, rfl, by rw [lgR, if_pos HOK.out, HLC.out, ← HD.out, show nc - k = (nc - (k + 1)) + 1 by omega, logR_no (.inr (.inr (by rw [hg4.out]; omega))), List.append_nil], (hC.keep he0 (.inr (.inr (Nat.le_refl _)))).wide (by omega) he0.size (Nat.le_refl _), b3⟩
            · have hp1 : decide (p < t) = false := by simp; omega
              go_wp2_with (at_builtin; refine Hid.out ?_)
              refine Lib.hid ?_
              have he3 : Eff 0 0 u2 (u2.alloc (.cells #[.int .i64 (q : Int), .int .i64 (p : Int), .slice As m cs] 91)) := Eff.alloc _ _
              have hs3 : (u2.alloc (.cells #[.int .i64 (q : Int), .int .i64 (p : Int), .slice As m cs] 91)).heap.size = u2.heap.size + 1 := (by simp)
              have sS_0 : (u2.alloc (.cells #[.int .i64 (q : Int), .int .i64 (p : Int), .slice As m cs] 91)).cell? ⟨u2.heap.size, 0, none⟩ = some (.int .i64 (q : Int)) := var_cell _ _ _ _ _ rfl
              have sS_1 : (u2.alloc (.cells #[.int .i64 (q : Int), .int .i64 (p : Int), .slice As m cs] 91)).cell? ⟨u2.heap.size, 1, none⟩ = some (.int .i64 (p : Int)) := var_cell _ _ _ _ _ rfl
              have sS_2 : (u2.alloc (.cells #[.int .i64 (q : Int), .int .i64 (p : Int), .slice As m cs] 91)).cell? ⟨u2.heap.size, 2, none⟩ = some (.slice As m cs) := var_cell _ _ _ _ _ rfl
              generalize (u2.alloc (.cells #[.int .i64 (q : Int), .int .i64 (p : Int), .slice As m cs] 91)) = u3 at *
              have hz3 : u2.heap.size ≤ u3.heap.size := he3.size
              have b3 : Below W.heap.size W u3 := b2.trans (he3.below b2.size (by omega))
              replace h := (h.below (he3.below (B := W.heap.size) (by omega) (by omega)) (Nat.le_refl _))
              replace s := s.keep he3 (by omega)
              replace aD_0 := he3.cell aD_0 (by simp only; omega)
              replace aD_1 := he3.cell aD_1 (by simp only; omega)
              replace aD_l := Nat.lt_of_lt_of_le aD_l hz3
              have sS_l : u2.heap.size < u3.heap.size := (by omega)
              have he0 : Eff 0 0 wr u3 := eff00 (eff00 he1 he2) he3
              replace s : OwnB u3 wr.heap.size u3.heap.size As m cs B := Own.wide s (by omega) (by omega) (Nat.le_refl _)
              obtain ⟨ta, tb, htt, hta, htab, htb, htq⟩ := Own.tight hC.row hC.lohi
              have HTQ := Lib.hid htq
              clear htq
              replace htt := Own.keep htt he0 (by omega)
              refine wpList_app _ rfl _ _ 66 rfl 91 i0 (.agg #[.int .i64 0, .int .i64 0, .slice none 0 0]) 3 40 Try.underlying66 hi0 hj0 hj1 hj2 rfl (by omega) rfl (Own.alloc htt _) 1 rfl (show Rd _ (u3.heap.size + 1) 3 (some ⟨u2.heap.size + 1, 0, none⟩) 1 [.int .i64 (q : Int), .int .i64 (p : Int), .slice As m cs] from by rw [← hs3]; exact rd_row3 u3 [.int .i64 (q : Int), .int .i64 (p : Int), .slice As m cs] 91) (one3s _ _ _ _ _) (by unfold maxLen; omega) (by omega) (by simp; omega) ?_
              intro A2 c2 u4 hO hE hK2
              have hC2 := hC.snoc (y := ⟨(q : Int), p, As, m, cs, B⟩) he0 s hta HTQ.out (Eff.alloc _ _) hO hE hK2
              have he4 : Eff ta tb u3 u4 := ((Eff.alloc _ _).anyD).trans hE
              have hz4 : u3.heap.size ≤ u4.heap.size := he4.size
              have b4 : Below W.heap.size W u4 := b3.trans (he4.below b3.size (by omega))
              replace aD_0 := he4.cell aD_0 (by simp only; omega)
              replace aD_1 := he4.cell aD_1 (by simp only; omega)
              replace aD_l := Nat.lt_of_lt_of_le aD_l hz4
              clear hE hO hK2 htt
              go_wp2_with fail
              go_roundw
              case rel =>
                refine ⟨k + 1, A2, c2, _, p, by omega, by go_num, rfl, rfl, b4, aD_0, aD_1, aD_l, hC2, Lib.hid ?_⟩
                rw [← HD.out, show nc - k = (nc - (k + 1)) + 1 by omega, logR_yes hg1.out (hgq.out.trans hqk.out) (by rw [hg4.out]; omega), List.map_append, List.append_assoc, hg4.out, hg5.out]
                obtain rfl := hqk.out
                rfl
              case measure => simp [intOf]; omega
          · have hqb : ((q : Int) != (k : Int)) = true := by simp; omega
            go_wp2_with fail
            have he3 : Eff 0 0 u2 (u2.alloc (.cells #[.int .i64 (q : Int), .int .i64 (p : Int), .slice As m cs] 91)) := Eff.alloc _ _
            have hs3 : (u2.alloc (.cells #[.int .i64 (q : Int), .int .i64 (p : Int), .slice As m cs] 91)).heap.size = u2.heap.size + 1 := (by simp)
            have sS_0 : (u2.alloc (.cells #[.int .i64 (q : Int), .int .i64 (p : Int), .slice As m cs] 91)).cell? ⟨u2.heap.size, 0, none⟩ = some (.int .i64 (q : Int)) := var_cell _ _ _ _ _ rfl
            have sS_1 : (u2.alloc (.cells #[.int .i64 (q : Int), .int .i64 (p : Int), .slice As m cs] 91)).cell? ⟨u2.heap.size, 1, none⟩ = some (.int .i64 (p : Int)) := var_cell _ _ _ _ _ rfl
            have sS_2 : (u2.alloc (.cells #[.int .i64 (q : Int), .int .i64 (p : Int), .slice As m cs] 91)).cell? ⟨u2.heap.size, 2, none⟩ = some (.slice As m cs) := var_cell _ _ _ _ _ rfl
            generalize (u2.alloc (.cells #[.int .i64 (q : Int), .int .i64 (p : Int), .slice As m cs] 91)) = u3 at *
            have hz3 : u2.heap.size ≤ u3.heap.size := he3.size
            have b3 : Below W.heap.size W u3 := b2.trans (he3.below b2.size (by omega))
            replace h := (h.below (he3.below (B := W.heap.size) (by omega) (by omega)) (Nat.le_refl _))
            replace s := s.keep he3 (by omega)
            replace aD_0 := he3.cell aD_0 (by simp only; omega)
            replace aD_1 := he3.cell aD_1 (by simp only; omega)
            replace aD_l := Nat.lt_of_lt_of_le aD_l hz3
            have sS_l : u2.heap.size < u3.heap.size := (by omega)
            have he0 : Eff 0 0 wr u3 := eff00 (eff00 he1 he2) he3
            go_wp2_with fail
            refine bodyPost_ret (v := .tuple #[.slice A k c, .int .i64 (k : Int)]) (by simp [results, Try.results43, go_sem]) rfl ?_
            exact ⟨A, k, c, es, rfl, by rw [lgR, if_pos HOK.out, HLC.out, ← HD.out, show nc - k = (nc - (k + 1)) + 1 by omega, logR_no (.inr (.inl (by rw [hgq.out]; exact hqk))), List.append_nil], (hC.keep he0 (.inr (.inr (Nat.le_refl _)))).wide (by omega) he0.size (Nat.le_refl _), b3⟩
      · obtain rfl : nc = k := by omega
        go_wp2_with fail
        refine bodyPost_ret (v := .tuple #[.slice A nc c, .int .i64 (nc : Int)]) (by simp [results, Try.results43, go_sem]) rfl ?_
        have hd := HD.out
        rw [Nat.sub_self, logR, List.append_nil] at hd
        exact ⟨A, nc, c, es, rfl, by rw [lgR, if_pos HOK.out, HLC.out]; exact hd, hC.wide (by omega) (Nat.le_refl _) (Nat.le_refl _), hbW⟩
end Go.Proofs.Ytblenfhacaecmaa
