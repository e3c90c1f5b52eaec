/- LogTop (reference). -/
import Derived.Test.YtblenfhacaecmaaLt
namespace Go.Proofs.Ytblenfhacaecmaa
open Go.RowKit
theorem gd_pos {l : List UInt8} {gd : Bool} {p : Nat} (h : secGood l = gd) (hp : (if secGood l then rdP l else 0) = p) (h0 : 0 < p) : gd = true := by
  subst h
  rcases hg : secGood l with _ | _
  · rw [hg] at hp; simp at hp; omega
  · rfl
set_option maxHeartbeats 2000000 in
set_option maxRecDepth 100000 in
theorem spec_LogTop_d (Ac : Option Addr) (nc cc : Nat) (Aw : Option Addr) (nw cw : Nat) (dc : List (List UInt8)) (dw : List (Int × List UInt8)) (W : World) (h : RdDk W W.heap.size Ac nc Aw nw dc dw) (LB : lenB dc dw) :
    Calls Try.prog 30 #[.agg #[.slice Ac nc cc, .slice Aw nw cw]] W fun e w' => e = .returned (.int .i64 (if dkOk dc dw then ((topN dc dw nc : Nat) : Int) else 0)) ∧ Below W.heap.size W w' := by
  rcases hok : dkOk dc dw with _ | _
  · simp only [Bool.false_eq_true, if_false]
    go_enter Try.func30, Try.ntmps30
    go_wp2_with fail
    have he1 : Eff 0 0 W (W.alloc (.cells #[.slice Ac nc cc, .slice Aw nw cw] 33)) := Eff.alloc _ _
    have hs1 : (W.alloc (.cells #[.slice Ac nc cc, .slice Aw nw cw] 33)).heap.size = W.heap.size + 1 := (by simp)
    have aD_0 : (W.alloc (.cells #[.slice Ac nc cc, .slice Aw nw cw] 33)).cell? ⟨W.heap.size, 0, none⟩ = some (.slice Ac nc cc) := var_cell _ _ _ _ _ rfl
    have aD_1 : (W.alloc (.cells #[.slice Ac nc cc, .slice Aw nw cw] 33)).cell? ⟨W.heap.size, 1, none⟩ = some (.slice Aw nw cw) := var_cell _ _ _ _ _ rfl
    generalize (W.alloc (.cells #[.slice Ac nc cc, .slice Aw nw cw] 33)) = w1 at *
    have hz1 : W.heap.size ≤ w1.heap.size := he1.size
    have b1 : Below W.heap.size W w1 := he1.below (Nat.le_refl _) (by omega)
    replace h := (h.below (he1.below (B := W.heap.size) (by omega) (by omega)) (Nat.le_refl _))
    have aD_l : W.heap.size < w1.heap.size := (by omega)
    refine (spec_DiskOk_d Ac nc cc Aw nw cw dc dw w1 (h.more (by omega)) LB).mono ?_
    rintro e w2 ⟨rfl, hb⟩
    have he2 : Eff 0 0 w1 w2 := Eff.of hb
    have hz2 : w1.heap.size ≤ w2.heap.size := he2.size
    have b2 : Below W.heap.size W w2 := b1.trans (he2.below b1.size (by omega))
    replace h := (h.below (he2.below (B := W.heap.size) (by omega) (by omega)) (Nat.le_refl _))
    replace aD_0 := he2.cell aD_0 (by simp only; omega)
    replace aD_1 := he2.cell aD_1 (by simp only; omega)
    replace aD_l := Nat.lt_of_lt_of_le aD_l hz2
    clear hb
    rw [hok]
    go_wp2_with fail
    go_ret
    exact ⟨rfl, b2⟩
  · simp only [if_true]
    have hlc := h.len.1
    have hncb : nc ≤ 1048576 := by have := LB.1; omega
    have HLC := Lib.hid hlc
    have HOK := Lib.hid hok
    have HLB := Lib.hid LB
    go_enter Try.func30, Try.ntmps30
    go_wp2_with fail
    have he1 : Eff 0 0 W (W.alloc (.cells #[.slice Ac nc cc, .slice Aw nw cw] 33)) := Eff.alloc _ _
    have hs1 : (W.alloc (.cells #[.slice Ac nc cc, .slice Aw nw cw] 33)).heap.size = W.heap.size + 1 := (by simp)
    have aD_0 : (W.alloc (.cells #[.slice Ac nc cc, .slice Aw nw cw] 33)).cell? ⟨W.heap.size, 0, none⟩ = some (.slice Ac nc cc) := var_cell _ _ _ _ _ rfl
    have aD_1 : (W.alloc (.cells #[.slice Ac nc cc, .slice Aw nw cw] 33)).cell? ⟨W.heap.size, 1, none⟩ = some (.slice Aw nw cw) := var_cell _ _ _ _ _ rfl
    generalize (W.alloc (.cells #[.slice Ac nc cc, .slice Aw nw cw] 33)) = w1 at *
    have hz1 : W.heap.size ≤ w1.heap.size := he1.size
    have b1 : Below W.heap.size W w1 := he1.below (Nat.le_refl _) (by omega)
    replace h := (h.below (he1.below (B := W.heap.size) (by omega) (by omega)) (Nat.le_refl _))
    have aD_l : W.heap.size < w1.heap.size := (by omega)
    refine (spec_DiskOk_d Ac nc cc Aw nw cw dc dw w1 (h.more (by omega)) LB).mono ?_
    rintro e w2 ⟨rfl, hb⟩
    have he2 : Eff 0 0 w1 w2 := Eff.of hb
    have hz2 : w1.heap.size ≤ w2.heap.size := he2.size
    have b2 : Below W.heap.size W w2 := b1.trans (he2.below b1.size (by omega))
    replace h := (h.below (he2.below (B := W.heap.size) (by omega) (by omega)) (Nat.le_refl _))
    replace aD_0 := he2.cell aD_0 (by simp only; omega)
    replace aD_1 := he2.cell aD_1 (by simp only; omega)
    replace aD_l := Nat.lt_of_lt_of_le aD_l hz2
    clear hb
    rw [hok]
    clear hok LB hlc
    go_wp2
    go_loopw [3, 4] (fun vt vi wr => ∃ k : Nat, k ≤ nc ∧ vi = .int .i64 (k : Int) ∧ vt = .int .i64 ((topN dc dw k : Nat) : Int) ∧ Below w2.heap.size w2 wr) (fun _ vi _ => nc - (intOf vi).toNat)
    case atStart => exact ⟨0, Nat.zero_le _, rfl, rfl, Below.refl _ _⟩
    case round =>
      obtain ⟨k, hk, rfl, rfl, hbL⟩ := hrel
      have heL : Eff 0 0 w2 wr := Eff.of hbL
      have hzL := heL.size
      have hbW : Below W.heap.size W wr := b2.trans (heL.below b2.size (by omega))
      replace h := h.below (heL.below (B := W.heap.size) (by omega) (by omega)) (Nat.le_refl _)
      replace aD_0 := heL.cell aD_0 (by simp only; omega)
      replace aD_1 := heL.cell aD_1 (by simp only; omega)
      replace aD_l := Nat.lt_of_lt_of_le aD_l hzL
      by_cases hlt : k < nc
      · skip
        obtain ⟨l, hl⟩ : ∃ l, readD dc dw (k : Int) = l := ⟨_, rfl⟩
        have HL := Lib.hid hl
        have hll : l.length ≤ 1048576 := by rw [← hl]; exact len_readD_le HLB.out _
        clear hl
        obtain ⟨gd, hG⟩ : ∃ x, secGood l = x := ⟨_, rfl⟩
        obtain ⟨q, hQ⟩ : ∃ x, (if secGood l then rdQ l else 0) = x := ⟨_, rfl⟩
        obtain ⟨p, hP⟩ : ∃ x, (if secGood l then rdP l else 0) = x := ⟨_, rfl⟩
        obtain ⟨m, hM⟩ : ∃ x, (if secGood l then rdM l else 0) = x := ⟨_, rfl⟩
        obtain ⟨B, hB⟩ : ∃ x, (if secGood l then rdB l else []) = x := ⟨_, rfl⟩
        have HG := Lib.hid hG
        have HQ := Lib.hid hQ
        have HP := Lib.hid hP
        have HM := Lib.hid hM
        have HB := Lib.hid hB
        clear hG hQ hP hM hB
        obtain ⟨t, ht⟩ : ∃ t : Nat, topN dc dw k = t := ⟨_, rfl⟩
        rw [ht]
        have HT := Lib.hid ht
        clear ht
        have hgood : drdOk dc dw (k : Int) = true := by simp only [drdOk, inD, HOK.out, Bool.true_and, decide_eq_true_eq]; rw [HLC.out]; omega
        have hdr : drdB dc dw (k : Int) = l := by rw [← HL.out]; simp only [drdB, hgood, if_true]
        have HGD := Lib.hid hgood
        have HDR := Lib.hid hdr
        clear hgood hdr
        go_wp2_with fail
        refine (spec_DiskRead_d Ac nc cc Aw nw cw dc dw (k : Int) wr (h.more (by omega)) HLB.out).mono ?_
        rintro e u1 ⟨Ab, nb, cb, qb, rfl, b, hb⟩
        rw [HDR.out] at b qb
        rw [HGD.out]
        have QB := Lib.hid qb
        clear qb
        have he1 : Eff 0 0 wr u1 := Eff.of hb
        have hz1 : wr.heap.size ≤ u1.heap.size := he1.size
        have b1 : Below W.heap.size W u1 := hbW.trans (he1.below hbW.size (by omega))
        replace h := (h.below (he1.below (B := W.heap.size) (by omega) (by omega)) (Nat.le_refl _))
        replace aD_0 := he1.cell aD_0 (by simp only; omega)
        replace aD_1 := he1.cell aD_1 (by simp only; omega)
        replace aD_l := Nat.lt_of_lt_of_le aD_l hz1
        clear hb
        go_wp2_with fail
        refine (spec_SectorRead Ab nb cb l b.row_le (Own.caps b).2 (by have := QB.out; omega) u1 (b.rd (by omega))).mono ?_
        rintro e u2 hpost
        obtain ⟨As, cs, rfl, s, hb⟩ := hpost.get HG.out HQ.out HP.out HM.out HB.out
        clear hpost
        have he2 : Eff 0 0 u1 u2 := Eff.of hb
        have hz2 : u1.heap.size ≤ u2.heap.size := he2.size
        have b2 : Below W.heap.size W u2 := b1.trans (he2.below b1.size (by omega))
        replace h := (h.below (he2.below (B := W.heap.size) (by omega) (by omega)) (Nat.le_refl _))
        replace b := b.keep he2 (by omega)
        replace aD_0 := he2.cell aD_0 (by simp only; omega)
        replace aD_1 := he2.cell aD_1 (by simp only; omega)
        replace aD_l := Nat.lt_of_lt_of_le aD_l hz2
        clear hb
        clear b s
        by_cases hpt : (t : Int) < (p : Int)
        · skip
          obtain rfl : gd = true := gd_pos HG.out HP.out (by omega)
          go_wp2_with fail
          have he3 : Eff 0 0 u2 (u2.alloc (.cells #[.int .i64 (q : Int), .int .i64 (p : Int), .slice As m cs] 91)) := Eff.alloc _ _
          have hs3 : (u2.alloc (.cells #[.int .i64 (q : Int), .int .i64 (p : Int), .slice As m cs] 91)).heap.size = u2.heap.size + 1 := (by simp)
          have sS_0 : (u2.alloc (.cells #[.int .i64 (q : Int), .int .i64 (p : Int), .slice As m cs] 91)).cell? ⟨u2.heap.size, 0, none⟩ = some (.int .i64 (q : Int)) := var_cell _ _ _ _ _ rfl
          have sS_1 : (u2.alloc (.cells #[.int .i64 (q : Int), .int .i64 (p : Int), .slice As m cs] 91)).cell? ⟨u2.heap.size, 1, none⟩ = some (.int .i64 (p : Int)) := var_cell _ _ _ _ _ rfl
          have sS_2 : (u2.alloc (.cells #[.int .i64 (q : Int), .int .i64 (p : Int), .slice As m cs] 91)).cell? ⟨u2.heap.size, 2, none⟩ = some (.slice As m cs) := var_cell _ _ _ _ _ rfl
          generalize (u2.alloc (.cells #[.int .i64 (q : Int), .int .i64 (p : Int), .slice As m cs] 91)) = u3 at *
          have hz3 : u2.heap.size ≤ u3.heap.size := he3.size
          have b3 : Below W.heap.size W u3 := b2.trans (he3.below b2.size (by omega))
          replace h := (h.below (he3.below (B := W.heap.size) (by omega) (by omega)) (Nat.le_refl _))
          replace aD_0 := he3.cell aD_0 (by simp only; omega)
          replace aD_1 := he3.cell aD_1 (by simp only; omega)
          replace aD_l := Nat.lt_of_lt_of_le aD_l hz3
          have sS_l : u2.heap.size < u3.heap.size := (by omega)
          have hbE : Below w2.heap.size w2 u3 := (((hbL).trans (he1.below (by omega) (by omega))).trans (he2.below (by omega) (by omega))).trans (he3.below (by omega) (by omega))
          go_wp2_with fail
          go_roundw
          case rel => exact ⟨k + 1, by omega, by go_num, by rw [topN, HT.out, HL.out, secE, HP.out]; congr 1; omega, hbE⟩
          case measure => simp [intOf]; omega
        · rcases gd with _ | _
          · skip
            go_wp2_with fail
            have he3 : Eff 0 0 u2 (u2.alloc (.cells #[.int .i64 (q : Int), .int .i64 (p : Int), .slice As m cs] 91)) := Eff.alloc _ _
            have hs3 : (u2.alloc (.cells #[.int .i64 (q : Int), .int .i64 (p : Int), .slice As m cs] 91)).heap.size = u2.heap.size + 1 := (by simp)
            have sS_0 : (u2.alloc (.cells #[.int .i64 (q : Int), .int .i64 (p : Int), .slice As m cs] 91)).cell? ⟨u2.heap.size, 0, none⟩ = some (.int .i64 (q : Int)) := var_cell _ _ _ _ _ rfl
            have sS_1 : (u2.alloc (.cells #[.int .i64 (q : Int), .int .i64 (p : Int), .slice As m cs] 91)).cell? ⟨u2.heap.size, 1, none⟩ = some (.int .i64 (p : Int)) := var_cell _ _ _ _ _ rfl
            have sS_2 : (u2.alloc (.cells #[.int .i64 (q : Int), .int .i64 (p : Int), .slice As m cs] 91)).cell? ⟨u2.heap.size, 2, none⟩ = some (.slice As m cs) := var_cell _ _ _ _ _ rfl
            generalize (u2.alloc (.cells #[.int .i64 (q : Int), .int .i64 (p : Int), .slice As m cs] 91)) = u3 at *
            have hz3 : u2.heap.size ≤ u3.heap.size := he3.size
            have b3 : Below W.heap.size W u3 := b2.trans (he3.below b2.size (by omega))
            replace h := (h.below (he3.below (B := W.heap.size) (by omega) (by omega)) (Nat.le_refl _))
            replace aD_0 := he3.cell aD_0 (by simp only; omega)
            replace aD_1 := he3.cell aD_1 (by simp only; omega)
            replace aD_l := Nat.lt_of_lt_of_le aD_l hz3
            have sS_l : u2.heap.size < u3.heap.size := (by omega)
            have hbE : Below w2.heap.size w2 u3 := (((hbL).trans (he1.below (by omega) (by omega))).trans (he2.below (by omega) (by omega))).trans (he3.below (by omega) (by omega))
            go_wp2_with fail
            go_roundw
            case rel => exact ⟨k + 1, by omega, by go_num, by rw [topN, HT.out, HL.out, secE, HP.out]; congr 1; omega, hbE⟩
            case measure => simp [intOf]; omega
          · skip
            go_wp2_with fail
            have he3 : Eff 0 0 u2 (u2.alloc (.cells #[.int .i64 (q : Int), .int .i64 (p : Int), .slice As m cs] 91)) := Eff.alloc _ _
            have hs3 : (u2.alloc (.cells #[.int .i64 (q : Int), .int .i64 (p : Int), .slice As m cs] 91)).heap.size = u2.heap.size + 1 := (by simp)
            have sS_0 : (u2.alloc (.cells #[.int .i64 (q : Int), .int .i64 (p : Int), .slice As m cs] 91)).cell? ⟨u2.heap.size, 0, none⟩ = some (.int .i64 (q : Int)) := var_cell _ _ _ _ _ rfl
            have sS_1 : (u2.alloc (.cells #[.int .i64 (q : Int), .int .i64 (p : Int), .slice As m cs] 91)).cell? ⟨u2.heap.size, 1, none⟩ = some (.int .i64 (p : Int)) := var_cell _ _ _ _ _ rfl
            have sS_2 : (u2.alloc (.cells #[.int .i64 (q : Int), .int .i64 (p : Int), .slice As m cs] 91)).cell? ⟨u2.heap.size, 2, none⟩ = some (.slice As m cs) := var_cell _ _ _ _ _ rfl
            generalize (u2.alloc (.cells #[.int .i64 (q : Int), .int .i64 (p : Int), .slice As m cs] 91)) = u3 at *
            have hz3 : u2.heap.size ≤ u3.heap.size := he3.size
            have b3 : Below W.heap.size W u3 := b2.trans (he3.below b2.size (by omega))
            replace h := (h.below (he3.below (B := W.heap.size) (by omega) (by omega)) (Nat.le_refl _))
            replace aD_0 := he3.cell aD_0 (by simp only; omega)
            replace aD_1 := he3.cell aD_1 (by simp only; omega)
            replace aD_l := Nat.lt_of_lt_of_le aD_l hz3
            have sS_l : u2.heap.size < u3.heap.size := (by omega)
            have hbE : Below w2.heap.size w2 u3 := (((hbL).trans (he1.below (by omega) (by omega))).trans (he2.below (by omega) (by omega))).trans (he3.below (by omega) (by omega))
            go_wp2_with fail
            go_roundw
            case rel => exact ⟨k + 1, by omega, by go_num, by rw [topN, HT.out, HL.out, secE, HP.out]; congr 1; omega, hbE⟩
            case measure => simp [intOf]; omega
      · obtain rfl : nc = k := by omega
        go_wp2_with fail
        go_ret
        exact ⟨rfl, hbW⟩
end Go.Proofs.Ytblenfhacaecmaa
