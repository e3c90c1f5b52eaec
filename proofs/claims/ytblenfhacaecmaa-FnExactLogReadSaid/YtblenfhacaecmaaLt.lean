/- LogTop (program). -/
import Derived.Test.YtblenfhacaecmaaDrr
import Derived.Test.YtblenfhacaecmaaSecRL
namespace Go.Proofs.Ytblenfhacaecmaa
open Go.RowKit
/-- The epoch that a cell's bytes read as; 0 if they are no sector. -/
def secE (l : List UInt8) : Nat := if secGood l then rdP l else 0
/-- The greatest epoch among the first k cells. -/
def topN (dc : List (List UInt8)) (dw : List (Int × List UInt8)) : Nat → Nat
  | 0 => 0
  | k + 1 => max (topN dc dw k) (secE (readD dc dw (k : Int)))
theorem Eff.stepT {g lo hi : Nat} {a b c : World} (h : Eff g (g + 1) a b) (k : Eff lo hi b c) (hl : a.heap.size ≤ lo ∨ hi = 0 ∨ (g ≤ lo ∧ hi ≤ g + 1)) : Eff g (g + 1) a c :=
  ⟨k.os.trans h.os, k.tape.trans h.tape, k.output.trans h.output, Nat.le_trans h.size k.size, fun i hi hn => (k.block i (Nat.lt_of_lt_of_le hi h.size) (by omega)).trans (h.block i hi hn)⟩
theorem len_readD_le {dc : List (List UInt8)} {dw : List (Int × List UInt8)} (LB : lenB dc dw) (p : Int) : (readD dc dw p).length ≤ 1048576 := by
  rcases h : rdW p dw with _ | b
  · rw [readD_none h]
    unfold fullC
    split
    · simp [zsD]
    · rw [List.getD_eq_getElem?_getD]
      rcases hh : dc[p.toNat]? with _ | l
      · simp
      · exact LB.2.2.1 l (List.mem_of_getElem? hh)
  · rw [readD_hit h]; exact LB.2.2.2 _ (rdW_mem h)
set_option maxHeartbeats 400000 in
set_option maxRecDepth 100000 in
theorem impl_LogTop1 (i q p : Int) (A : Option Addr) (n c : Nat) (b : Bool) (T : Nat) (t : Int) (w : World) (hT : w.cell? ⟨T, 0, none⟩ = some (.int .i64 t)) (hf : w.frozen? ⟨T, 0, none⟩ = false) :
    Calls Try.prog 70 #[.int .i64 i, .agg #[.int .i64 q, .int .i64 p, .slice A n c], .bool b, .pointer (some ⟨T, 0, none⟩)] w fun e w' => e = .returned (.bool true) ∧ w'.cell? ⟨T, 0, none⟩ = some (.int .i64 (max t p)) ∧ w'.frozen? ⟨T, 0, none⟩ = false ∧ Eff T (T + 1) w w' := by
  have hT1 : (w.alloc (.cells #[.int .i64 q, .int .i64 p, .slice A n c] 91)).cell? ⟨T, 0, none⟩ = some (.int .i64 t) := (Eff.alloc _ _).cell hT (.inr (Nat.zero_le _))
  have hf1 : (w.alloc (.cells #[.int .i64 q, .int .i64 p, .slice A n c] 91)).frozen? ⟨T, 0, none⟩ = false := ((Eff.alloc _ _).frozen hT (.inr (Nat.zero_le _))).trans hf
  go_enter Try.func70, Try.ntmps70
  go_wp2_with fail
  go_ret
  exact ⟨rfl, set_same hT1 _, set_frozen hf1 _, ((Eff.refl _ _ _).new _).trans (eff_set _ _ _ _)⟩
set_option maxHeartbeats 2000000 in
set_option maxRecDepth 100000 in
theorem impl_decoded_top (Ac : Option Addr) (nc cc : Nat) (Aw : Option Addr) (nw cw : Nat) (dc : List (List UInt8)) (dw : List (Int × List UInt8)) (T : Nat) (W : World) (hTW : T < W.heap.size) (h : RdDk W T Ac nc Aw nw dc dw) (LB : lenB dc dw) (hT : W.cell? ⟨T, 0, none⟩ = some (.int .i64 0)) (hf : W.frozen? ⟨T, 0, none⟩ = false) :
    Calls Try.prog 69 #[.agg #[.slice Ac nc cc, .slice Aw nw cw], .func (.func 70) #[] #[.pointer (some ⟨T, 0, none⟩)]] W fun e w' => e = .returned (.tuple #[]) ∧ w'.cell? ⟨T, 0, none⟩ = some (.int .i64 ((topN dc dw nc : Nat) : Int)) ∧ w'.frozen? ⟨T, 0, none⟩ = false ∧ Eff T (T + 1) W w' := by
  have hlc := h.len.1
  have E0 : Eff T (T + 1) W W := Eff.refl _ _ _
  have HLB := Lib.hid LB
  have hncb : nc ≤ 1048576 := by have := LB.1; omega
  have HLC := Lib.hid hlc
  clear LB hlc
  go_enter Try.func69, Try.ntmps69
  go_wp2_with fail
  have he1 : Eff 0 0 W (W.alloc (.cells #[.slice Ac nc cc, .slice Aw nw cw] 33)) := Eff.alloc _ _
  have hs1 : (W.alloc (.cells #[.slice Ac nc cc, .slice Aw nw cw] 33)).heap.size = W.heap.size + 1 := (by simp)
  have aD_0 : (W.alloc (.cells #[.slice Ac nc cc, .slice Aw nw cw] 33)).cell? ⟨W.heap.size, 0, none⟩ = some (.slice Ac nc cc) := var_cell _ _ _ _ _ rfl
  have aD_1 : (W.alloc (.cells #[.slice Ac nc cc, .slice Aw nw cw] 33)).cell? ⟨W.heap.size, 1, none⟩ = some (.slice Aw nw cw) := var_cell _ _ _ _ _ rfl
  generalize (W.alloc (.cells #[.slice Ac nc cc, .slice Aw nw cw] 33)) = v1 at *
  have hz1 : W.heap.size ≤ v1.heap.size := he1.size
  have E1 : Eff T (T + 1) W v1 := Eff.stepT E0 he1 (by omega)
  replace hf := (he1.frozen hT (by simp only; omega)).trans hf
  replace hT := he1.cell hT (by simp only; omega)
  replace h := (h.below (he1.below (B := T) (by omega) (by omega)) (Nat.le_refl _))
  have aD_l : W.heap.size < v1.heap.size := (by omega)
  go_wp2
  go_loopw [10] (fun vi wr => ∃ k : Nat, k ≤ nc ∧ vi = .int .i64 (k : Int) ∧ Eff T (T + 1) v1 wr ∧ wr.cell? ⟨T, 0, none⟩ = some (.int .i64 ((topN dc dw k : Nat) : Int)) ∧ wr.frozen? ⟨T, 0, none⟩ = false) (fun vi _ => nc - (intOf vi).toNat)
  case atStart => exact ⟨0, Nat.zero_le _, rfl, Eff.refl _ _ _, hT, hf⟩
  clear hT hf
  case round =>
    obtain ⟨k, hk, rfl, heL, hT, hf⟩ := hrel
    have hzL := heL.size
    replace h := h.below (heL.below (B := T) (by omega) (by omega)) (Nat.le_refl _)
    replace aD_0 := heL.cell aD_0 (by simp only; omega)
    replace aD_1 := heL.cell aD_1 (by simp only; omega)
    replace aD_l := Nat.lt_of_lt_of_le aD_l hzL
    by_cases hlt : k < nc
    · skip
      obtain ⟨l, hl⟩ : ∃ l, readD dc dw (k : Int) = l := ⟨_, rfl⟩
      have HL := Lib.hid hl
      clear hl
      obtain ⟨gd, hG⟩ : ∃ x, secGood l = x := ⟨_, rfl⟩
      obtain ⟨q, hQ⟩ : ∃ x, (if secGood l then rdQ l else 0) = x := ⟨_, rfl⟩
      obtain ⟨p, hP⟩ : ∃ x, (if secGood l then rdP l else 0) = x := ⟨_, rfl⟩
      obtain ⟨m, hM⟩ : ∃ x, (if secGood l then rdM l else 0) = x := ⟨_, rfl⟩
      obtain ⟨B, hB⟩ : ∃ x, (if secGood l then rdB l else []) = x := ⟨_, rfl⟩
      have HG := Lib.hid hG
      have HQ := Lib.hid hQ
      have HP := Lib.hid hP
      have HM := Lib.hid hM
      have HB := Lib.hid hB
      clear hG hQ hP hM hB
      obtain ⟨t, ht⟩ : ∃ t : Nat, topN dc dw k = t := ⟨_, rfl⟩
      rw [ht] at hT
      have HT := Lib.hid ht
      clear ht
      have hTm : max (t : Int) (p : Int) = ((topN dc dw (k + 1) : Nat) : Int) := by rw [topN, HT.out, HL.out, secE, HP.out]; omega
      have HTM := Lib.hid hTm
      clear hTm
      obtain ⟨nb, hnb⟩ : ∃ n, l.length = n := ⟨_, rfl⟩
      have hcon := impl_diskRead_d Ac nc cc Aw nw cw dc dw k wr (h.more (by omega)) HLB.out hlt
      rw [HL.out, hnb] at hcon
      have HCON := Lib.hid hcon
      clear hcon hnb
      go_wp2_with fail
      refine (HCON.out).mono ?_
      rintro e u1 ⟨Ab, cb, rfl, b, hb⟩
      have he1 : Eff 0 0 wr u1 := Eff.of hb
      have hz1 : wr.heap.size ≤ u1.heap.size := he1.size
      have E1 : Eff T (T + 1) v1 u1 := Eff.stepT heL he1 (by omega)
      replace hf := (he1.frozen hT (by simp only; omega)).trans hf
      replace aD_0 := he1.cell aD_0 (by simp only; omega)
      replace aD_1 := he1.cell aD_1 (by simp only; omega)
      replace hT := he1.cell hT (by simp only; omega)
      replace aD_l := Nat.lt_of_lt_of_le aD_l hz1
      replace h := (h.below (he1.below (B := T) (by omega) (by omega)) (Nat.le_refl _))
      clear hb
      go_wp2_with fail
      refine (impl_SectorRead Ab nb cb l b.row_le (Own.caps b).2 u1 (b.rd (by omega))).mono ?_
      rintro e u2 hpost
      obtain ⟨As, cs, rfl, s, hb⟩ := hpost.get HG.out HQ.out HP.out HM.out HB.out
      clear hpost
      have he2 : Eff 0 0 u1 u2 := Eff.of hb
      have hz2 : u1.heap.size ≤ u2.heap.size := he2.size
      have E2 : Eff T (T + 1) v1 u2 := Eff.stepT E1 he2 (by omega)
      replace b := b.keep he2 (by omega)
      replace hf := (he2.frozen hT (by simp only; omega)).trans hf
      replace aD_0 := he2.cell aD_0 (by simp only; omega)
      replace aD_1 := he2.cell aD_1 (by simp only; omega)
      replace hT := he2.cell hT (by simp only; omega)
      replace aD_l := Nat.lt_of_lt_of_le aD_l hz2
      replace h := (h.below (he2.below (B := T) (by omega) (by omega)) (Nat.le_refl _))
      clear hb
      go_wp2_with fail
      have he3 : Eff 0 0 u2 (u2.alloc (.cells #[.int .i64 (q : Int), .int .i64 (p : Int), .slice As m cs] 91)) := Eff.alloc _ _
      have hs3 : (u2.alloc (.cells #[.int .i64 (q : Int), .int .i64 (p : Int), .slice As m cs] 91)).heap.size = u2.heap.size + 1 := (by simp)
      have sS_0 : (u2.alloc (.cells #[.int .i64 (q : Int), .int .i64 (p : Int), .slice As m cs] 91)).cell? ⟨u2.heap.size, 0, none⟩ = some (.int .i64 (q : Int)) := var_cell _ _ _ _ _ rfl
      have sS_1 : (u2.alloc (.cells #[.int .i64 (q : Int), .int .i64 (p : Int), .slice As m cs] 91)).cell? ⟨u2.heap.size, 1, none⟩ = some (.int .i64 (p : Int)) := var_cell _ _ _ _ _ rfl
      have sS_2 : (u2.alloc (.cells #[.int .i64 (q : Int), .int .i64 (p : Int), .slice As m cs] 91)).cell? ⟨u2.heap.size, 2, none⟩ = some (.slice As m cs) := var_cell _ _ _ _ _ rfl
      generalize (u2.alloc (.cells #[.int .i64 (q : Int), .int .i64 (p : Int), .slice As m cs] 91)) = u3 at *
      have hz3 : u2.heap.size ≤ u3.heap.size := he3.size
      have E3 : Eff T (T + 1) v1 u3 := Eff.stepT E2 he3 (by omega)
      replace b := b.keep he3 (by omega)
      replace s := s.keep he3 (by omega)
      replace hf := (he3.frozen hT (by simp only; omega)).trans hf
      replace aD_0 := he3.cell aD_0 (by simp only; omega)
      replace aD_1 := he3.cell aD_1 (by simp only; omega)
      replace hT := he3.cell hT (by simp only; omega)
      replace aD_l := Nat.lt_of_lt_of_le aD_l hz3
      replace h := (h.below (he3.below (B := T) (by omega) (by omega)) (Nat.le_refl _))
      have sS_l : u2.heap.size < u3.heap.size := (by omega)
      clear b s
      go_wp2_with fail
      refine (impl_LogTop1 (k : Int) (q : Int) (p : Int) As m cs gd T (t : Int) u3 hT hf).mono ?_
      rintro e w9 ⟨rfl, hT2, hf2, he9⟩
      have E9 : Eff T (T + 1) v1 w9 := Eff.stepT E3 he9 (by omega)
      rw [HTM.out] at hT2
      go_wp2_with fail
      go_roundw
      case rel => exact ⟨k + 1, by omega, by go_num, E9, hT2, hf2⟩
      case measure => simp [intOf]; omega
    · obtain rfl : nc = k := by omega
      go_wp2_with fail
      go_end0
      exact ⟨rfl, hT, hf, E1.stepT heL (by omega)⟩
set_option maxHeartbeats 2000000 in
set_option maxRecDepth 100000 in
theorem impl_LogTop_d (Ac : Option Addr) (nc cc : Nat) (Aw : Option Addr) (nw cw : Nat) (dc : List (List UInt8)) (dw : List (Int × List UInt8)) (W : World) (h : RdDk W W.heap.size Ac nc Aw nw dc dw) (LB : lenB dc dw) :
    Calls Try.prog 31 #[.agg #[.slice Ac nc cc, .slice Aw nw cw]] W fun e w' => e = .returned (.int .i64 (if dkOk dc dw then ((topN dc dw nc : Nat) : Int) else 0)) ∧ Below W.heap.size W w' := by
  rcases hok : dkOk dc dw with _ | _
  · simp only [Bool.false_eq_true, if_false]
    go_enter Try.func31, Try.ntmps31
    go_wp2_with fail
    have he1 : Eff 0 0 W (W.alloc (.cells #[.slice Ac nc cc, .slice Aw nw cw] 33)) := Eff.alloc _ _
    have hs1 : (W.alloc (.cells #[.slice Ac nc cc, .slice Aw nw cw] 33)).heap.size = W.heap.size + 1 := (by simp)
    have aD_0 : (W.alloc (.cells #[.slice Ac nc cc, .slice Aw nw cw] 33)).cell? ⟨W.heap.size, 0, none⟩ = some (.slice Ac nc cc) := var_cell _ _ _ _ _ rfl
    have aD_1 : (W.alloc (.cells #[.slice Ac nc cc, .slice Aw nw cw] 33)).cell? ⟨W.heap.size, 1, none⟩ = some (.slice Aw nw cw) := var_cell _ _ _ _ _ rfl
    generalize (W.alloc (.cells #[.slice Ac nc cc, .slice Aw nw cw] 33)) = w1 at *
    have hz1 : W.heap.size ≤ w1.heap.size := he1.size
    have b1 : Below W.heap.size W w1 := he1.below (Nat.le_refl _) (by omega)
    replace h := (h.below (he1.below (B := W.heap.size) (by omega) (by omega)) (Nat.le_refl _))
    have aD_l : W.heap.size < w1.heap.size := (by omega)
    refine (impl_DiskOk_d Ac nc cc Aw nw cw dc dw w1 (h.more (by omega)) LB).mono ?_
    rintro e w2 ⟨rfl, hb⟩
    have he2 : Eff 0 0 w1 w2 := Eff.of hb
    have hz2 : w1.heap.size ≤ w2.heap.size := he2.size
    have b2 : Below W.heap.size W w2 := b1.trans (he2.below b1.size (by omega))
    replace h := (h.below (he2.below (B := W.heap.size) (by omega) (by omega)) (Nat.le_refl _))
    replace aD_0 := he2.cell aD_0 (by simp only; omega)
    replace aD_1 := he2.cell aD_1 (by simp only; omega)
    replace aD_l := Nat.lt_of_lt_of_le aD_l hz2
    clear hb
    rw [hok]
    go_wp2_with fail
    go_ret
    exact ⟨rfl, b2⟩
  · simp only [if_true]
    go_enter Try.func31, Try.ntmps31
    go_wp2_with fail
    have he1 : Eff 0 0 W (W.alloc (.cells #[.slice Ac nc cc, .slice Aw nw cw] 33)) := Eff.alloc _ _
    have hs1 : (W.alloc (.cells #[.slice Ac nc cc, .slice Aw nw cw] 33)).heap.size = W.heap.size + 1 := (by simp)
    have aD_0 : (W.alloc (.cells #[.slice Ac nc cc, .slice Aw nw cw] 33)).cell? ⟨W.heap.size, 0, none⟩ = some (.slice Ac nc cc) := var_cell _ _ _ _ _ rfl
    have aD_1 : (W.alloc (.cells #[.slice Ac nc cc, .slice Aw nw cw] 33)).cell? ⟨W.heap.size, 1, none⟩ = some (.slice Aw nw cw) := var_cell _ _ _ _ _ rfl
    generalize (W.alloc (.cells #[.slice Ac nc cc, .slice Aw nw cw] 33)) = w1 at *
    have hz1 : W.heap.size ≤ w1.heap.size := he1.size
    have b1 : Below W.heap.size W w1 := he1.below (Nat.le_refl _) (by omega)
    replace h := (h.below (he1.below (B := W.heap.size) (by omega) (by omega)) (Nat.le_refl _))
    have aD_l : W.heap.size < w1.heap.size := (by omega)
    refine (impl_DiskOk_d Ac nc cc Aw nw cw dc dw w1 (h.more (by omega)) LB).mono ?_
    rintro e w2 ⟨rfl, hb⟩
    have he2 : Eff 0 0 w1 w2 := Eff.of hb
    have hz2 : w1.heap.size ≤ w2.heap.size := he2.size
    have b2 : Below W.heap.size W w2 := b1.trans (he2.below b1.size (by omega))
    replace h := (h.below (he2.below (B := W.heap.size) (by omega) (by omega)) (Nat.le_refl _))
    replace aD_0 := he2.cell aD_0 (by simp only; omega)
    replace aD_1 := he2.cell aD_1 (by simp only; omega)
    replace aD_l := Nat.lt_of_lt_of_le aD_l hz2
    clear hb
    rw [hok]
    have aD_0P := (Eff.alloc w2 (.cells #[.int .i64 0] 3)).cell aD_0 (by simp only; omega)
    have aD_1P := (Eff.alloc w2 (.cells #[.int .i64 0] 3)).cell aD_1 (by simp only; omega)
    go_wp2_with fail
    have he3 : Eff 0 0 w2 (w2.alloc (.cells #[.int .i64 0] 3)) := Eff.alloc _ _
    have hs3 : (w2.alloc (.cells #[.int .i64 0] 3)).heap.size = w2.heap.size + 1 := (by simp)
    have T_0 : (w2.alloc (.cells #[.int .i64 0] 3)).cell? ⟨w2.heap.size, 0, none⟩ = some (.int .i64 0) := var_cell _ _ _ _ _ rfl
    have T_f0 : (w2.alloc (.cells #[.int .i64 0] 3)).frozen? ⟨w2.heap.size, 0, none⟩ = false := var_frozen _ _ _ _
    generalize (w2.alloc (.cells #[.int .i64 0] 3)) = w3 at *
    have hz3 : w2.heap.size ≤ w3.heap.size := he3.size
    have b3 : Below W.heap.size W w3 := b2.trans (he3.below b2.size (by omega))
    replace h := (h.below (he3.below (B := W.heap.size) (by omega) (by omega)) (Nat.le_refl _))
    replace aD_0 := he3.cell aD_0 (by simp only; omega)
    replace aD_1 := he3.cell aD_1 (by simp only; omega)
    replace aD_l := Nat.lt_of_lt_of_le aD_l hz3
    have T_l : w2.heap.size < w3.heap.size := (by omega)
    clear aD_0P aD_1P
    have hTw : w2.heap.size < w3.heap.size := by omega
    have hTW : W.heap.size < w2.heap.size := by omega
    clear T_l
    go_wp2_with fail
    refine (impl_decoded_top Ac nc cc Aw nw cw dc dw w2.heap.size w3 hTw (h.more (by omega)) LB T_0 T_f0).mono ?_
    rintro e w4 ⟨rfl, hT2, hf2, he4⟩
    have hz4 : w3.heap.size ≤ w4.heap.size := he4.size
    have b4 : Below W.heap.size W w4 := b3.trans (he4.below b3.size (by omega))
    replace h := (h.below (he4.below (B := W.heap.size) (by omega) (by omega)) (Nat.le_refl _))
    replace aD_0 := he4.cell aD_0 (by simp only; omega)
    replace aD_1 := he4.cell aD_1 (by simp only; omega)
    replace aD_l := Nat.lt_of_lt_of_le aD_l hz4
    go_wp2_with fail
    go_ret
    exact ⟨rfl, b4⟩
end Go.Proofs.Ytblenfhacaecmaa
