/- LogRead (the program). -/
import Derived.Test.YtblenfhacaecmaaScs
import Derived.Test.YtblenfhacaecmaaLrc
import Derived.Deep.RegionHeld3
import Derived.IntWalk
namespace Go.Proofs.Ytblenfhacaecmaa
open Go.RowKit
set_option maxHeartbeats 2000000 in
set_option maxRecDepth 100000 in
theorem impl_decoded_read (Ac : Option Addr) (nc cc : Nat) (Aw : Option Addr) (nw cw : Nat) (dc : List (List UInt8)) (dw : List (Int × List UInt8)) (T : Nat) (W : World) (hTW : T < W.heap.size) (h : RdDk W T Ac nc Aw nw dc dw) (LB : lenB dc dw) (hT : W.cell? ⟨T, 0, none⟩ = some (.slice none 0 0)) (hf : W.frozen? ⟨T, 0, none⟩ = false) :
    Calls Try.prog 69 #[.agg #[.slice Ac nc cc, .slice Aw nw cw], .func (.func 71) #[] #[.pointer (some ⟨T, 0, none⟩)]] W fun e w' => ∃ A n c es, e = .returned (.tuple #[]) ∧ w'.cell? ⟨T, 0, none⟩ = some (.slice A n c) ∧ w'.frozen? ⟨T, 0, none⟩ = false ∧ OwnSector w' W.heap.size w'.heap.size A n c es ∧ es.map Sc.d = logR (lgF dc dw) nc 0 0 ∧ Eff T (T + 1) W w' := by
  have hlc := h.len.1
  have E0 : Eff T (T + 1) W W := Eff.refl _ _ _
  have HLB := Lib.hid LB
  have hncb : nc ≤ 1048576 := by have := LB.1; omega
  have HLC := Lib.hid hlc
  clear LB hlc
  go_enter Try.func69, Try.ntmps69
  go_wp2_with fail
  have he1 : Eff 0 0 W (W.alloc (.cells #[.slice Ac nc cc, .slice Aw nw cw] 33)) := Eff.alloc _ _
  have hs1 : (W.alloc (.cells #[.slice Ac nc cc, .slice Aw nw cw] 33)).heap.size = W.heap.size + 1 := (by simp)
  have aD_0 : (W.alloc (.cells #[.slice Ac nc cc, .slice Aw nw cw] 33)).cell? ⟨W.heap.size, 0, none⟩ = some (.slice Ac nc cc) := var_cell _ _ _ _ _ rfl
  have aD_1 : (W.alloc (.cells #[.slice Ac nc cc, .slice Aw nw cw] 33)).cell? ⟨W.heap.size, 1, none⟩ = some (.slice Aw nw cw) := var_cell _ _ _ _ _ rfl
  generalize (W.alloc (.cells #[.slice Ac nc cc, .slice Aw nw cw] 33)) = v1 at *
  have hz1 : W.heap.size ≤ v1.heap.size := he1.size
  have E1 : Eff T (T + 1) W v1 := Eff.stepT E0 he1 (by omega)
  replace hf := (he1.frozen hT (by simp only; omega)).trans hf
  replace hT := he1.cell hT (by simp only; omega)
  replace h := (h.below (he1.below (B := T) (by omega) (by omega)) (Nat.le_refl _))
  have aD_l : W.heap.size < v1.heap.size := (by omega)
  have EW := E1
  go_wp2
  go_loopw [10] (fun vi wr => ∃ (k : Nat) (A : Option Addr) (c : Nat) (es : List Sc) (t : Nat), k ≤ nc ∧ vi = .int .i64 (k : Int) ∧ Eff T (T + 1) v1 wr ∧ wr.cell? ⟨T, 0, none⟩ = some (.slice A k c) ∧ wr.frozen? ⟨T, 0, none⟩ = false ∧ OwnSector wr v1.heap.size wr.heap.size A k c es ∧ Hid (es.map Sc.d ++ logR (lgF dc dw) (nc - k) k t = logR (lgF dc dw) nc 0 0) ∧ Hid (lastE k es t)) (fun vi _ => nc - (intOf vi).toNat)
  case atStart => exact ⟨0, none, 0, [], 0, Nat.zero_le _, rfl, Eff.refl _ _ _, hT, hf, OwnR.nil (Nat.le_refl _) (Nat.le_refl _), Lib.hid rfl, Lib.hid ⟨fun _ => rfl, fun x hx => by simp at hx⟩⟩
  clear hT hf
  case round =>
    obtain ⟨k, A, c, es, t, hk, rfl, heL, hT, hf, hC, HD, HE⟩ := hrel
    have hzL := heL.size
    replace h := h.below (heL.below (B := T) (by omega) (by omega)) (Nat.le_refl _)
    replace aD_0 := heL.cell aD_0 (by simp only; omega)
    replace aD_1 := heL.cell aD_1 (by simp only; omega)
    replace aD_l := Nat.lt_of_lt_of_le aD_l hzL
    by_cases hlt : k < nc
    · skip
      obtain ⟨l, hl⟩ : ∃ l, readD dc dw (k : Int) = l := ⟨_, rfl⟩
      have HL := Lib.hid hl
      clear hl
      obtain ⟨gd, hG⟩ : ∃ x, secGood l = x := ⟨_, rfl⟩
      obtain ⟨q, hQ⟩ : ∃ x, (if secGood l then rdQ l else 0) = x := ⟨_, rfl⟩
      obtain ⟨p, hP⟩ : ∃ x, (if secGood l then rdP l else 0) = x := ⟨_, rfl⟩
      obtain ⟨m, hM⟩ : ∃ x, (if secGood l then rdM l else 0) = x := ⟨_, rfl⟩
      obtain ⟨B, hB⟩ : ∃ x, (if secGood l then rdB l else []) = x := ⟨_, rfl⟩
      have HG := Lib.hid hG
      have HQ := Lib.hid hQ
      have HP := Lib.hid hP
      have HM := Lib.hid hM
      have HB := Lib.hid hB
      clear hG hQ hP hM hB
      have hel := hC.len Sc.hf (by omega)
      have HEL := Lib.hid hel
      clear hel
      obtain ⟨nb, hnb⟩ : ∃ n, l.length = n := ⟨_, rfl⟩
      have hcon := impl_diskRead_d Ac nc cc Aw nw cw dc dw k wr (h.more (by omega)) HLB.out hlt
      rw [HL.out, hnb] at hcon
      have HCON := Lib.hid hcon
      clear hcon hnb
      go_wp2_with fail
      refine (HCON.out).mono ?_
      rintro e u1 ⟨Ab, cb, rfl, b, hb⟩
      have he1 : Eff 0 0 wr u1 := Eff.of hb
      have hz1 : wr.heap.size ≤ u1.heap.size := he1.size
      have E1 : Eff T (T + 1) v1 u1 := Eff.stepT heL he1 (by omega)
      replace hf := (he1.frozen hT (by simp only; omega)).trans hf
      replace aD_0 := he1.cell aD_0 (by simp only; omega)
      replace aD_1 := he1.cell aD_1 (by simp only; omega)
      replace hT := he1.cell hT (by simp only; omega)
      replace aD_l := Nat.lt_of_lt_of_le aD_l hz1
      replace h := (h.below (he1.below (B := T) (by omega) (by omega)) (Nat.le_refl _))
      clear hb
      go_wp2_with fail
      refine (impl_SectorRead Ab nb cb l b.row_le (Own.caps b).2 u1 (b.rd (by omega))).mono ?_
      rintro e u2 hpost
      obtain ⟨As, cs, rfl, s, hb⟩ := hpost.get HG.out HQ.out HP.out HM.out HB.out
      clear hpost
      have he2 : Eff 0 0 u1 u2 := Eff.of hb
      have hz2 : u1.heap.size ≤ u2.heap.size := he2.size
      have E2 : Eff T (T + 1) v1 u2 := Eff.stepT E1 he2 (by omega)
      replace b := b.keep he2 (by omega)
      replace hf := (he2.frozen hT (by simp only; omega)).trans hf
      replace aD_0 := he2.cell aD_0 (by simp only; omega)
      replace aD_1 := he2.cell aD_1 (by simp only; omega)
      replace hT := he2.cell hT (by simp only; omega)
      replace aD_l := Nat.lt_of_lt_of_le aD_l hz2
      replace h := (h.below (he2.below (B := T) (by omega) (by omega)) (Nat.le_refl _))
      clear hb
      go_wp2_with fail
      have he3 : Eff 0 0 u2 (u2.alloc (.cells #[.int .i64 (q : Int), .int .i64 (p : Int), .slice As m cs] 91)) := Eff.alloc _ _
      have hs3 : (u2.alloc (.cells #[.int .i64 (q : Int), .int .i64 (p : Int), .slice As m cs] 91)).heap.size = u2.heap.size + 1 := (by simp)
      have sS_0 : (u2.alloc (.cells #[.int .i64 (q : Int), .int .i64 (p : Int), .slice As m cs] 91)).cell? ⟨u2.heap.size, 0, none⟩ = some (.int .i64 (q : Int)) := var_cell _ _ _ _ _ rfl
      have sS_1 : (u2.alloc (.cells #[.int .i64 (q : Int), .int .i64 (p : Int), .slice As m cs] 91)).cell? ⟨u2.heap.size, 1, none⟩ = some (.int .i64 (p : Int)) := var_cell _ _ _ _ _ rfl
      have sS_2 : (u2.alloc (.cells #[.int .i64 (q : Int), .int .i64 (p : Int), .slice As m cs] 91)).cell? ⟨u2.heap.size, 2, none⟩ = some (.slice As m cs) := var_cell _ _ _ _ _ rfl
      generalize (u2.alloc (.cells #[.int .i64 (q : Int), .int .i64 (p : Int), .slice As m cs] 91)) = u3 at *
      have hz3 : u2.heap.size ≤ u3.heap.size := he3.size
      have E3 : Eff T (T + 1) v1 u3 := Eff.stepT E2 he3 (by omega)
      replace b := b.keep he3 (by omega)
      replace s := s.keep he3 (by omega)
      replace hf := (he3.frozen hT (by simp only; omega)).trans hf
      replace aD_0 := he3.cell aD_0 (by simp only; omega)
      replace aD_1 := he3.cell aD_1 (by simp only; omega)
      replace hT := he3.cell hT (by simp only; omega)
      replace aD_l := Nat.lt_of_lt_of_le aD_l hz3
      replace h := (h.below (he3.below (B := T) (by omega) (by omega)) (Nat.le_refl _))
      have sS_l : u2.heap.size < u3.heap.size := (by omega)
      have he0 : Eff 0 0 wr u3 := eff00 (eff00 he1 he2) he3
      replace s : OwnB u3 wr.heap.size u3.heap.size As m cs B := Own.wide s (by omega) (by omega) (Nat.le_refl _)
      go_wp2_with fail
      have hW1 : W.heap.size ≤ v1.heap.size := by omega
      rcases gd with _ | _
      · skip
        refine (impl_LogRead1_bad (k : Int) q p As m cs T _ u3 hT).mono ?_
        rintro e w9 ⟨rfl, he9⟩
        have E9 : Eff T (T + 1) v1 w9 := Eff.stepT E3 he9 (by omega)
        replace hf := (he9.frozen hT (by simp only; omega)).trans hf
        replace hT := he9.cell hT (by simp only; omega)
        have hez := he9.size
        replace hC := (hC.keep (eff00 he0 he9) (.inr (.inr (Nat.le_refl _)))).wide hW1 (by omega) (Nat.le_refl _)
        go_wp2_with fail
        refine bodyPost_ret (v := .tuple #[]) (by simp [results, Try.results69, go_sem]) rfl ?_
        exact ⟨A, k, c, es, rfl, hT, hf, hC, by rw [← HD.out, show nc - k = (nc - (k + 1)) + 1 by omega, logR_no (.inl (by show secGood (readD dc dw (k : Int)) = false; rw [HL.out]; exact HG.out)), List.append_nil], EW.stepT E9 (by omega)⟩
      · skip
        have hg1 : secGood (lgF dc dw k) = true := by show secGood (readD dc dw (k : Int)) = true; rw [HL.out]; exact HG.out
        have hgq : rdQ (lgF dc dw k) = q := by have := HQ.out; rw [if_pos HG.out] at this; show rdQ (readD dc dw (k : Int)) = q; rw [HL.out]; exact this
        have hg4 : rdP (lgF dc dw k) = p := by have := HP.out; rw [if_pos HG.out] at this; show rdP (readD dc dw (k : Int)) = p; rw [HL.out]; exact this
        have hg5 : rdB (lgF dc dw k) = B := by have := HB.out; rw [if_pos HG.out] at this; show rdB (readD dc dw (k : Int)) = B; rw [HL.out]; exact this
        by_cases hqk : q = k
        · subst hqk
          have hg2 := hgq
          by_cases hpt : p < t
          · obtain ⟨j, rfl⟩ : ∃ j, q = j + 1 := ⟨q - 1, by have := HE.out.1; omega⟩
            refine (impl_LogRead1_low j p t As m cs T A c es v1.heap.size wr u3 hT (by omega) hC he0 HE.out.2 (by simpa using hpt) _ _ rfl rfl).mono ?_
            rintro e w9 ⟨rfl, he9⟩
            have E9 : Eff T (T + 1) v1 w9 := Eff.stepT E3 he9 (by omega)
            replace hf := (he9.frozen hT (by simp only; omega)).trans hf
            replace hT := he9.cell hT (by simp only; omega)
            have hez := he9.size
            replace hC := (hC.keep (eff00 he0 he9) (.inr (.inr (Nat.le_refl _)))).wide hW1 (by omega) (Nat.le_refl _)
            go_wp2_with fail
            refine bodyPost_ret (v := .tuple #[]) (by simp [results, Try.results69, go_sem]) rfl ?_
            exact ⟨A, (j + 1), c, es, rfl, hT, hf, hC, by rw [← HD.out, show nc - (j + 1) = (nc - ((j + 1) + 1)) + 1 by omega, logR_no (.inr (.inr (by rw [hg4]; exact hpt))), List.append_nil], EW.stepT E9 (by omega)⟩
          · have hg3 : t ≤ rdP (lgF dc dw q) := by rw [hg4]; omega
            rcases q with _ | j
            · skip
              refine (impl_LogRead1_yes0 p As m cs T A c es v1.heap.size wr u3 B hT hf (by omega) hC he0 s).mono ?_
              rintro e w9 ⟨rfl, A2, c2, wm, rfl, hE, hO⟩
              have E9 : Eff T (T + 1) v1 wm := Eff.stepT E3 hE (.inl (Nat.le_refl _))
              have es9 := eff_set wm T 0 (.slice A2 (0 + 1) c2)
              have E10 := Eff.stepT E9 es9 (.inr (.inr ⟨Nat.le_refl _, Nat.le_refl _⟩))
              replace hf := set_frozen (p := ⟨T, 0, none⟩) ((hE.frozen hT (by simp only; omega)).trans hf) (.slice A2 (0 + 1) c2)
              replace hT := set_same (hE.cell hT (by simp only; omega)) (.slice A2 (0 + 1) c2)
              replace hO := (hO.keep es9 (by omega)).wide (Nat.le_refl _) (by simp) (Nat.le_refl _)
              generalize wm.setCell ⟨T, 0, none⟩ (.slice A2 (0 + 1) c2) = wn at *
              go_wp2_with fail
              go_roundw
              case rel =>
                refine ⟨0 + 1, A2, c2, _, p, by omega, by go_num, E10, hT, hf, hO, Lib.hid ?_, Lib.hid (lastE_snoc HEL.out rfl)⟩
                rw [← HD.out, show nc - 0 = (nc - (0 + 1)) + 1 by omega, logR_yes hg1 hg2 hg3, List.map_append, List.append_assoc, hg4, hg5]
                rfl
              case measure => simp [intOf]; omega
            · skip
              refine (impl_LogRead1_yes1 j p t As m cs T A c es v1.heap.size wr u3 B hT hf (by omega) (by omega) hC he0 s HE.out.2 (by simpa using hpt) _ _ rfl rfl).mono ?_
              rintro e w9 ⟨rfl, A2, c2, wm, rfl, hE, hO⟩
              have E9 : Eff T (T + 1) v1 wm := Eff.stepT E3 hE (.inl (Nat.le_refl _))
              have es9 := eff_set wm T 0 (.slice A2 ((j + 1) + 1) c2)
              have E10 := Eff.stepT E9 es9 (.inr (.inr ⟨Nat.le_refl _, Nat.le_refl _⟩))
              replace hf := set_frozen (p := ⟨T, 0, none⟩) ((hE.frozen hT (by simp only; omega)).trans hf) (.slice A2 ((j + 1) + 1) c2)
              replace hT := set_same (hE.cell hT (by simp only; omega)) (.slice A2 ((j + 1) + 1) c2)
              replace hO := (hO.keep es9 (by omega)).wide (Nat.le_refl _) (by simp) (Nat.le_refl _)
              generalize wm.setCell ⟨T, 0, none⟩ (.slice A2 ((j + 1) + 1) c2) = wn at *
              go_wp2_with fail
              go_roundw
              case rel =>
                refine ⟨(j + 1) + 1, A2, c2, _, p, by omega, by go_num, E10, hT, hf, hO, Lib.hid ?_, Lib.hid (lastE_snoc HEL.out rfl)⟩
                rw [← HD.out, show nc - (j + 1) = (nc - ((j + 1) + 1)) + 1 by omega, logR_yes hg1 hg2 hg3, List.map_append, List.append_assoc, hg4, hg5]
                rfl
              case measure => simp [intOf]; omega
        · have hqb : ((q : Int) != (k : Int)) = true := by simp; omega
          refine (impl_LogRead1_seq (k : Int) q p As m cs T _ u3 hT hqb).mono ?_
          rintro e w9 ⟨rfl, he9⟩
          have E9 : Eff T (T + 1) v1 w9 := Eff.stepT E3 he9 (by omega)
          replace hf := (he9.frozen hT (by simp only; omega)).trans hf
          replace hT := he9.cell hT (by simp only; omega)
          have hez := he9.size
          replace hC := (hC.keep (eff00 he0 he9) (.inr (.inr (Nat.le_refl _)))).wide hW1 (by omega) (Nat.le_refl _)
          go_wp2_with fail
          refine bodyPost_ret (v := .tuple #[]) (by simp [results, Try.results69, go_sem]) rfl ?_
          exact ⟨A, k, c, es, rfl, hT, hf, hC, by rw [← HD.out, show nc - k = (nc - (k + 1)) + 1 by omega, logR_no (.inr (.inl (by rw [hgq]; exact hqk))), List.append_nil], EW.stepT E9 (by omega)⟩
    · obtain rfl : nc = k := by omega
      go_wp2_with fail
      go_end0
      have hd := HD.out
      rw [Nat.sub_self, logR, List.append_nil] at hd
      exact ⟨A, nc, c, es, rfl, hT, hf, hC.wide (by omega) (Nat.le_refl _) (Nat.le_refl _), hd, E1.stepT heL (by omega)⟩
end Go.Proofs.Ytblenfhacaecmaa
