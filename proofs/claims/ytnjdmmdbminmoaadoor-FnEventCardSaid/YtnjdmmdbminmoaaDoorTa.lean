/- TextAcc, in the program and in the reference. -/
import Derived.Test.YtnjdmmdbminmoaaDoorAt
import Derived.Test.YtnjdmmdbminmoaaDoorTn
namespace Go.Proofs.YtnjdmmdbminmoaaDoor
open Go.RowKit
/-- What TextAcc answers: the one account with this text, or none. -/
def RdAcc (l : List UInt8) (w : World) (e : Ending) (w' : World) : Prop :=
  ((∃ k c, isAcc l k c ∧ e = .returned (.tuple #[.agg #[.int .i64 k, .int .i64 c], .bool true])) ∨ ((∀ k c, ¬ isAcc l k c) ∧ e = .returned (.tuple #[.agg #[.int .i64 0, .int .i64 0], .bool false]))) ∧ Below w.heap.size w w'
theorem rdAcc_yes {l : List UInt8} {k c : Int} {w w' : World} (h : isAcc l k c) (hb : Below w.heap.size w w') : RdAcc l w (.returned (.tuple #[.agg #[.int .i64 k, .int .i64 c], .bool true])) w' := ⟨.inl ⟨k, c, h, rfl⟩, hb⟩
theorem rdAcc_no {l : List UInt8} {w w' : World} (h : ∀ k c, ¬ isAcc l k c) (hb : Below w.heap.size w w') : RdAcc l w (.returned (.tuple #[.agg #[.int .i64 0, .int .i64 0], .bool false])) w' := ⟨.inr ⟨h, rfl⟩, hb⟩
/-- No account of a kind below j has this text. -/
def noAcc (l : List UInt8) (j : Nat) : Prop := ∀ (k c : Int), k < (j : Int) → ¬ isAcc l k c
theorem noAcc_one (l : List UInt8) : noAcc l 1 := fun k c hk h => by have := accOk_iff.1 h.1; omega
theorem noAcc_end {l : List UInt8} {j : Nat} (hj : 9 ≤ j) (h : noAcc l j) : ∀ k c, ¬ isAcc l k c := fun k c hi => h k c (by have := accOk_iff.1 hi.1; omega) hi
theorem noAcc_succ {l : List UInt8} {j : Nat} (h : noAcc l j) (hj : ∀ c, ¬ isAcc l (j : Int) c) : noAcc l (j + 1) := fun k c hk hi => by
  rcases Int.lt_or_le k (j : Int) with h1 | h1
  · exact h k c h1 hi
  · obtain rfl : k = (j : Int) := by omega
    exact hj c hi
/-- No account of kind j with a channel below i has this text. -/
def noCh (l : List UInt8) (j i : Nat) : Prop := ∀ c : Int, c < (i : Int) → ¬ isAcc l (j : Int) c
theorem noCh_zero (l : List UInt8) (j : Nat) : noCh l j 0 := fun c hc h => by have := accOk_iff.1 h.1; omega
theorem noCh_succ {l : List UInt8} {j i : Nat} (h : noCh l j i) (hi : ¬ isAcc l (j : Int) (i : Int)) : noCh l j (i + 1) := fun c hc ha => by
  rcases Int.lt_or_le c (i : Int) with h1 | h1
  · exact h c h1 ha
  · obtain rfl : c = (i : Int) := by omega
    exact hi ha
theorem noCh_end {l : List UInt8} {j i : Nat} (hi : 100 ≤ i) (h : noCh l j i) : ∀ c, ¬ isAcc l (j : Int) c := fun c ha => h c (by have := accOk_iff.1 ha.1; omega) ha
theorem cmp_sameE {x : List UInt8} {s : ByteArray} (h : x = s.data.toList) : ((bstr x).toList == s.toList) = true := by
  subst h; rw [bstr_of]; simp
theorem cmp_otherE {x : List UInt8} {s : ByteArray} (h : x ≠ s.data.toList) : ((bstr x).toList == s.toList) = false := by
  rw [ByteArray.toList_eq, ByteArray.toList_eq, bstr_list]
  simpa using h
theorem acc_cut (s : ByteArray) (p : List UInt8) (w : World) : Calls Tryd.prog 42 #[.string s, .string (bstr p)] w fun e w' => e = .returned (.tuple #[.string (bstr (Lib.trimPrefix s.data.toList p)), .bool (Lib.hasPrefix s.data.toList p)]) ∧ w' = w := by
  have := Tryd.strings_CutPrefix s (bstr p) w
  rw [bstr_list] at this
  exact this
theorem trim_len (l p : List UInt8) : (Lib.trimPrefix l p).length ≤ l.length := by
  unfold Lib.trimPrefix
  split
  · simp
  · exact Nat.le_refl _
set_option maxHeartbeats 4000000 in
set_option maxRecDepth 100000 in
theorem impl_TextAcc (s : ByteArray) (hs : s.size ≤ 1099511627776) (W : World) (hT : PTab W) (hE : PErr W) (hM : PMax W) : Calls Tryd.prog 15 #[.string s] W (RdAcc s.data.toList W) := by
  go_enter Tryd.func15, Tryd.ntmps15
  go_wp2_with fail
  have he1 : Eff 0 0 W (W.alloc (.cells #[.int .i64 0, .int .i64 0] 24)) := Eff.alloc _ _
  have hs1 : (W.alloc (.cells #[.int .i64 0, .int .i64 0] 24)).heap.size = W.heap.size + 1 := (by simp)
  have res_0 : (W.alloc (.cells #[.int .i64 0, .int .i64 0] 24)).cell? ⟨W.heap.size, 0, none⟩ = some (.int .i64 0) := var_cell _ _ _ _ _ rfl
  have res_1 : (W.alloc (.cells #[.int .i64 0, .int .i64 0] 24)).cell? ⟨W.heap.size, 1, none⟩ = some (.int .i64 0) := var_cell _ _ _ _ _ rfl
  have res_f0 : (W.alloc (.cells #[.int .i64 0, .int .i64 0] 24)).frozen? ⟨W.heap.size, 0, none⟩ = false := var_frozen _ _ _ _
  have res_f1 : (W.alloc (.cells #[.int .i64 0, .int .i64 0] 24)).frozen? ⟨W.heap.size, 1, none⟩ = false := var_frozen _ _ _ _
  generalize (W.alloc (.cells #[.int .i64 0, .int .i64 0] 24)) = w1 at *
  have hz1 : W.heap.size ≤ w1.heap.size := he1.size
  have b1 : Below W.heap.size W w1 := he1.below (Nat.le_refl _) (by omega)
  replace hT := hT.below he1.all
  replace hE := hE.below he1.all
  replace hM := hM.below he1.all
  have res_l : W.heap.size < w1.heap.size := (by omega)
  go_wp2
  go_loopw [4] (fun vi wr => ∃ j : Nat, 1 ≤ j ∧ j ≤ 9 ∧ vi = .int .i64 (j : Int) ∧ Hid (noAcc s.data.toList j) ∧ Below W.heap.size W wr ∧ PTab wr ∧ PErr wr ∧ PMax wr ∧ wr.cell? ⟨W.heap.size, 0, none⟩ = some (.int .i64 0) ∧ wr.cell? ⟨W.heap.size, 1, none⟩ = some (.int .i64 0) ∧ wr.frozen? ⟨W.heap.size, 0, none⟩ = false ∧ wr.frozen? ⟨W.heap.size, 1, none⟩ = false ∧ W.heap.size < wr.heap.size) (fun vi _ => 9 - (intOf vi).toNat)
  case atStart => exact ⟨1, Nat.le_refl _, by omega, rfl, Lib.hid (noAcc_one _), b1, hT, hE, hM, res_0, res_1, res_f0, res_f1, res_l⟩
  clear hT hE hM
  case round =>
    obtain ⟨j, hj1, hj9, rfl, HN, hbW, hT, hE, hM, res_0, res_1, res_f0, res_f1, res_l⟩ := hrel
    by_cases hlt : j ≤ 8
    · skip
      have i0 : (0 : Int) ≤ (j : Int) := by omega
      have i1 : (j : Int) < 9 := by omega
      have i2 : (j : Int) ≤ 8 := by omega
      have hj9' : j < 9 := by omega
      obtain ⟨Wd, hWe⟩ : ∃ Wd, accWs.getD j [] = Wd := ⟨_, rfl⟩
      have hWk : accW (j : Int) = Wd := by rw [accW, Int.toNat_natCast, hWe]
      have HW := Lib.hid hWk
      have hcell := fun (w : World) (t : TypeId) => (acc_at hj9' w t).trans (by rw [hWe] : _ = some (Value.string (bstr Wd)))
      replace hcell := Lib.hid hcell
      clear hWk hWe
      go_wp2_with fail
      refine (acc_split wr hM).mono ?_
      rintro e wx ⟨rfl, hwx⟩
      subst hwx
      have hc3 := hcell.out wr 9
      have he1 : Eff 0 0 wr (wr.alloc (.cells #[.string ⟨#[]⟩, .string ⟨#[119, 97, 108, 108, 101, 116]⟩, .string ⟨#[101, 113, 117, 105, 116, 121]⟩, .string ⟨#[105, 110, 99, 111, 109, 101]⟩, .string ⟨#[114, 101, 98, 97, 108]⟩, .string ⟨#[99, 104, 97, 105, 110]⟩, .string ⟨#[108, 111, 99, 97, 108]⟩, .string ⟨#[105, 110]⟩, .string ⟨#[111, 117, 116]⟩] 9)) := Eff.alloc _ _
      generalize (wr.alloc (.cells #[.string ⟨#[]⟩, .string ⟨#[119, 97, 108, 108, 101, 116]⟩, .string ⟨#[101, 113, 117, 105, 116, 121]⟩, .string ⟨#[105, 110, 99, 111, 109, 101]⟩, .string ⟨#[114, 101, 98, 97, 108]⟩, .string ⟨#[99, 104, 97, 105, 110]⟩, .string ⟨#[108, 111, 99, 97, 108]⟩, .string ⟨#[105, 110]⟩, .string ⟨#[111, 117, 116]⟩] 9)) = u1 at *
      have hz1 : wr.heap.size ≤ u1.heap.size := he1.size
      have b1 : Below W.heap.size W u1 := hbW.trans (he1.below hbW.size (by omega))
      replace res_f0 := (he1.frozen res_0 (by simp only; omega)).trans res_f0
      replace res_f1 := (he1.frozen res_1 (by simp only; omega)).trans res_f1
      replace res_0 := he1.cell res_0 (by simp only; omega)
      replace res_1 := he1.cell res_1 (by simp only; omega)
      replace res_l := Nat.lt_of_lt_of_le res_l hz1
      replace hT := hT.below he1.all
      replace hE := hE.below he1.all
      replace hM := hM.below he1.all
      clear hcell
      go_wp2_with fail
      refine (acc_cut s Wd u1).mono ?_
      rintro e wx ⟨rfl, hwx⟩
      rw [hwx]
      clear hwx
      obtain ⟨R, hR⟩ : ∃ R, Lib.trimPrefix s.data.toList Wd = R := ⟨_, rfl⟩
      obtain ⟨pf, hpf⟩ : ∃ pf, Lib.hasPrefix s.data.toList Wd = pf := ⟨_, rfl⟩
      rw [hR, hpf]
      have hRl : R.length ≤ s.size := by rw [← hR]; exact Nat.le_trans (trim_len _ _) (by simp)
      have HR := Lib.hid hR
      have HP := Lib.hid hpf
      clear hR hpf hc3
      rcases pf with _ | _
      · skip
        go_wp2_with fail
        go_roundw
        case rel => exact ⟨j + 1, by omega, by omega, by go_num, Lib.hid (noAcc_succ HN.out (fun c ha => by have := (try_hit ha).1; rw [HW.out, HP.out] at this; cases this)), b1, hT, hE, hM, res_0, res_1, res_f0, res_f1, res_l⟩
        case measure => simp [intOf]; omega
      · skip
        go_wp2_with fail
        refine (impl_TextNum (bstr R) (by rw [bstr_size]; omega) u1 hT hE).mono ?_
        rintro e u2 hrd
        obtain ⟨rfl, hb⟩ := hrd
        rw [bstr_list]
        have he2 : Eff 0 0 u1 u2 := Eff.of hb
        have hz2 : u1.heap.size ≤ u2.heap.size := he2.size
        have b2 : Below W.heap.size W u2 := b1.trans (he2.below b1.size (by omega))
        replace res_f0 := (he2.frozen res_0 (by simp only; omega)).trans res_f0
        replace res_f1 := (he2.frozen res_1 (by simp only; omega)).trans res_f1
        replace res_0 := he2.cell res_0 (by simp only; omega)
        replace res_1 := he2.cell res_1 (by simp only; omega)
        replace res_l := Nat.lt_of_lt_of_le res_l hz2
        replace hT := hT.below he2.all
        replace hE := hE.below he2.all
        replace hM := hM.below he2.all
        clear hb
        obtain ⟨z, hz⟩ : ∃ z : Int, (tNum R).getD 0 = z := ⟨_, rfl⟩
        obtain ⟨is, his⟩ : ∃ b, (tNum R).isSome = b := ⟨_, rfl⟩
        rw [hz, his]
        have hzt : tryN s.data.toList (j : Int) = z := by unfold tryN; rw [HW.out, HR.out]; exact hz
        have HZ := Lib.hid hzt
        clear hz his hzt
        have res_0P := (Eff.alloc u2 (.cells #[.int .i64 (j : Int), .int .i64 z] 24)).cell res_0 (by simp only; omega)
        have res_1P := (Eff.alloc u2 (.cells #[.int .i64 (j : Int), .int .i64 z] 24)).cell res_1 (by simp only; omega)
        go_wp2_with fail
        have he3 : Eff 0 0 u2 (u2.alloc (.cells #[.int .i64 (j : Int), .int .i64 z] 24)) := Eff.alloc _ _
        have hs3 : (u2.alloc (.cells #[.int .i64 (j : Int), .int .i64 z] 24)).heap.size = u2.heap.size + 1 := (by simp)
        have a_0 : (u2.alloc (.cells #[.int .i64 (j : Int), .int .i64 z] 24)).cell? ⟨u2.heap.size, 0, none⟩ = some (.int .i64 (j : Int)) := var_cell _ _ _ _ _ rfl
        have a_1 : (u2.alloc (.cells #[.int .i64 (j : Int), .int .i64 z] 24)).cell? ⟨u2.heap.size, 1, none⟩ = some (.int .i64 z) := var_cell _ _ _ _ _ rfl
        generalize (u2.alloc (.cells #[.int .i64 (j : Int), .int .i64 z] 24)) = u3 at *
        have hz3 : u2.heap.size ≤ u3.heap.size := he3.size
        have b3 : Below W.heap.size W u3 := b2.trans (he3.below b2.size (by omega))
        replace res_f0 := (he3.frozen res_0 (by simp only; omega)).trans res_f0
        replace res_f1 := (he3.frozen res_1 (by simp only; omega)).trans res_f1
        replace res_0 := he3.cell res_0 (by simp only; omega)
        replace res_1 := he3.cell res_1 (by simp only; omega)
        replace res_l := Nat.lt_of_lt_of_le res_l hz3
        replace hT := hT.below he3.all
        replace hE := hE.below he3.all
        replace hM := hM.below he3.all
        have a_l : u2.heap.size < u3.heap.size := (by omega)
        clear res_0P res_1P
        refine (impl_AccText (j : Int) z u3 hT hM).mono ?_
        rintro e u4 ⟨rfl, hb⟩
        have he4 : Eff 0 0 u3 u4 := Eff.of hb
        have hz4 : u3.heap.size ≤ u4.heap.size := he4.size
        have b4 : Below W.heap.size W u4 := b3.trans (he4.below b3.size (by omega))
        replace res_f0 := (he4.frozen res_0 (by simp only; omega)).trans res_f0
        replace res_f1 := (he4.frozen res_1 (by simp only; omega)).trans res_f1
        replace res_0 := he4.cell res_0 (by simp only; omega)
        replace res_1 := he4.cell res_1 (by simp only; omega)
        replace a_0 := he4.cell a_0 (by simp only; omega)
        replace a_1 := he4.cell a_1 (by simp only; omega)
        replace res_l := Nat.lt_of_lt_of_le res_l hz4
        replace a_l := Nat.lt_of_lt_of_le a_l hz4
        replace hT := hT.below he4.all
        replace hE := hE.below he4.all
        replace hM := hM.below he4.all
        clear hb
        by_cases hq : accT (j : Int) z = s.data.toList
        · skip
          have hcm := cmp_sameE hq
          have HQ := Lib.hid hq
          clear hq
          go_wp2_with fail
          have r0 : ((u4.setCell ⟨W.heap.size, 0, none⟩ (.int .i64 (j : Int))).setCell ⟨W.heap.size, 1, none⟩ (.int .i64 z)).cell? ⟨W.heap.size, 0, none⟩ = some (.int .i64 (j : Int)) := set_other (set_same res_0 _) _ (.inr (by omega))
          have r1 : ((u4.setCell ⟨W.heap.size, 0, none⟩ (.int .i64 (j : Int))).setCell ⟨W.heap.size, 1, none⟩ (.int .i64 z)).cell? ⟨W.heap.size, 1, none⟩ = some (.int .i64 z) := set_same (set_other res_1 _ (.inr (by omega))) _
          refine bodyPost_ret (v := .tuple #[.agg #[.int .i64 (j : Int), .int .i64 z], .bool true]) (by simp [results, Tryd.results15, go_sem, *]) rfl ?_
          exact rdAcc_yes (⟨accT_ok (fun h0 => by have h1 := HP.out; rw [h0] at h1; have h2 := (accW_low (k := (j : Int)) (by omega) (by omega)).1; rw [HW.out] at h2; obtain ⟨t, ht⟩ := hasPrefix_iff.1 h1; rw [eq_comm, List.append_eq_nil_iff] at ht; exact h2 ht.1) HQ.out, HQ.out⟩) ((b4.setCell (Nat.le_refl _) _).setCell (Nat.le_refl _) _)
        · skip
          have hcm := cmp_otherE hq
          have HQ := Lib.hid hq
          clear hq
          go_wp2_with fail
          go_roundw
          case rel => exact ⟨j + 1, by omega, by omega, by go_num, Lib.hid (noAcc_succ HN.out (fun c ha => by have h1 := (try_hit ha).2; rw [HZ.out] at h1; subst h1; exact HQ.out ha.2)), b4, hT, hE, hM, res_0, res_1, res_f0, res_f1, res_l⟩
          case measure => simp [intOf]; omega
    · have i2 : ¬ (j : Int) ≤ 8 := by omega
      go_wp2_with fail
      refine bodyPost_ret (v := .tuple #[.agg #[.int .i64 0, .int .i64 0], .bool false]) (by simp [results, Tryd.results15, go_sem, *]) rfl ?_
      exact rdAcc_no (noAcc_end (by omega) HN.out) ((hbW.setCell (Nat.le_refl _) _).setCell (Nat.le_refl _) _)
set_option maxHeartbeats 4000000 in
set_option maxRecDepth 100000 in
theorem spec_TextAcc (s : ByteArray) (W : World) : Calls Tryd.prog 36 #[.string s] W (RdAcc s.data.toList W) := by
  go_enter Tryd.func36, Tryd.ntmps36
  go_wp2_with fail
  have he1 : Eff 0 0 W (W.alloc (.cells #[.int .i64 0, .int .i64 0] 24)) := Eff.alloc _ _
  have hs1 : (W.alloc (.cells #[.int .i64 0, .int .i64 0] 24)).heap.size = W.heap.size + 1 := (by simp)
  have res_0 : (W.alloc (.cells #[.int .i64 0, .int .i64 0] 24)).cell? ⟨W.heap.size, 0, none⟩ = some (.int .i64 0) := var_cell _ _ _ _ _ rfl
  have res_1 : (W.alloc (.cells #[.int .i64 0, .int .i64 0] 24)).cell? ⟨W.heap.size, 1, none⟩ = some (.int .i64 0) := var_cell _ _ _ _ _ rfl
  have res_f0 : (W.alloc (.cells #[.int .i64 0, .int .i64 0] 24)).frozen? ⟨W.heap.size, 0, none⟩ = false := var_frozen _ _ _ _
  have res_f1 : (W.alloc (.cells #[.int .i64 0, .int .i64 0] 24)).frozen? ⟨W.heap.size, 1, none⟩ = false := var_frozen _ _ _ _
  generalize (W.alloc (.cells #[.int .i64 0, .int .i64 0] 24)) = w1 at *
  have hz1 : W.heap.size ≤ w1.heap.size := he1.size
  have b1 : Below W.heap.size W w1 := he1.below (Nat.le_refl _) (by omega)
  have res_l : W.heap.size < w1.heap.size := (by omega)
  go_wp2
  go_loopw [4] (fun vi wr => ∃ j : Nat, 1 ≤ j ∧ j ≤ 9 ∧ vi = .int .i64 (j : Int) ∧ Hid (noAcc s.data.toList j) ∧ Below W.heap.size W wr ∧ wr.cell? ⟨W.heap.size, 0, none⟩ = some (.int .i64 0) ∧ wr.cell? ⟨W.heap.size, 1, none⟩ = some (.int .i64 0) ∧ wr.frozen? ⟨W.heap.size, 0, none⟩ = false ∧ wr.frozen? ⟨W.heap.size, 1, none⟩ = false ∧ W.heap.size < wr.heap.size) (fun vi _ => 9 - (intOf vi).toNat)
  case atStart => exact ⟨1, Nat.le_refl _, by omega, rfl, Lib.hid (noAcc_one _), b1, res_0, res_1, res_f0, res_f1, res_l⟩
  case round =>
  
    obtain ⟨j, hj1, hj9, rfl, HN, hbW, res_0, res_1, res_f0, res_f1, res_l⟩ := hrel
    by_cases hlt : j ≤ 8
    · have i2 : (j : Int) ≤ 8 := by omega
      go_wp2
      obtain ⟨w0, rfl⟩ : ∃ x : World, x = wr := ⟨_, rfl⟩
      go_loopw [5] (fun vi wr => ∃ i : Nat, i ≤ 100 ∧ vi = .int .i64 (i : Int) ∧ Hid (noCh s.data.toList j i) ∧ Below W.heap.size W wr ∧ wr.cell? ⟨W.heap.size, 0, none⟩ = some (.int .i64 0) ∧ wr.cell? ⟨W.heap.size, 1, none⟩ = some (.int .i64 0) ∧ wr.frozen? ⟨W.heap.size, 0, none⟩ = false ∧ wr.frozen? ⟨W.heap.size, 1, none⟩ = false ∧ W.heap.size < wr.heap.size) (fun vi _ => 100 - (intOf vi).toNat)
      case atStart => exact ⟨0, by omega, rfl, Lib.hid (noCh_zero _ _), hbW, res_0, res_1, res_f0, res_f1, res_l⟩
      case round =>
        clear hbW res_0 res_1 res_f0 res_f1 res_l
        obtain ⟨i, hi9, rfl, HC, hbW, res_0, res_1, res_f0, res_f1, res_l⟩ := hrel
        by_cases hli : i ≤ 99
        · skip
          have i3 : (i : Int) ≤ 99 := by omega
          rcases hok : accOk (j : Int) (i : Int) with _ | _
          · skip
            have HOK := Lib.hid hok
            clear hok
            have res_0P := (Eff.alloc wr (.cells #[.int .i64 (j : Int), .int .i64 (i : Int)] 24)).cell res_0 (by simp only; omega)
            have res_1P := (Eff.alloc wr (.cells #[.int .i64 (j : Int), .int .i64 (i : Int)] 24)).cell res_1 (by simp only; omega)
            go_wp2_with fail
            have he1 : Eff 0 0 wr (wr.alloc (.cells #[.int .i64 (j : Int), .int .i64 (i : Int)] 24)) := Eff.alloc _ _
            have hs1 : (wr.alloc (.cells #[.int .i64 (j : Int), .int .i64 (i : Int)] 24)).heap.size = wr.heap.size + 1 := (by simp)
            have a_0 : (wr.alloc (.cells #[.int .i64 (j : Int), .int .i64 (i : Int)] 24)).cell? ⟨wr.heap.size, 0, none⟩ = some (.int .i64 (j : Int)) := var_cell _ _ _ _ _ rfl
            have a_1 : (wr.alloc (.cells #[.int .i64 (j : Int), .int .i64 (i : Int)] 24)).cell? ⟨wr.heap.size, 1, none⟩ = some (.int .i64 (i : Int)) := var_cell _ _ _ _ _ rfl
            generalize (wr.alloc (.cells #[.int .i64 (j : Int), .int .i64 (i : Int)] 24)) = u1 at *
            have hz1 : wr.heap.size ≤ u1.heap.size := he1.size
            have b1 : Below W.heap.size W u1 := hbW.trans (he1.below hbW.size (by omega))
            replace res_f0 := (he1.frozen res_0 (by simp only; omega)).trans res_f0
            replace res_f1 := (he1.frozen res_1 (by simp only; omega)).trans res_f1
            replace res_0 := he1.cell res_0 (by simp only; omega)
            replace res_1 := he1.cell res_1 (by simp only; omega)
            replace res_l := Nat.lt_of_lt_of_le res_l hz1
            have a_l : wr.heap.size < u1.heap.size := (by omega)
            clear res_0P res_1P
            refine (spec_AccOk (j : Int) (i : Int) u1).mono ?_
            rintro e u2 ⟨rfl, hb⟩
            have he2 : Eff 0 0 u1 u2 := Eff.of hb
            have hz2 : u1.heap.size ≤ u2.heap.size := he2.size
            have b2 : Below W.heap.size W u2 := b1.trans (he2.below b1.size (by omega))
            replace res_f0 := (he2.frozen res_0 (by simp only; omega)).trans res_f0
            replace res_f1 := (he2.frozen res_1 (by simp only; omega)).trans res_f1
            replace res_0 := he2.cell res_0 (by simp only; omega)
            replace res_1 := he2.cell res_1 (by simp only; omega)
            replace a_0 := he2.cell a_0 (by simp only; omega)
            replace a_1 := he2.cell a_1 (by simp only; omega)
            replace res_l := Nat.lt_of_lt_of_le res_l hz2
            replace a_l := Nat.lt_of_lt_of_le a_l hz2
            clear hb
            rw [HOK.out]
            go_wp2_with fail
            go_roundw
            case rel => exact ⟨i + 1, by omega, by go_num, Lib.hid (noCh_succ HC.out (fun ha => by have := ha.1; rw [HOK.out] at this; cases this)), b2, res_0, res_1, res_f0, res_f1, res_l⟩
            case measure => simp [intOf]; omega
          · skip
            have HOK := Lib.hid hok
            clear hok
            have res_0P := (Eff.alloc wr (.cells #[.int .i64 (j : Int), .int .i64 (i : Int)] 24)).cell res_0 (by simp only; omega)
            have res_1P := (Eff.alloc wr (.cells #[.int .i64 (j : Int), .int .i64 (i : Int)] 24)).cell res_1 (by simp only; omega)
            go_wp2_with fail
            have he1 : Eff 0 0 wr (wr.alloc (.cells #[.int .i64 (j : Int), .int .i64 (i : Int)] 24)) := Eff.alloc _ _
            have hs1 : (wr.alloc (.cells #[.int .i64 (j : Int), .int .i64 (i : Int)] 24)).heap.size = wr.heap.size + 1 := (by simp)
            have a_0 : (wr.alloc (.cells #[.int .i64 (j : Int), .int .i64 (i : Int)] 24)).cell? ⟨wr.heap.size, 0, none⟩ = some (.int .i64 (j : Int)) := var_cell _ _ _ _ _ rfl
            have a_1 : (wr.alloc (.cells #[.int .i64 (j : Int), .int .i64 (i : Int)] 24)).cell? ⟨wr.heap.size, 1, none⟩ = some (.int .i64 (i : Int)) := var_cell _ _ _ _ _ rfl
            generalize (wr.alloc (.cells #[.int .i64 (j : Int), .int .i64 (i : Int)] 24)) = u1 at *
            have hz1 : wr.heap.size ≤ u1.heap.size := he1.size
            have b1 : Below W.heap.size W u1 := hbW.trans (he1.below hbW.size (by omega))
            replace res_f0 := (he1.frozen res_0 (by simp only; omega)).trans res_f0
            replace res_f1 := (he1.frozen res_1 (by simp only; omega)).trans res_f1
            replace res_0 := he1.cell res_0 (by simp only; omega)
            replace res_1 := he1.cell res_1 (by simp only; omega)
            replace res_l := Nat.lt_of_lt_of_le res_l hz1
            have a_l : wr.heap.size < u1.heap.size := (by omega)
            clear res_0P res_1P
            refine (spec_AccOk (j : Int) (i : Int) u1).mono ?_
            rintro e u2 ⟨rfl, hb⟩
            have he2 : Eff 0 0 u1 u2 := Eff.of hb
            have hz2 : u1.heap.size ≤ u2.heap.size := he2.size
            have b2 : Below W.heap.size W u2 := b1.trans (he2.below b1.size (by omega))
            replace res_f0 := (he2.frozen res_0 (by simp only; omega)).trans res_f0
            replace res_f1 := (he2.frozen res_1 (by simp only; omega)).trans res_f1
            replace res_0 := he2.cell res_0 (by simp only; omega)
            replace res_1 := he2.cell res_1 (by simp only; omega)
            replace a_0 := he2.cell a_0 (by simp only; omega)
            replace a_1 := he2.cell a_1 (by simp only; omega)
            replace res_l := Nat.lt_of_lt_of_le res_l hz2
            replace a_l := Nat.lt_of_lt_of_le a_l hz2
            clear hb
            rw [HOK.out]
            go_wp2_with fail
            refine (spec_AccText (j : Int) (i : Int) u2).mono ?_
            rintro e u3 ⟨rfl, hb⟩
            have he3 : Eff 0 0 u2 u3 := Eff.of hb
            have hz3 : u2.heap.size ≤ u3.heap.size := he3.size
            have b3 : Below W.heap.size W u3 := b2.trans (he3.below b2.size (by omega))
            replace res_f0 := (he3.frozen res_0 (by simp only; omega)).trans res_f0
            replace res_f1 := (he3.frozen res_1 (by simp only; omega)).trans res_f1
            replace res_0 := he3.cell res_0 (by simp only; omega)
            replace res_1 := he3.cell res_1 (by simp only; omega)
            replace a_0 := he3.cell a_0 (by simp only; omega)
            replace a_1 := he3.cell a_1 (by simp only; omega)
            replace res_l := Nat.lt_of_lt_of_le res_l hz3
            replace a_l := Nat.lt_of_lt_of_le a_l hz3
            clear hb
            by_cases hq : accT (j : Int) (i : Int) = s.data.toList
            · skip
              have hcm := cmp_sameE hq
              have HQ := Lib.hid hq
              clear hq
              go_wp2_with fail
              have r0 : ((u3.setCell ⟨W.heap.size, 0, none⟩ (.int .i64 (j : Int))).setCell ⟨W.heap.size, 1, none⟩ (.int .i64 (i : Int))).cell? ⟨W.heap.size, 0, none⟩ = some (.int .i64 (j : Int)) := set_other (set_same res_0 _) _ (.inr (by omega))
              have r1 : ((u3.setCell ⟨W.heap.size, 0, none⟩ (.int .i64 (j : Int))).setCell ⟨W.heap.size, 1, none⟩ (.int .i64 (i : Int))).cell? ⟨W.heap.size, 1, none⟩ = some (.int .i64 (i : Int)) := set_same (set_other res_1 _ (.inr (by omega))) _
              refine bodyPost_ret (v := .tuple #[.agg #[.int .i64 (j : Int), .int .i64 (i : Int)], .bool true]) (by simp [results, Tryd.results36, go_sem, *]) rfl ?_
              exact rdAcc_yes (⟨HOK.out, HQ.out⟩) ((b3.setCell (Nat.le_refl _) _).setCell (Nat.le_refl _) _)
            · skip
              have hcm := cmp_otherE hq
              have HQ := Lib.hid hq
              clear hq
              go_wp2_with fail
              go_roundw
              case rel => exact ⟨i + 1, by omega, by go_num, Lib.hid (noCh_succ HC.out (fun ha => HQ.out ha.2)), b3, res_0, res_1, res_f0, res_f1, res_l⟩
              case measure => simp [intOf]; omega
        · have i3 : ¬ (i : Int) ≤ 99 := by omega
          go_wp2_with fail
          go_roundw
          case rel => exact ⟨j + 1, by omega, by omega, by go_num, Lib.hid (noAcc_succ HN.out (noCh_end (by omega) HC.out)), hbW, res_0, res_1, res_f0, res_f1, res_l⟩
          case measure => simp [intOf]; omega
    · have i2 : ¬ (j : Int) ≤ 8 := by omega
      go_wp2_with fail
      refine bodyPost_ret (v := .tuple #[.agg #[.int .i64 0, .int .i64 0], .bool false]) (by simp [results, Tryd.results36, go_sem, *]) rfl ?_
      exact rdAcc_no (noAcc_end (by omega) HN.out) ((hbW.setCell (Nat.le_refl _) _).setCell (Nat.le_refl _) _)
end Go.Proofs.YtnjdmmdbminmoaaDoor
