/- TextEvent of the reference: what it reads, in plain Lean; l04Parts: the pieces of a text between blanks. -/
import Derived.Test.YtnjdmmdbminmoaaDoorTe0
import Derived.Test.YtnjdmmdbminmoaaDoorEts
import Derived.IntWalk
namespace Go.Proofs.YtnjdmmdbminmoaaDoor
open Go.RowKit
/-- How many of the first i fields a kind has. -/
def cntH (k : Int) : Nat → Nat
  | 0 => 0
  | i + 1 => cntH k i + (if hasB k i then 1 else 0)
/-- What is read as field i. -/
def vAt (ps : List (List UInt8)) (k : Int) (i : Nat) : Int := if hasB k i then rdPc ps (1 + cntH k i) else 0
theorem vAt_rd (ps : List (List UInt8)) {k : Int} (h0 : 0 ≤ k) (h11 : k ≤ 11) : vAt ps k 0 = rdKey ps k ∧ vAt ps k 1 = rdCh ps k ∧ vAt ps k 2 = rdTo ps k ∧ vAt ps k 3 = rdAmt ps k ∧ vAt ps k 4 = rdFee ps k := by
  have hc : k = 0 ∨ k = 1 ∨ k = 2 ∨ k = 3 ∨ k = 4 ∨ k = 5 ∨ k = 6 ∨ k = 7 ∨ k = 8 ∨ k = 9 ∨ k = 10 ∨ k = 11 := by omega
  rcases hc with rfl | rfl | rfl | rfl | rfl | rfl | rfl | rfl | rfl | rfl | rfl | rfl <;>
    simp [vAt, cntH, hasB, evH, rdKey, rdCh, rdTo, rdAmt, rdFee]
theorem rdP_out {ps : List (List UInt8)} {j : Nat} (h : ps.length ≤ j) : rdPc ps j = 0 := by
  unfold rdPc; rw [List.getElem?_eq_none h]
/-- The last word tells the bool, whatever the kind. -/
theorem last_yes {k key ch to amt fee : Int} {y : Bool} (h : evOk k key ch to amt fee y = true) : ((evL k key ch to amt fee y).getLast? == some yesW) = y := by
  have hk := ok_kind h
  obtain ⟨k1, k2⟩ := hk
  simp only [evOk, evOkL, Bool.and_eq_true] at h
  obtain ⟨⟨⟨⟨⟨⟨⟨-, h1⟩, h2⟩, h3⟩, h4⟩, h5⟩, h6⟩, h7⟩ := h
  have hn := nTx_no_yes
  rcases ev_cases k1 k2 with rfl | rfl | rfl | rfl | rfl | rfl | rfl | rfl | rfl | rfl | rfl
  all_goals
    simp [evH, fld, inB] at h1 h2 h3 h4 h5 h6 h7
    simp only [evL, evNums, ynL]
    first | (cases y <;> simp [yesW, noW]; done) | (subst h7; simp [hn]; done) | (subst h7; simp [evW, evWs, yesW]; done) | (cases y <;> simp_all [evW, evWs, yesW]; done)
theorem isEvt_last {l : List UInt8} {k key ch to amt fee : Int} {y : Bool} (h : isEvt l k key ch to amt fee y) : ((parts l).getLast? == some yesW) = y := by
  obtain ⟨h1, rfl⟩ := h
  rw [parts_evT h1]
  exact last_yes h1
theorem isEvt_one {l : List UInt8} {k key ch to amt fee k' key' ch' to' amt' fee' : Int} {y y' : Bool} (h : isEvt l k key ch to amt fee y) (h' : isEvt l k' key' ch' to' amt' fee' y') :
    k' = k ∧ key' = key ∧ ch' = ch ∧ to' = to ∧ amt' = amt ∧ fee' = fee ∧ y' = y := by
  obtain ⟨a1, a2, a3, a4, a5, a6, a7⟩ := isEvt_read h
  obtain ⟨b1, b2, b3, b4, b5, b6, b7⟩ := isEvt_read h'
  have hk : k' = k := b1.symm.trans a1
  subst hk
  exact ⟨rfl, b2.symm.trans a2, b3.symm.trans a3, b4.symm.trans a4, b5.symm.trans a5, b6.symm.trans a6, b7.symm.trans a7⟩
theorem extract_bstr (s : ByteArray) (f k : Nat) : s.extract f k = bstr ((s.data.toList.drop f).take (k - f)) := ByteArray.extract_mk s.data.toList f k
theorem get_list (s : ByteArray) (k : Nat) (h : k < s.size) : s.data.toList[k]? = some (s[k]'h) := by
  rw [List.getElem?_eq_getElem (by simpa using h)]
  simp [ByteArray.getElem_eq_getElem_data]
/-- The pieces, in a row of the call's own. -/
def PartsPost (l : List UInt8) (w : World) (e : Ending) (w' : World) : Prop :=
  ∃ A N c, (parts l).length = N ∧ e = .returned (.slice A N c) ∧ Own 9 1 w' w.heap.size w'.heap.size A N c (strs (parts l)) ∧ Below w.heap.size w w'
set_option maxHeartbeats 4000000 in
set_option maxRecDepth 100000 in
theorem l04Parts_any (s : ByteArray) (hs : s.size ≤ 1048576) (W : World) : Calls Tryd.prog 43 #[.string s, .int .u8 32] W (PartsPost s.data.toList W) := by
  obtain ⟨i0, hi0, hj0, hj1, hj2⟩ := info_partsE info_str
  go_enter Tryd.func43, Tryd.ntmps43
  go_wp2_with fail
  go_loopw [5, 6, 7] (fun vo vf vi wr => ∃ (k f n c : Nat) (A : Option Addr) (o : List (List UInt8)), k ≤ s.size ∧ f ≤ k ∧ n ≤ k ∧ vi = .int .i64 (k : Int) ∧ vf = .int .i64 (f : Int) ∧ vo = .slice A n c ∧ Hid (cutAt s.data.toList o f k) ∧ Own 9 1 wr W.heap.size wr.heap.size A n c (strs o) ∧ Below W.heap.size W wr) (fun _ _ vi _ => s.size - (intOf vi).toNat)
  case atStart => exact ⟨0, 0, 0, 0, _, [], by omega, by omega, by omega, rfl, rfl, rfl, Lib.hid (cutAt_start _), Own.wide (new_empty W 9 1) (Nat.le_refl _) (by simp) (Nat.le_refl _), (Below.refl _ _).alloc (Nat.le_refl _) _⟩
  case round =>
    obtain ⟨k, f, n, c, A, o, hk, hf, hn, rfl, rfl, rfl, HC, ho, hb⟩ := hrel
    have hzb := hb.size
    by_cases hlt : k < s.size
    · have i1 : (0 : Int) ≤ (k : Int) := by omega
      have i2 : (k : Int) < (s.size : Int) := by omega
      have f1 : (0 : Int) ≤ (f : Int) := by omega
      have f2 : (f : Int) ≤ (k : Int) := by omega
      have f3 : (k : Int) ≤ (s.size : Int) := by omega
      have hg := Lib.hid (get_list s k hlt)
      by_cases h32 : s[k] = 32
      · have HC2 := Lib.hid (cutAt_cut HC.out (by rw [hg.out, h32]))
        have hx : s.extract f k = bstr ((s.data.toList.drop f).take (k - f)) := extract_bstr s f k
        obtain ⟨X, hX⟩ : ∃ X, (s.data.toList.drop f).take (k - f) = X := ⟨_, rfl⟩
        rw [hX] at hx HC2
        clear hX
        go_wp2_with (at_builtin; refine wpList_app _ rfl _ _ 61 rfl 9 i0 (.string ByteArray.empty) 1 16 Tryd.underlying61 hi0 hj0 hj1 hj2 rfl (by omega) rfl (Own.alloc ho _) 1 rfl (rd_new1 _ (.string (bstr X)) _) (one_str X) (by unfold maxLen; omega) (by omega) (by first | (simp; done) | (simp; omega)) ?_; intro A4 c4 w4 hO hE _)
        go_roundw
        case rel =>
          rw [strs_snoc] at hO
          exact ⟨k + 1, k + 1, n + 1, c4, A4, _, by omega, by omega, by omega, by go_num, by go_num, rfl, HC2, hO, (hb.alloc hzb _).trans (hE.below (by simp; omega) (.inl (Nat.le_refl _)))⟩
        case measure => simp [intOf]; omega
      · have HC2 := Lib.hid (cutAt_step HC.out hg.out h32)
        have hne : ¬ ((s[k].toNat : Int) = 32) := fun e => h32 (by apply UInt8.toNat_inj.1; show s[k].toNat = 32; omega)
        clear h32
        go_wp2_with fail
        go_roundw
        case rel => exact ⟨k + 1, f, n, c, A, o, by omega, by omega, by omega, by go_num, rfl, rfl, HC2, ho, hb⟩
        case measure => simp [intOf]; omega
    · obtain rfl : k = s.size := by omega
      have hx : s.extract f s.size = bstr (s.data.toList.drop f) := by rw [extract_bstr, List.take_of_length_le (by simp)]
      have hp : parts s.data.toList = o ++ [s.data.toList.drop f] := cutAt_end (by have := HC.out; simpa using this)
      have HP := Lib.hid hp
      obtain ⟨X, hX⟩ : ∃ X, s.data.toList.drop f = X := ⟨_, rfl⟩
      rw [hX] at hx HP
      have i2 : ¬ (s.size : Int) < (s.size : Int) := by omega
      have f1 : (0 : Int) ≤ (f : Int) := by omega
      have f2 : (f : Int) ≤ (s.size : Int) := by omega
      clear hX hp
      go_wp2_with (at_builtin; refine wpList_app _ rfl _ _ 61 rfl 9 i0 (.string ByteArray.empty) 1 16 Tryd.underlying61 hi0 hj0 hj1 hj2 rfl (by omega) rfl (Own.alloc ho _) 1 rfl (rd_new1 _ (.string (bstr X)) _) (one_str X) (by unfold maxLen; omega) (by omega) (by first | (simp; done) | (simp; omega)) ?_; intro A4 c4 w4 hO hE _)
      go_ret
      rw [strs_snoc, ← HP.out] at hO
      exact ⟨A4, n + 1, c4, by have := Own.len hO; simp [strs] at this; omega, rfl, hO, (hb.alloc hzb _).trans (hE.below (by simp; omega) (.inl (Nat.le_refl _)))⟩
end Go.Proofs.YtnjdmmdbminmoaaDoor
