/- l04Parts: the pieces of a text between blanks. -/
import Derived.Test.YtnjdmmdbminmoaaDoorTes0
import Derived.IntWalk
namespace Go.Proofs.YtnjdmmdbminmoaaDoor
open Go.RowKit
theorem extract_bstr (s : ByteArray) (f k : Nat) : s.extract f k = bstr ((s.data.toList.drop f).take (k - f)) := ByteArray.extract_mk s.data.toList f k
theorem get_list (s : ByteArray) (k : Nat) (h : k < s.size) : s.data.toList[k]? = some (s[k]'h) := by
  rw [List.getElem?_eq_getElem (by simpa using h)]
  simp [ByteArray.getElem_eq_getElem_data]
/-- The pieces, in a row of the call's own. -/
def PartsPost (l : List UInt8) (w : World) (e : Ending) (w' : World) : Prop :=
  ∃ A N c, (parts l).length = N ∧ e = .returned (.slice A N c) ∧ Own 9 1 w' w.heap.size w'.heap.size A N c (strs (parts l)) ∧ Below w.heap.size w w'
set_option maxHeartbeats 4000000 in
set_option maxRecDepth 100000 in
theorem l04Parts_any (s : ByteArray) (hs : s.size ≤ 1048576) (W : World) : Calls Tryd.prog 43 #[.string s, .int .u8 32] W (PartsPost s.data.toList W) := by
  obtain ⟨i0, hi0, hj0, hj1, hj2⟩ := info_partsE info_str
  go_enter Tryd.func43, Tryd.ntmps43
  go_wp2_with fail
  go_loopw [5, 6, 7] (fun vo vf vi wr => ∃ (k f n c : Nat) (A : Option Addr) (o : List (List UInt8)), k ≤ s.size ∧ f ≤ k ∧ n ≤ k ∧ vi = .int .i64 (k : Int) ∧ vf = .int .i64 (f : Int) ∧ vo = .slice A n c ∧ Hid (cutAt s.data.toList o f k) ∧ Own 9 1 wr W.heap.size wr.heap.size A n c (strs o) ∧ Below W.heap.size W wr) (fun _ _ vi _ => s.size - (intOf vi).toNat)
  case atStart => exact ⟨0, 0, 0, 0, _, [], by omega, by omega, by omega, rfl, rfl, rfl, Lib.hid (cutAt_start _), Own.wide (new_empty W 9 1) (Nat.le_refl _) (by simp) (Nat.le_refl _), (Below.refl _ _).alloc (Nat.le_refl _) _⟩
  case round =>
    obtain ⟨k, f, n, c, A, o, hk, hf, hn, rfl, rfl, rfl, HC, ho, hb⟩ := hrel
    have hzb := hb.size
    by_cases hlt : k < s.size
    · have i1 : (0 : Int) ≤ (k : Int) := by omega
      have i2 : (k : Int) < (s.size : Int) := by omega
      have f1 : (0 : Int) ≤ (f : Int) := by omega
      have f2 : (f : Int) ≤ (k : Int) := by omega
      have f3 : (k : Int) ≤ (s.size : Int) := by omega
      have hg := Lib.hid (get_list s k hlt)
      by_cases h32 : s[k] = 32
      · have HC2 := Lib.hid (cutAt_cut HC.out (by rw [hg.out, h32]))
        have hx : s.extract f k = bstr ((s.data.toList.drop f).take (k - f)) := extract_bstr s f k
        obtain ⟨X, hX⟩ : ∃ X, (s.data.toList.drop f).take (k - f) = X := ⟨_, rfl⟩
        rw [hX] at hx HC2
        clear hX
        go_wp2_with (at_builtin; refine wpList_app _ rfl _ _ 61 rfl 9 i0 (.string ByteArray.empty) 1 16 Tryd.underlying61 hi0 hj0 hj1 hj2 rfl (by omega) rfl (Own.alloc ho _) 1 rfl (rd_new1 _ (.string (bstr X)) _) (one_str X) (by unfold maxLen; omega) (by omega) (by first | (simp; done) | (simp; omega)) ?_; intro A4 c4 w4 hO hE _)
        go_roundw
        case rel =>
          rw [strs_snoc] at hO
          exact ⟨k + 1, k + 1, n + 1, c4, A4, _, by omega, by omega, by omega, by go_num, by go_num, rfl, HC2, hO, (hb.alloc hzb _).trans (hE.below (by simp; omega) (.inl (Nat.le_refl _)))⟩
        case measure => simp [intOf]; omega
      · have HC2 := Lib.hid (cutAt_step HC.out hg.out h32)
        have hne : ¬ ((s[k].toNat : Int) = 32) := fun e => h32 (by apply UInt8.toNat_inj.1; show s[k].toNat = 32; omega)
        clear h32
        go_wp2_with fail
        go_roundw
        case rel => exact ⟨k + 1, f, n, c, A, o, by omega, by omega, by omega, by go_num, rfl, rfl, HC2, ho, hb⟩
        case measure => simp [intOf]; omega
    · obtain rfl : k = s.size := by omega
      have hx : s.extract f s.size = bstr (s.data.toList.drop f) := by rw [extract_bstr, List.take_of_length_le (by simp)]
      have hp : parts s.data.toList = o ++ [s.data.toList.drop f] := cutAt_end (by have := HC.out; simpa using this)
      have HP := Lib.hid hp
      obtain ⟨X, hX⟩ : ∃ X, s.data.toList.drop f = X := ⟨_, rfl⟩
      rw [hX] at hx HP
      have i2 : ¬ (s.size : Int) < (s.size : Int) := by omega
      have f1 : (0 : Int) ≤ (f : Int) := by omega
      have f2 : (f : Int) ≤ (s.size : Int) := by omega
      clear hX hp
      go_wp2_with (at_builtin; refine wpList_app _ rfl _ _ 61 rfl 9 i0 (.string ByteArray.empty) 1 16 Tryd.underlying61 hi0 hj0 hj1 hj2 rfl (by omega) rfl (Own.alloc ho _) 1 rfl (rd_new1 _ (.string (bstr X)) _) (one_str X) (by unfold maxLen; omega) (by omega) (by first | (simp; done) | (simp; omega)) ?_; intro A4 c4 w4 hO hE _)
      go_ret
      rw [strs_snoc, ← HP.out] at hO
      exact ⟨A4, n + 1, c4, by have := Own.len hO; simp [strs] at this; omega, rfl, hO, (hb.alloc hzb _).trans (hE.below (by simp; omega) (.inl (Nat.le_refl _)))⟩
end Go.Proofs.YtnjdmmdbminmoaaDoor
