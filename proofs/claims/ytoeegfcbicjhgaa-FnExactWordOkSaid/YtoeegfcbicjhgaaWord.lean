/- WordOk, program and reference: both are one Lean function of the bytes; and the law's walk. -/
import Derived.Test.YtoeegfcbicjhgaaAmt1
namespace Go.Proofs.Ytoeegfcbicjhgaa
open Go.RowKit

def lowB (c : UInt8) : Bool := decide (97 ≤ (c.toNat : Int) ∧ (c.toNat : Int) ≤ 122)
def wordOk (l : List UInt8) : Bool := inB l.length 1 8 && l.all lowB

theorem take_snoc' (s : ByteArray) (k : Nat) (h : k < s.size) : s.data.toList.take (k + 1) = s.data.toList.take k ++ [s[k]] := by
  rw [List.take_succ_eq_append_getElem (by simpa using h)]; rfl
theorem all_snoc (p : UInt8 → Bool) (s : ByteArray) (k : Nat) (h : k < s.size) (ha : (s.data.toList.take k).all p = true) (hc : p s[k] = true) : (s.data.toList.take (k + 1)).all p = true := by
  rw [take_snoc' s k h, List.all_append, ha]; simp [hc]
theorem all_not (p : UInt8 → Bool) (s : ByteArray) (k : Nat) (h : k < s.size) (hc : p s[k] = false) : s.data.toList.all p = false := by
  rw [List.all_eq_false]
  exact ⟨s[k], Array.mem_toList_iff.2 (Array.getElem_mem (xs := s.data) h), by simp [hc]⟩
theorem all_end (p : UInt8 → Bool) (s : ByteArray) (k : Nat) (h : s.size ≤ k) (ha : (s.data.toList.take k).all p = true) : s.data.toList.all p = true := by
  rwa [List.take_of_length_le (by simpa using h)] at ha

theorem size_eq_length (s : ByteArray) : s.data.toList.length = s.size := by simp
theorem ret_bool {a b : Bool} (h : a = b) : Ending.returned (.bool a) = .returned (.bool b) := by rw [h]

theorem impl_WordOk (s : ByteArray) (hs : s.size ≤ maxLen) (w : World) :
    Calls Try.prog 20 #[.string s] w fun e w' => e = .returned (.bool (wordOk s.data.toList)) ∧ w = w' := by
  unfold maxLen at hs
  rcases h8 : inB s.size 1 8 with _ | _
  · have hr : wordOk s.data.toList = false := by simp [wordOk, h8]
    rw [hr]
    clear hr
    go_enter Try.func20, Try.ntmps20
    go_wp2_with (go_at_call 36; refine (in_any _ _ _ _).mono ?_; rintro e w' ⟨rfl, rfl⟩)
    go_ret
    exact ⟨rfl, rfl⟩
  · obtain ⟨r, hr⟩ : ∃ r, wordOk s.data.toList = r := ⟨_, rfl⟩
    have hr0 : s.data.toList.all lowB = r := by rw [← hr]; simp [wordOk, h8]
    rw [hr]
    clear hr
    have HR := Lib.hid hr0
    clear hr0
    go_enter Try.func20, Try.ntmps20
    go_wp2_with (go_at_call 36; refine (in_any _ _ _ _).mono ?_; rintro e w' ⟨rfl, rfl⟩)
    go_loop [3] (fun i => ∃ k : Nat, k ≤ s.size ∧ i = .int .i64 k ∧ (s.data.toList.take k).all lowB = true) (fun i => s.size - (intOf i).toNat)
    case atStart => exact ⟨0, Nat.zero_le _, rfl, by simp⟩
    case round =>
      obtain ⟨k, hk, rfl, ha⟩ := hrel
      have HA := Lib.hid ha
      clear ha
      by_cases hlt : k < s.size
      · by_cases h1 : (s[k].toNat : Int) < 97
        · have hb : lowB s[k] = false := by simp [lowB]; omega
          have HB := Lib.hid hb
          clear hb
          go_wp2
          go_ret
          exact ⟨ret_bool (by rw [← HR.out, all_not _ s k hlt HB.out]), rfl⟩
        · by_cases h2 : 122 < (s[k].toNat : Int)
          · have hb : lowB s[k] = false := by simp [lowB]; omega
            have HB := Lib.hid hb
            clear hb
            have h1' : 97 ≤ (s[k].toNat : Int) := by omega
            clear h1
            go_wp2
            go_ret
            exact ⟨ret_bool (by rw [← HR.out, all_not _ s k hlt HB.out]), rfl⟩
          · have hb : lowB s[k] = true := by simp [lowB]; omega
            have HB := Lib.hid hb
            clear hb
            have h1' : 97 ≤ (s[k].toNat : Int) := by omega
            have h2' : (s[k].toNat : Int) ≤ 122 := by omega
            clear h1 h2
            go_wp2
            go_round
            case rel => exact ⟨k + 1, by omega, by go_num, all_snoc _ s k hlt HA.out HB.out⟩
            case measure => simp [intOf]; omega
      · have hge : s.size ≤ k := by omega
        have hr1 : true = r := by rw [← HR.out, all_end _ s k hge HA.out]
        have HR1 := Lib.hid hr1
        clear hr1
        go_wp2
        go_ret
        exact ⟨ret_bool HR1.out, rfl⟩

theorem spec_WordOk (s : ByteArray) (hs : s.size ≤ maxLen) (w : World) :
    Calls Try.prog 19 #[.string s] w fun e w' => e = .returned (.bool (wordOk s.data.toList)) ∧ w = w' := by
  unfold maxLen at hs
  obtain ⟨r, hr⟩ : ∃ r, wordOk s.data.toList = r := ⟨_, rfl⟩
  have HR := Lib.hid hr
  rw [hr]
  clear hr
  go_enter Try.func19, Try.ntmps19
  go_wp2
  go_loop [3] (fun i => ∃ k : Nat, k ≤ s.size ∧ i = .int .i64 k ∧ (s.data.toList.take k).all lowB = true) (fun i => s.size - (intOf i).toNat)
  case atStart => exact ⟨0, Nat.zero_le _, rfl, by simp⟩
  case round =>
    obtain ⟨k, hk, rfl, ha⟩ := hrel
    have HA := Lib.hid ha
    clear ha
    by_cases hlt : k < s.size
    · by_cases h1 : (s[k].toNat : Int) < 97
      · have hb : lowB s[k] = false := by simp [lowB]; omega
        have HB := Lib.hid hb
        clear hb
        go_wp2
        go_ret
        exact ⟨ret_bool (by rw [← HR.out, wordOk, all_not _ s k hlt HB.out, Bool.and_false]), rfl⟩
      · by_cases h2 : 122 < (s[k].toNat : Int)
        · have hb : lowB s[k] = false := by simp [lowB]; omega
          have HB := Lib.hid hb
          clear hb
          have h1' : 97 ≤ (s[k].toNat : Int) := by omega
          clear h1
          go_wp2
          go_ret
          exact ⟨ret_bool (by rw [← HR.out, wordOk, all_not _ s k hlt HB.out, Bool.and_false]), rfl⟩
        · have hb : lowB s[k] = true := by simp [lowB]; omega
          have HB := Lib.hid hb
          clear hb
          have h1' : 97 ≤ (s[k].toNat : Int) := by omega
          have h2' : (s[k].toNat : Int) ≤ 122 := by omega
          clear h1 h2
          go_wp2
          go_round
          case rel => exact ⟨k + 1, by omega, by go_num, all_snoc _ s k hlt HA.out HB.out⟩
          case measure => simp [intOf]; omega
    · have hge : s.size ≤ k := by omega
      have hr1 : inB s.size 1 8 = r := by rw [← HR.out, wordOk, all_end _ s k hge HA.out, Bool.and_true, size_eq_length]
      have HR1 := Lib.hid hr1
      clear hr1 hlt
      by_cases g1 : 1 ≤ s.size
      · by_cases g2 : s.size ≤ 8
        · go_wp2
          go_ret
          exact ⟨ret_bool (by rw [← HR1.out, inB_true (by omega) (by omega)]; simp; omega), rfl⟩
        · have g2' : 8 < s.size := by omega
          clear g2
          go_wp2
          go_ret
          exact ⟨ret_bool (by rw [← HR1.out, inB_false (by omega)]; simp; omega), rfl⟩
      · have g1' : s.size < 1 := by omega
        clear g1
        go_wp2
        go_ret
        exact ⟨ret_bool (by rw [← HR1.out, inB_false (by omega)]), rfl⟩

theorem walk_FnExactWordOk (s : ByteArray) (hs : s.size ≤ maxLen) (W : World) : Calls Try.prog 6 #[.string s] W fun e w' => e = .returned (.bool true) ∧ Below W.heap.size W w' := by
  have hs' := hs
  unfold maxLen at hs'
  by_cases h : 1048576 < s.size
  · go_enter Try.func6, Try.ntmps6
    go_wp2
    go_ret
    exact ⟨rfl, Below.refl _ _⟩
  · have h' : s.size ≤ 1048576 := by omega
    clear h
    go_enter Try.func6, Try.ntmps6
    go_wp2_with (first | (go_at_call 19; refine (spec_WordOk _ hs _).mono ?_; rintro e w' ⟨rfl, rfl⟩) | (go_at_call 20; refine (impl_WordOk _ hs _).mono ?_; rintro e w' ⟨rfl, rfl⟩))
    go_ret
    exact ⟨rfl, Below.refl _ _⟩
end Go.Proofs.Ytoeegfcbicjhgaa
