/- GetNum and PutNum: program and reference; numbers as bytes, big end first. -/
import Derived.Test.YtblenfhacaecmaaBy
import Derived.Laws.BitsAllLaws
import Derived.Laws.BitsLemmas
namespace Go.Proofs.Ytblenfhacaecmaa
open Go.RowKit

/-- The number that bytes make, the greatest first. -/
def beNat (l : List UInt8) : Nat := l.foldl (fun a c => a * 256 + c.toNat) 0
theorem beNat_snoc (l : List UInt8) (c : UInt8) : beNat (l ++ [c]) = beNat l * 256 + c.toNat := by simp [beNat]
theorem beNat_lt (l : List UInt8) : beNat l < 256 ^ l.length := by
  suffices h : ∀ (l : List UInt8) (a k : Nat), a < 256 ^ k → l.foldl (fun a c => a * 256 + c.toNat) a < 256 ^ (k + l.length) by
    have := h l 0 0 (by omega)
    rw [Nat.zero_add] at this
    exact this
  intro l
  induction l with
  | nil => intro a k h; simpa using h
  | cons c l ih =>
    intro a k h
    have hc := c.toNat_lt
    have := ih (a * 256 + c.toNat) (k + 1) (by rw [Nat.pow_succ]; omega)
    simpa [Nat.add_assoc, Nat.add_comm 1] using this

def getNum (l : List UInt8) (p s : Int) : Int × Bool :=
  if inB s 1 7 && decide (0 ≤ p) && decide (p + s ≤ l.length) then ((beNat ((l.drop p.toNat).take s.toNat) : Int), true) else (0, false)
theorem getNum_s {l : List UInt8} {p s : Int} (h : inB s 1 7 = false) : getNum l p s = (0, false) := by simp [getNum, h]
theorem getNum_p {l : List UInt8} {p s : Int} (h : p < 0) : getNum l p s = (0, false) := by
  have : ¬ 0 ≤ p := by omega
  simp [getNum, this]
theorem getNum_e {l : List UInt8} {p s : Int} (h : (l.length : Int) < p + s) : getNum l p s = (0, false) := by
  have : ¬ p + s ≤ (l.length : Int) := by omega
  simp [getNum, this]
theorem getNum_ok {l : List UInt8} {p s : Nat} (h1 : 1 ≤ s) (h2 : s ≤ 7) (h : p + s ≤ l.length) : getNum l p s = ((beNat ((l.drop p).take s) : Int), true) := by
  have e : (p : Int) + (s : Int) ≤ (l.length : Int) := by omega
  simp [getNum, inB_true (n := (s : Int)) (lo := 1) (hi := 7) (by omega) (by omega), e]

theorem drop_take_snoc (l : List UInt8) (p k : Nat) (h : p + k < l.length) : (l.drop p).take (k + 1) = (l.drop p).take k ++ [l[p + k]] := by
  rw [List.take_succ_eq_append_getElem (by simp; omega)]; simp

theorem i64_or_nat'' (a b : Nat) (ha : a < 9223372036854775808) (hb : b < 9223372036854775808) : bits .or .i64 (a : Int) (b : Int) = ((a ||| b : Nat) : Int) := by
  have h1 : (BitVec.ofInt 64 (a : Int)).toNat = a := by rw [BitVec.ofInt_natCast, BitVec.toNat_ofNat]; exact Nat.mod_eq_of_lt (by omega)
  have h2 : (BitVec.ofInt 64 (b : Int)).toNat = b := by rw [BitVec.ofInt_natCast, BitVec.toNat_ofNat]; exact Nat.mod_eq_of_lt (by omega)
  have hx : a ||| b < 2 ^ 63 := Nat.or_lt_two_pow (by omega) (by omega)
  show IntKind.i64.wrap ((BitVec.ofInt 64 (a : Int) ||| BitVec.ofInt 64 (b : Int)).toNat : Int) = _
  rw [BitVec.toNat_or, h1, h2, IntKind.wrap_i64]
  omega
theorem or_byte (a b : Nat) (ha : a < 281474976710656) (hb : b < 256) : bits .or .i64 ((a : Int) * 256) (b : Int) = ((a * 256 + b : Nat) : Int) := by
  have h := i64_or_nat'' (a * 256) b (by omega) (by omega)
  rw [nat_join 8 (a * 256) b (by omega) (by omega)] at h
  rw [← h]; simp

theorem pow_le7 {k : Nat} (h : k ≤ 7) : 256 ^ k ≤ 72057594037927936 := Nat.pow_le_pow_right (by omega) h
theorem pow_lt7 {k : Nat} (h : k < 7) : 256 ^ k ≤ 281474976710656 := Nat.pow_le_pow_right (n := 256) (by omega) (show k ≤ 6 by omega)

set_option maxHeartbeats 400000 in
theorem impl_GetNum_ok (A : Option Addr) (n c : Nat) (l : List UInt8) (p s : Nat) (h1 : 1 ≤ s) (h2 : s ≤ 7) (hps : p + s ≤ n) (hnc : n ≤ c) (hn : n ≤ 1099511627776) (w : World) (hr : Rd w w.heap.size 1 A n (Lib.byteCells l)) :
    Calls Try.prog 91 #[.slice A n c, .int .i64 (p : Int), .int .i64 (s : Int)] w fun e w' => e = .returned (.tuple #[.int .i64 ((beNat ((l.drop p).take s) : Nat) : Int), .bool true]) ∧ Below w.heap.size w w' := by
  have hl := len_of_rd hr
  have is : inB s 1 7 = true := inB_true (by omega) (by omega)
  obtain ⟨b, off, rfl, hbB, hcell⟩ := hr.form (by omega)
  obtain ⟨F, hF⟩ : ∃ F, beNat ((l.drop p).take s) = F := ⟨_, rfl⟩
  rw [hF]
  have HF := Lib.hid hF
  have HL := Lib.hid hl
  have HC := Lib.hid hcell
  clear hF hl hcell
  have hcp : p < c := by omega
  go_enter Try.func91, Try.ntmps91
  go_wp2_with (go_at_call 53; refine (in_any _ _ _ _).mono ?_; rintro e w1 ⟨rfl, rfl⟩)
  go_loop [8, 33] (fun vn vi => ∃ (k m : Nat), k ≤ s ∧ vi = .int .i64 (k : Int) ∧ vn = .int .i64 (m : Int) ∧ Hid (beNat ((l.drop p).take k) = m) ∧ m < 256 ^ k) (fun _ vi => s - (intOf vi).toNat)
  case atStart => exact ⟨0, 0, by omega, rfl, rfl, Lib.hid (by simp [beNat]), by omega⟩
  case round =>
    obtain ⟨k, m, hk, rfl, rfl, hm, hmb⟩ := hrel
    by_cases hlt : k < s
    · have hlen : p + k < l.length := by have := HL.out; omega
      have hc := HC.out (p + k) _ (byteCells_get l (p + k) hlen)
      rw [← Nat.add_assoc] at hc
      have hz := byte_lt l[p + k]
      have hm6 := Nat.lt_of_lt_of_le hmb (pow_lt7 (by omega))
      have hor := or_byte m (l[p + k].toNat) hm6 (by omega)
      have hnext : beNat ((l.drop p).take (k + 1)) = m * 256 + l[p + k].toNat := by rw [drop_take_snoc l p k hlen, beNat_snoc, hm.out]
      obtain ⟨z, hze⟩ : ∃ z : Int, (l[p + k].toNat : Int) = z := ⟨_, rfl⟩
      have hb' : beNat ((l.drop p).take (k + 1)) < 256 ^ (k + 1) := by
        have := beNat_lt ((l.drop p).take (k + 1))
        rwa [show ((l.drop p).take (k + 1)).length = k + 1 by simp; omega] at this
      rw [← hnext] at hor
      rw [hze] at hc hor hz
      obtain ⟨hz0, hz1⟩ := hz
      obtain ⟨m2, hm2⟩ : ∃ m2, beNat ((l.drop p).take (k + 1)) = m2 := ⟨_, rfl⟩
      rw [hm2] at hor hb'
      have HM2 := Lib.hid hm2
      clear hm2 hnext hze hmb
      go_wp2
      go_round
      case rel => exact ⟨k + 1, m2, by omega, by go_num, rfl, HM2, hb'⟩
      case measure => simp [intOf]; omega
    · have hge : k = s := by omega
      subst hge
      have HE := Lib.hid (show m = F by rw [← HF.out, ← hm.out])
      clear hmb hlt
      go_wp2
      go_ret2
      exact ⟨by rw [← HE.out]; rfl, Below.refl _ _⟩

theorem impl_GetNum (A : Option Addr) (n c : Nat) (l : List UInt8) (p s : Int) (hnc : n ≤ c) (hn : n ≤ 1099511627776) (w : World) (hr : Rd w w.heap.size 1 A n (Lib.byteCells l)) :
    Calls Try.prog 91 #[.slice A n c, .int .i64 p, .int .i64 s] w fun e w' => e = .returned (.tuple #[.int .i64 (getNum l p s).1, .bool (getNum l p s).2]) ∧ Below w.heap.size w w' := by
  have hl := len_of_rd hr
  rcases is : inB s 1 7 with _ | _
  · rw [getNum_s is]
    clear hl
    go_enter Try.func91, Try.ntmps91
    go_wp2_with (go_at_call 53; refine (in_any _ _ _ _).mono ?_; rintro e w1 ⟨rfl, rfl⟩)
    go_ret2
    exact ⟨rfl, Below.refl _ _⟩
  · have hs1 := inB_le is
    by_cases hp0 : p < 0
    · rw [getNum_p hp0]
      clear hl
      go_enter Try.func91, Try.ntmps91
      go_wp2_with (go_at_call 53; refine (in_any _ _ _ _).mono ?_; rintro e w1 ⟨rfl, rfl⟩)
      go_ret2
      exact ⟨rfl, Below.refl _ _⟩
    · have hp0' : 0 ≤ p := by omega
      clear hp0
      by_cases hps : (n : Int) - s < p
      · rw [getNum_e (by omega)]
        clear hl
        obtain ⟨hs1, hs7⟩ := hs1
        go_enter Try.func91, Try.ntmps91
        go_wp2_with (go_at_call 53; refine (in_any _ _ _ _).mono ?_; rintro e w1 ⟨rfl, rfl⟩)
        go_ret2
        exact ⟨rfl, Below.refl _ _⟩
      · obtain ⟨P, rfl⟩ : ∃ P : Nat, p = P := ⟨p.toNat, by omega⟩
        obtain ⟨S, rfl⟩ : ∃ S : Nat, s = S := ⟨s.toNat, by omega⟩
        rw [getNum_ok (by omega) (by omega) (by omega)]
        exact impl_GetNum_ok A n c l P S (by omega) (by omega) (by omega) hnc hn w hr
set_option maxHeartbeats 400000 in
theorem spec_GetNum_ok (A : Option Addr) (n c : Nat) (l : List UInt8) (p s : Nat) (h1 : 1 ≤ s) (h2 : s ≤ 7) (hps : p + s ≤ n) (hn : n ≤ 1099511627776) (w : World) (hr : Rd w w.heap.size 1 A n (Lib.byteCells l)) :
    Calls Try.prog 82 #[.slice A n c, .int .i64 (p : Int), .int .i64 (s : Int)] w fun e w' => e = .returned (.tuple #[.int .i64 ((beNat ((l.drop p).take s) : Nat) : Int), .bool true]) ∧ Below w.heap.size w w' := by
  have hl := len_of_rd hr
  obtain ⟨b, off, rfl, hbB, hcell⟩ := hr.form (by omega)
  obtain ⟨F, hF⟩ : ∃ F, beNat ((l.drop p).take s) = F := ⟨_, rfl⟩
  rw [hF]
  have HF := Lib.hid hF
  have HL := Lib.hid hl
  have HC := Lib.hid hcell
  clear hF hl hcell
  go_enter Try.func82, Try.ntmps82
  go_wp2
  go_loop [8, 9] (fun vn vi => ∃ (k m : Nat), k ≤ s ∧ vi = .int .i64 (k : Int) ∧ vn = .int .i64 (m : Int) ∧ Hid (beNat ((l.drop p).take k) = m) ∧ m < 256 ^ k) (fun _ vi => s - (intOf vi).toNat)
  case atStart => exact ⟨0, 0, by omega, rfl, rfl, Lib.hid (by simp [beNat]), by omega⟩
  case round =>
    obtain ⟨k, m, hk, rfl, rfl, hm, hmb⟩ := hrel
    by_cases hlt : k < s
    · have hlen : p + k < l.length := by have := HL.out; omega
      have hc := HC.out (p + k) _ (byteCells_get l (p + k) hlen)
      have hz := byte_lt l[p + k]
      have hm6 := Nat.lt_of_lt_of_le hmb (pow_lt7 (by omega))
      have hnext : beNat ((l.drop p).take (k + 1)) = m * 256 + l[p + k].toNat := by rw [drop_take_snoc l p k hlen, beNat_snoc, hm.out]
      have hb' : beNat ((l.drop p).take (k + 1)) < 256 ^ (k + 1) := by
        have := beNat_lt ((l.drop p).take (k + 1))
        rwa [show ((l.drop p).take (k + 1)).length = k + 1 by simp; omega] at this
      obtain ⟨z, hze⟩ : ∃ z : Int, (l[p + k].toNat : Int) = z := ⟨_, rfl⟩
      have hsum : (m : Int) * 256 + z = ((beNat ((l.drop p).take (k + 1)) : Nat) : Int) := by rw [hnext, ← hze]; omega
      rw [hze] at hc hz
      obtain ⟨hz0, hz1⟩ := hz
      obtain ⟨m2, hm2⟩ : ∃ m2, beNat ((l.drop p).take (k + 1)) = m2 := ⟨_, rfl⟩
      rw [hm2] at hsum hb'
      have HM2 := Lib.hid hm2
      have HS := Lib.hid hsum
      clear hm2 hnext hze hmb hsum
      go_wp2
      go_round
      case rel => exact ⟨k + 1, m2, by omega, by go_num, by rw [← HS.out], HM2, hb'⟩
      case measure => simp [intOf]; omega
    · have hge : k = s := by omega
      subst hge
      have HE := Lib.hid (show m = F by rw [← HF.out, ← hm.out])
      clear hmb hlt
      go_wp2
      go_ret2
      exact ⟨by rw [← HE.out]; rfl, Below.refl _ _⟩

theorem spec_GetNum (A : Option Addr) (n c : Nat) (l : List UInt8) (p s : Int) (hn : n ≤ 1099511627776) (w : World) (hr : Rd w w.heap.size 1 A n (Lib.byteCells l)) :
    Calls Try.prog 82 #[.slice A n c, .int .i64 p, .int .i64 s] w fun e w' => e = .returned (.tuple #[.int .i64 (getNum l p s).1, .bool (getNum l p s).2]) ∧ Below w.heap.size w w' := by
  have hl := len_of_rd hr
  by_cases hs1 : s < 1
  · rw [getNum_s (inB_false (.inl hs1))]
    clear hl
    go_enter Try.func82, Try.ntmps82
    go_wp2
    go_ret2
    exact ⟨rfl, Below.refl _ _⟩
  · have hs1' : 1 ≤ s := by omega
    clear hs1
    by_cases hs7 : 7 < s
    · rw [getNum_s (inB_false (.inr hs7))]
      clear hl
      go_enter Try.func82, Try.ntmps82
      go_wp2
      go_ret2
      exact ⟨rfl, Below.refl _ _⟩
    · have hs7' : s ≤ 7 := by omega
      clear hs7
      by_cases hp0 : p < 0
      · rw [getNum_p hp0]
        clear hl
        go_enter Try.func82, Try.ntmps82
        go_wp2
        go_ret2
        exact ⟨rfl, Below.refl _ _⟩
      · have hp0' : 0 ≤ p := by omega
        clear hp0
        by_cases hps : (n : Int) - s < p
        · rw [getNum_e (by omega)]
          clear hl
          go_enter Try.func82, Try.ntmps82
          go_wp2
          go_ret2
          exact ⟨rfl, Below.refl _ _⟩
        · obtain ⟨P, rfl⟩ : ∃ P : Nat, p = P := ⟨p.toNat, by omega⟩
          obtain ⟨S, rfl⟩ : ∃ S : Nat, s = S := ⟨s.toNat, by omega⟩
          rw [getNum_ok (by omega) (by omega) (by omega)]
          exact spec_GetNum_ok A n c l P S (by omega) (by omega) (by omega) hn w hr
end Go.Proofs.Ytblenfhacaecmaa
