/- putNum, PutNum: program and reference. -/
import Derived.Test.YtblenfhacaecmaaNum
namespace Go.Proofs.Ytblenfhacaecmaa
open Go.RowKit

/-- A number as s bytes, the greatest first. -/
def digs (n : Nat) : Nat → List UInt8
  | 0 => []
  | s + 1 => UInt8.ofNat (n / 256 ^ s) :: digs n s
theorem digs_len (n : Nat) : ∀ s, (digs n s).length = s
  | 0 => rfl
  | s + 1 => by simp [digs, digs_len n s]

theorem digs_pos (n : Nat) {j : Nat} (h : 1 ≤ j) : digs n j = UInt8.ofNat (n / 256 ^ (j - 1)) :: digs n (j - 1) := by
  obtain ⟨k, rfl⟩ : ∃ k, j = k + 1 := ⟨j - 1, by omega⟩
  rfl
theorem dig_val (n k : Nat) : (n : Int) / 2 ^ (8 * k) % 256 = ((UInt8.ofNat (n / 256 ^ k)).toNat : Int) := by
  rw [UInt8.toNat_ofNat', show 256 ^ k = 2 ^ (8 * k) from by rw [Nat.pow_mul]]
  simp
theorem bytes_snoc (l : List UInt8) (b : UInt8) {z : Int} (h : z = (b.toNat : Int)) : Lib.byteCells l ++ [Value.int .u8 z] = Lib.byteCells (l ++ [b]) := by
  subst h; simp [Lib.byteCells]

/-- What appends bytes to a row of the call's own leaves. -/
def AppB (lo m : Nat) (l : List UInt8) (w : World) (e : Ending) (w' : World) : Prop :=
  ∃ A c, e = .returned (.slice A m c) ∧ OwnB w' lo w'.heap.size A m c l ∧ Below lo w w'

set_option maxHeartbeats 1000000 in
set_option maxRecDepth 100000 in
theorem putNum_any (lo hi : Nat) (A : Option Addr) (m c : Nat) (l : List UInt8) (n s : Nat) (hs : s ≤ 7) (hm : m ≤ 1099511627776) (w : World) (ho : OwnB w lo hi A m c l) (hlo : lo ≤ w.heap.size) :
    Calls Try.prog 96 #[.slice A m c, .int .i64 (n : Int), .int .i64 (s : Int)] w (AppB lo (m + s) (l ++ digs n s) w) := by
  obtain ⟨i0, hi0, hz0, hz1, hz2⟩ := info_parts info_u8
  go_enter Try.func96, Try.ntmps96
  go_wp2
  go_loopw [0, 7] (fun vo vk wr => ∃ (j r : Nat) (A' : Option Addr) (c' : Nat) (pre : List UInt8), vk = .int .i64 ((j : Int) - 1) ∧ vo = .slice A' r c' ∧ Hid (r + j = m + s) ∧ Hid (j ≤ s) ∧ Hid (pre ++ digs n j = digs n s) ∧ OwnB wr lo wr.heap.size A' r c' (l ++ pre) ∧ Below lo w wr) (fun _ vk _ => (intOf vk + 1).toNat)
  case atStart => exact ⟨s, m, A, c, [], rfl, rfl, Lib.hid rfl, Lib.hid (Nat.le_refl _), Lib.hid rfl, by rw [List.append_nil]; exact ho.up, Below.refl _ _⟩
  case round =>
    obtain ⟨j, r, A', c', pre, rfl, rfl, hrj, hjs, hp, hown, hb⟩ := hrel
    by_cases hj0 : j = 0
    · subst hj0
      have hr := hrj.out
      simp only [Nat.add_zero] at hr
      subst hr
      have hp' := hp.out
      simp only [digs, List.append_nil] at hp'
      subst hp'
      go_wp2
      go_ret
      exact ⟨_, _, rfl, hown, hb⟩
    · have hj1 : 1 ≤ j := by omega
      clear hj0
      have g1 : j ≤ 7 := by have := hjs.out; omega
      have g2 : r ≤ 1099511627783 := by have := hrj.out; have := hjs.out; omega
      go_wp2_with (at_builtin; refine wpList_app _ rfl _ _ 27 rfl 5 i0 (.int .u8 0) 1 1 Try.underlying27 hi0 hz0 hz1 hz2 rfl (by omega) rfl (Own.alloc hown _) 1 rfl (rd_new1 _ _ _) (by intro u hu; simp at hu; subst hu; rfl) (by unfold maxLen; omega) (by omega) (by have := hb.size; simp; omega) ?_; intro A2 c2 w1 hO hE hK)
      rw [bytes_snoc _ _ (dig_val n (j - 1)), List.append_assoc] at hO
      go_roundw
      case rel =>
        refine ⟨j - 1, r + 1, A2, c2, pre ++ [UInt8.ofNat (n / 256 ^ (j - 1))], congrArg _ (by omega), rfl, Lib.hid (by have := hrj.out; omega), Lib.hid (by have := hjs.out; omega), Lib.hid ?_, hO, ?_⟩
        · rw [List.append_assoc, List.singleton_append, ← digs_pos n hj1, hp.out]
        · exact hb.trans (((Below.refl lo wr).alloc (Nat.le_trans hlo hb.size) _).trans (hE.below (by have := hb.size; simp; omega) (.inl (Nat.le_refl _))))
      case measure => simp [intOf]; omega

theorem digs_bytes_len (l : List UInt8) (n s m : Nat) (h : l.length = m) : (l ++ digs n s).length = m + s := by rw [List.length_append, digs_len, h]

/-- What PutNum gives: nothing, or the bytes. -/
def putOk (n s : Int) : Bool := inB s 1 7 && decide (0 ≤ n) && decide (n < 256 ^ s.toNat)
theorem putOk_s {n s : Int} (h : inB s 1 7 = false) : putOk n s = false := by simp [putOk, h]
theorem putOk_n {n s : Int} (h : n < 0) : putOk n s = false := by
  have : ¬ 0 ≤ n := by omega
  simp [putOk, this]
theorem putOk_big {n : Int} {s : Nat} (h : (256 ^ s : Nat) ≤ n) : putOk n s = false := by
  have h' : ¬ n < ((256 ^ s : Nat) : Int) := by omega
  rw [Int.natCast_pow] at h'
  simp only [putOk, Int.toNat_natCast, Bool.and_eq_false_iff, decide_eq_false_iff_not]
  exact .inr h'
theorem putOk_yes {n s : Nat} (h1 : 1 ≤ s) (h2 : s ≤ 7) (h : n < 256 ^ s) : putOk n s = true := by
  have h' : (n : Int) < ((256 ^ s : Nat) : Int) := by omega
  rw [Int.natCast_pow] at h'
  simp only [putOk, Int.toNat_natCast, Bool.and_eq_true, decide_eq_true_eq]
  exact ⟨⟨inB_true (by omega) (by omega), by omega⟩, h'⟩

/-- A slice of bytes of the call's own and true; or nil and false. -/
def PutB (n : Nat) (l : List UInt8) (ok : Bool) (w : World) (e : Ending) (w' : World) : Prop :=
  (ok = true ∧ ∃ A c, e = .returned (.tuple #[.slice A n c, .bool true]) ∧ OwnB w' w.heap.size w'.heap.size A n c l ∧ Below w.heap.size w w') ∨
  (ok = false ∧ e = .returned (.tuple #[.slice none 0 0, .bool false]) ∧ Below w.heap.size w w')
theorem PutB.no {n : Nat} {l : List UInt8} {w w' : World} (h : Below w.heap.size w w') : PutB n l false w (.returned (.tuple #[.slice none 0 0, .bool false])) w' := .inr ⟨rfl, rfl, h⟩

theorem PutB.get {n : Nat} {l : List UInt8} {ok : Bool} {w : World} {e : Ending} {w' : World} (h : PutB n l ok w e w') {N : Nat} {L : List UInt8} (hN : (if ok then n else 0) = N) (hL : (if ok then l else []) = L) :
    ∃ A c, e = .returned (.tuple #[.slice A N c, .bool ok]) ∧ OwnB w' w.heap.size w'.heap.size A N c L ∧ Below w.heap.size w w' := by
  rcases h with ⟨rfl, A, c, he, ho, hb⟩ | ⟨rfl, he, hb⟩
  · simp only [if_true] at hN hL
    subst hN hL
    exact ⟨A, c, he, ho, hb⟩
  · simp only [Bool.false_eq_true, if_false] at hN hL
    subst hN hL
    refine ⟨none, 0, he, ?_, hb⟩
    refine ⟨World.ownsRow_nil _ _ _ _, by simp [Value.ownBlock], Nat.le_refl _⟩

theorem l03Pow_any (k : Nat) (hk : k ≤ 7) (w : World) : Calls Try.prog 94 #[.int .i64 (k : Int)] w fun e w' => e = .returned (.int .i64 ((256 ^ k : Nat) : Int)) ∧ w = w' := by
  obtain ⟨P, hP⟩ : ∃ P : Nat, 256 ^ k = P := ⟨_, rfl⟩
  rw [hP]
  have HP := Lib.hid hP
  clear hP
  go_enter Try.func94, Try.ntmps94
  go_wp2
  go_loop [3, 4] (fun vp vi => ∃ (i p : Nat), i ≤ k ∧ vi = .int .i64 (i : Int) ∧ vp = .int .i64 (p : Int) ∧ Hid (256 ^ i = p) ∧ p ≤ 72057594037927936) (fun _ vi => k - (intOf vi).toNat)
  case atStart => exact ⟨0, 1, by omega, rfl, rfl, Lib.hid rfl, by omega⟩
  case round =>
    obtain ⟨i, p, hi, rfl, rfl, hp, hpb⟩ := hrel
    by_cases hlt : i < k
    · have hb : p * 256 ≤ 72057594037927936 := by rw [← hp.out, ← Nat.pow_succ]; exact pow_le7 (by omega)
      go_wp2
      go_round
      case rel => exact ⟨i + 1, p * 256, by omega, by go_num, by go_num, Lib.hid (by rw [Nat.pow_succ, hp.out]), hb⟩
      case measure => simp [intOf]; omega
    · have hge : i = k := by omega
      subst hge
      have HE := Lib.hid (show p = P by rw [← hp.out, HP.out])
      clear hlt
      go_wp2
      go_ret
      exact ⟨by rw [← HE.out]; rfl, rfl⟩
theorem dig_val2 (n k : Nat) : IntKind.u8.wrap ((n : Int) / ((256 ^ k : Nat) : Int) % 256) = ((UInt8.ofNat (n / 256 ^ k)).toNat : Int) := by
  rw [IntKind.wrap_u8', UInt8.toNat_ofNat', ← Int.natCast_ediv]
  generalize n / 256 ^ k = q
  omega

set_option maxHeartbeats 1000000 in
set_option maxRecDepth 100000 in
theorem spec_PutNum_ok (A : Option Addr) (m c : Nat) (l : List UInt8) (n s : Nat) (hs1 : 1 ≤ s) (hs : s ≤ 7) (hlt : n < 256 ^ s) (hm : m ≤ 1048576) (w : World) (hr : Rd w w.heap.size 1 A m (Lib.byteCells l)) :
    Calls Try.prog 90 #[.slice A m c, .int .i64 (n : Int), .int .i64 (s : Int)] w (PutB (m + s) (l ++ digs n s) true w) := by
  obtain ⟨i0, hi0, hz0, hz1, hz2⟩ := info_parts info_u8
  have hpw : 256 ^ s ≤ 72057594037927936 := pow_le7 hs
  obtain ⟨P, hP⟩ : ∃ P : Nat, 256 ^ s = P := ⟨_, rfl⟩
  rw [hP] at hpw hlt
  have HP := Lib.hid hP
  clear hP
  go_enter Try.func90, Try.ntmps90
  go_wp2_with (first | (go_at_call 94; refine (l03Pow_any s hs _).mono ?_; rintro e w1 ⟨rfl, rfl⟩; rw [HP.out]) | (at_builtin; refine wpList_app _ rfl _ _ 27 rfl 5 i0 (.int .u8 0) 1 1 Try.underlying27 hi0 hz0 hz1 hz2 rfl (by omega) rfl (new_empty w 5 1) c rfl (hr.alloc (Nat.le_refl _) _) (byteCells_one' l) (by unfold maxLen; omega) (by omega) (by simp) ?_; intro A2 c2 w1 hO hE hK))
  simp only [Nat.zero_add, List.nil_append] at hO
  have hb1 : Below w.heap.size w w1 := ((Below.refl w.heap.size w).alloc (Nat.le_refl _) (.cells #[] 5)).trans (hE.below (by simp) (.inl (Nat.le_refl _)))
  clear hE hK
  go_loopw [8, 9] (fun vo vk wr => ∃ (j r : Nat) (A' : Option Addr) (c' : Nat) (pre : List UInt8), vk = .int .i64 ((j : Int) - 1) ∧ vo = .slice A' r c' ∧ Hid (r + j = m + s) ∧ Hid (j ≤ s) ∧ Hid (pre ++ digs n j = digs n s) ∧ OwnB wr w.heap.size wr.heap.size A' r c' (l ++ pre) ∧ Below w.heap.size w wr) (fun _ vk _ => (intOf vk + 1).toNat)
  case atStart => exact ⟨s, m, A2, c2, [], rfl, rfl, Lib.hid rfl, Lib.hid (Nat.le_refl _), Lib.hid rfl, by rw [List.append_nil]; exact hO, hb1⟩
  case round =>
    obtain ⟨j, r, A', c', pre, rfl, rfl, hrj, hjs, hp, hown, hb⟩ := hrel
    by_cases hj0 : j = 0
    · subst hj0
      have hr := hrj.out
      simp only [Nat.add_zero] at hr
      subst hr
      have hp' := hp.out
      simp only [digs, List.append_nil] at hp'
      subst hp'
      go_wp2
      go_ret2
      exact .inl ⟨rfl, _, _, by simp, hown, hb⟩
    · have hj1 : 1 ≤ j := by omega
      clear hj0
      have g1 : j ≤ 7 := by have := hjs.out; omega
      have g2 : r ≤ 1048583 := by have := hrj.out; have := hjs.out; omega
      have hpj : 256 ^ (j - 1) ≤ 72057594037927936 := pow_le7 (by omega)
      have hpj0 : 0 < 256 ^ (j - 1) := Nat.pow_pos (by omega)
      have hdv := dig_val2 n (j - 1)
      obtain ⟨T, hT⟩ : ∃ T : Nat, 256 ^ (j - 1) = T := ⟨_, rfl⟩
      obtain ⟨D, hD⟩ : ∃ D : UInt8, UInt8.ofNat (n / 256 ^ (j - 1)) = D := ⟨_, rfl⟩
      rw [hD, hT] at hdv
      rw [hT] at hpj hpj0
      have HT := Lib.hid hT
      have HD := Lib.hid hD
      have hDb := byte_lt D
      obtain ⟨z, hz⟩ : ∃ z : Int, (D.toNat : Int) = z := ⟨_, rfl⟩
      rw [hz] at hdv hDb
      have HZ := Lib.hid hz
      have HDV := Lib.hid hdv
      obtain ⟨q, hq⟩ : ∃ q : Nat, n / T = q := ⟨_, rfl⟩
      have hq' : (n : Int) / (T : Int) = (q : Int) := by rw [← hq]; exact (Int.natCast_ediv n T).symm
      have hqn : q ≤ n := by rw [← hq]; exact Nat.div_le_self _ _
      have HQ' := Lib.hid hq'
      clear hT hD hz hq hdv
      go_wp2_with (first | (go_at_call 94; rw [show ((j : Int) - 1) = ((j - 1 : Nat) : Int) from by omega]; refine (l03Pow_any (j - 1) (by omega) _).mono ?_; rintro e w1 ⟨rfl, rfl⟩; rw [HT.out]) | (at_builtin; refine wpList_app _ rfl _ _ 27 rfl 5 i0 (.int .u8 0) 1 1 Try.underlying27 hi0 hz0 hz1 hz2 rfl (by omega) rfl (Own.alloc hown _) 1 rfl (rd_new1 _ _ _) (by intro u hu; simp at hu; subst hu; rfl) (by unfold maxLen; omega) (by omega) (by have := hb.size; simp; omega) ?_; intro A3 c3 w3 hO3 hE3 hK3))
      have hzD : (q : Int) % 256 = (D.toNat : Int) := by
        have h1 := HDV.out
        rw [HQ'.out, IntKind.wrap_u8'] at h1
        have := HZ.out
        omega
      rw [bytes_snoc _ _ hzD, List.append_assoc] at hO3
      go_roundw
      case rel =>
        refine ⟨j - 1, r + 1, A3, c3, pre ++ [D], rfl, rfl, Lib.hid (by have := hrj.out; omega), Lib.hid (by have := hjs.out; omega), Lib.hid ?_, hO3, ?_⟩
        · rw [List.append_assoc, List.singleton_append, ← HD.out, ← digs_pos n hj1, hp.out]
        · exact hb.trans (((Below.refl w.heap.size wr).alloc hb.size _).trans (hE3.below (by have := hb.size; simp; omega) (.inl (Nat.le_refl _))))
      case measure => simp [intOf]; omega

set_option maxHeartbeats 1000000 in
set_option maxRecDepth 100000 in
theorem spec_PutNum (A : Option Addr) (m c : Nat) (l : List UInt8) (n s : Int) (hm : m ≤ 1048576) (w : World) (hr : Rd w w.heap.size 1 A m (Lib.byteCells l)) :
    Calls Try.prog 90 #[.slice A m c, .int .i64 n, .int .i64 s] w (PutB (m + s.toNat) (l ++ digs n.toNat s.toNat) (putOk n s) w) := by
  by_cases hs1 : s < 1
  · rw [putOk_s (inB_false (.inl hs1))]
    go_enter Try.func90, Try.ntmps90
    go_wp2
    go_ret2
    exact PutB.no (Below.refl _ _)
  · have hs1' : 1 ≤ s := by omega
    clear hs1
    by_cases hs7 : 7 < s
    · rw [putOk_s (inB_false (.inr hs7))]
      go_enter Try.func90, Try.ntmps90
      go_wp2
      go_ret2
      exact PutB.no (Below.refl _ _)
    · have hs7' : s ≤ 7 := by omega
      clear hs7
      by_cases hn0 : n < 0
      · rw [putOk_n hn0]
        go_enter Try.func90, Try.ntmps90
        go_wp2
        go_ret2
        exact PutB.no (Below.refl _ _)
      · obtain ⟨S, rfl⟩ : ∃ S : Nat, s = S := ⟨s.toNat, by omega⟩
        obtain ⟨N, rfl⟩ : ∃ N : Nat, n = N := ⟨n.toNat, by omega⟩
        by_cases hbig : 256 ^ S ≤ N
        · have hpw : 256 ^ S ≤ 72057594037927936 := pow_le7 (by omega)
          rw [putOk_big (by omega)]
          obtain ⟨P, hP⟩ : ∃ P : Nat, 256 ^ S = P := ⟨_, rfl⟩
          rw [hP] at hpw hbig
          have HP := Lib.hid hP
          clear hP hn0
          go_enter Try.func90, Try.ntmps90
          go_wp2_with (go_at_call 94; refine (l03Pow_any S (by omega) _).mono ?_; rintro e w1 ⟨rfl, rfl⟩; rw [HP.out])
          go_ret2
          exact PutB.no (Below.refl _ _)
        · rw [putOk_yes (by omega) (by omega) (by omega)]
          exact spec_PutNum_ok A m c l N S (by omega) (by omega) (by omega) hm w hr
end Go.Proofs.Ytblenfhacaecmaa
