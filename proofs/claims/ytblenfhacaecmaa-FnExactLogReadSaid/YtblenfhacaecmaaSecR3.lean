/- SectorRead: program and reference for every argument; what both leave, by letters; the law's walk. -/
import Derived.Test.YtblenfhacaecmaaSecR2
import Derived.Deep.RegionHeld3
namespace Go.Proofs.Ytblenfhacaecmaa
open Go.RowKit
theorem getNum_three (l : List UInt8) (p s : Nat) (h1 : 1 ≤ s) (h2 : s ≤ 7) (h : p + s ≤ l.length) : getNum l p s = ((beNat ((l.drop p).take s) : Int), true) := getNum_ok h1 h2 h
theorem rdM_be {l : List UInt8} (h : l.length = 128) : beNat ((l.drop 7).take 1) = rdM l := by
  have h7 : 7 < l.length := by omega
  rw [show (1 : Nat) = 0 + 1 from rfl, drop_take_snoc l 7 0 (by omega)]
  simp [beNat, rdM, h7]
theorem secBytes_len (q p n : Nat) (l : List UInt8) (hl : l.length = n) (hn : n ≤ 100) : (secBytes q p n l).length = 128 := by
  simp [secBytes, digs_len, hl]; omega
/-- A text of another length, or whose length byte is too great, is not the one of an empty body. -/
theorem empty_other {l : List UInt8} {q p : Nat} {m : Int} {m1 : Bool} (hM : getNum l 7 1 = (m, m1)) (h : 100 < m ∨ l.length ≠ 128) : secBytes q p 0 [] ≠ l := by
  intro e
  have e0 : (secBytes q p 0 []).length = 128 := secBytes_len q p 0 [] rfl (by omega)
  rcases h with h | h
  · subst e
    have h1 : getNum (secBytes q p 0 []) 7 1 = (0, true) := by
      rw [show (7 : Int) = ((7 : Nat) : Int) from rfl, show (1 : Int) = ((1 : Nat) : Int) from rfl, getNum_ok (by omega) (by omega) (by omega)]
      have : ((secBytes q p 0 []).drop 7).take 1 = [0] := by
        simp [secBytes, digs]
      rw [this]; rfl
    rw [h1] at hM
    simp at hM
    omega
  · exact h (by rw [← e, e0])
theorem spec_SectorRead (A : Option Addr) (n c : Nat) (l : List UInt8) (hnc : n ≤ c) (hc : c ≤ maxLen) (hn : n ≤ 1099511627776) (W : World) (hr : Rd W W.heap.size 1 A n (Lib.byteCells l)) : Calls Try.prog 68 #[.slice A n c] W (SecR l W) := by
  have hlen := len_of_rd hr
  rcases hq : getNum l 1 3 with ⟨q, q1⟩
  rcases hp : getNum l 4 3 with ⟨p, p1⟩
  rcases hm : getNum l 7 1 with ⟨m, m1⟩
  by_cases hT : 100 < m ∨ (m ≤ 100 ∧ n ≠ 128)
  · have hG : secGood l = false := by
      rcases hT with hT | hT
      · by_cases hl : l.length = 128
        · refine good_m ?_
          rw [← rdM_be hl]
          have h2 : getNum l 7 1 = (((beNat ((l.drop 7).take 1) : Nat) : Int), true) := getNum_three l 7 1 (by omega) (by omega) (by omega)
          rw [h2] at hm
          simp at hm
          omega
        · exact good_len hl
      · exact good_len (by omega)
    exact spec_SectorRead_not q p m q1 p1 m1 A n c l hnc hn (Lib.hid hq) (Lib.hid hp) (Lib.hid hm) hT (Lib.hid hG) (empty_other hm (by omega)) W hr
  · have hn128 : n = 128 := by omega
    subst hn128
    have h2 : getNum l 7 1 = (((beNat ((l.drop 7).take 1) : Nat) : Int), true) := getNum_three l 7 1 (by omega) (by omega) (by omega)
    rw [h2, rdM_be hlen] at hm
    simp at hm
    exact spec_SectorRead_fit (rdQ l) (rdP l) (rdM l) A c l hnc hc (Lib.hid hlen) (Lib.hid rfl) (Lib.hid rfl) (Lib.hid rfl) (Lib.hid (rdM_be hlen)) (by omega) W hr
end Go.Proofs.Ytblenfhacaecmaa
