/- What the bytes of a sector say: a sector is read back as it was written. No program in sight. -/
import Derived.Test.YtdjjmagocakpnaaSecR
namespace Go.Proofs.Ytdjjmagocakpnaa
open Go.RowKit
theorem sec_cons (Q P n : Nat) (l : List UInt8) : secBytes Q P n l = 74 :: UInt8.ofNat (Q / 65536) :: UInt8.ofNat (Q / 256) :: UInt8.ofNat Q :: UInt8.ofNat (P / 65536) :: UInt8.ofNat (P / 256) :: UInt8.ofNat P :: UInt8.ofNat n :: (l ++ (List.replicate (114 - n) 0 ++ (digs Q 3 ++ digs P 3))) := by
  simp [secBytes, digs]
theorem be3 (Q : Nat) (h : Q < 16777216) : beNat [UInt8.ofNat (Q / 65536), UInt8.ofNat (Q / 256), UInt8.ofNat Q] = Q := by
  simp only [beNat, List.foldl_cons, List.foldl_nil, UInt8.toNat_ofNat']
  omega
theorem rdQ_sec {Q P n : Nat} {l : List UInt8} (h : Q < 16777216) : rdQ (secBytes Q P n l) = Q := by
  rw [sec_cons]; exact be3 Q h
theorem rdP_sec {Q P n : Nat} {l : List UInt8} (h : P < 16777216) : rdP (secBytes Q P n l) = P := by
  rw [sec_cons]; exact be3 P h
theorem rdM_sec {Q P n : Nat} {l : List UInt8} (h : n < 256) : rdM (secBytes Q P n l) = n := by
  rw [sec_cons]
  show (UInt8.ofNat n).toNat = n
  rw [UInt8.toNat_ofNat']
  omega
theorem rdB_sec {Q P n : Nat} {l : List UInt8} (h : n < 256) (hl : l.length = n) : rdB (secBytes Q P n l) = l := by
  unfold rdB
  rw [rdM_sec h, sec_cons]
  show (l ++ (List.replicate (114 - n) 0 ++ (digs Q 3 ++ digs P 3))).take n = l
  rw [← hl]
  exact List.take_left
theorem secB_len {q p n : Nat} {l : List UInt8} (hl : l.length = n) (hn : n ≤ 100) : (secBytes q p n l).length = 128 := by
  simp [secBytes, digs_len, hl]; omega
theorem good_sec {Q P n : Nat} {l : List UInt8} (hok : secOk Q P n = true) (hl : l.length = n) : secGood (secBytes Q P n l) = true := by
  obtain ⟨h1, h2, h3, h4, h5⟩ := secOk_le hok
  have e1 : rdQ (secBytes Q P n l) = Q := rdQ_sec (by omega)
  have e2 : rdP (secBytes Q P n l) = P := rdP_sec (by omega)
  have e3 : rdM (secBytes Q P n l) = n := rdM_sec (by omega)
  have e4 : rdB (secBytes Q P n l) = l := rdB_sec (by omega) hl
  exact good_yes (secB_len hl h5) (by omega) (by rw [e1, e2, e3]; exact hok) (by rw [e1, e2, e3, e4])
theorem good_nil : secGood [] = false := good_len (by simp)
/-- What reads as a sector is the bytes of what is read. -/
theorem good_is {l : List UInt8} (h : secGood l = true) : l.length = 128 ∧ rdM l ≤ 100 ∧ secOk (rdQ l) (rdP l) (rdM l) = true ∧ secBytes (rdQ l) (rdP l) (rdM l) (rdB l) = l := by
  simp only [secGood, Bool.and_eq_true, decide_eq_true_eq, eqL] at h
  exact ⟨h.1.1.1, h.1.1.2, h.1.2, h.2⟩
theorem rdB_length {l : List UInt8} (h : l.length = 128) (hm : rdM l ≤ 100) : (rdB l).length = rdM l := by
  unfold rdB
  simp; omega
/-- Sectors with one number and one body length .. are told apart by their bytes. -/
theorem sec_back {Q P n : Nat} {l : List UInt8} {Q' P' n' : Nat} {l' : List UInt8} (h : secBytes Q P n l = secBytes Q' P' n' l') (hQ : Q < 16777216) (hQ' : Q' < 16777216) (hP : P < 16777216) (hP' : P' < 16777216) (hn : n < 256) (hn' : n' < 256) (hl : l.length = n) (hl' : l'.length = n') :
    Q = Q' ∧ P = P' ∧ n = n' ∧ l = l' := by
  refine ⟨?_, ?_, ?_, ?_⟩
  · rw [← rdQ_sec (P := P) (n := n) (l := l) hQ, h, rdQ_sec hQ']
  · rw [← rdP_sec (Q := Q) (n := n) (l := l) hP, h, rdP_sec hP']
  · rw [← rdM_sec (Q := Q) (P := P) (l := l) hn, h, rdM_sec hn']
  · rw [← rdB_sec (Q := Q) (P := P) hn hl, h, rdB_sec hn' hl']
end Go.Proofs.Ytdjjmagocakpnaa
