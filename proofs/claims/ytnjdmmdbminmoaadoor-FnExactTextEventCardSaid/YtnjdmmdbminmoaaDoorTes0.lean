/- TextEvent of the reference: what it reads, in plain Lean. -/
import Derived.Test.YtnjdmmdbminmoaaDoorTe0
import Derived.Test.YtnjdmmdbminmoaaDoorEts
namespace Go.Proofs.YtnjdmmdbminmoaaDoor
open Go.RowKit
/-- How many of the first i fields a kind has. -/
def cntH (k : Int) : Nat → Nat
  | 0 => 0
  | i + 1 => cntH k i + (if hasB k i then 1 else 0)
/-- What is read as field i. -/
def vAt (ps : List (List UInt8)) (k : Int) (i : Nat) : Int := if hasB k i then rdP ps (1 + cntH k i) else 0
theorem vAt_rd (ps : List (List UInt8)) {k : Int} (h0 : 0 ≤ k) (h11 : k ≤ 11) : vAt ps k 0 = rdKey ps k ∧ vAt ps k 1 = rdCh ps k ∧ vAt ps k 2 = rdTo ps k ∧ vAt ps k 3 = rdAmt ps k ∧ vAt ps k 4 = rdFee ps k := by
  have hc : k = 0 ∨ k = 1 ∨ k = 2 ∨ k = 3 ∨ k = 4 ∨ k = 5 ∨ k = 6 ∨ k = 7 ∨ k = 8 ∨ k = 9 ∨ k = 10 ∨ k = 11 := by omega
  rcases hc with rfl | rfl | rfl | rfl | rfl | rfl | rfl | rfl | rfl | rfl | rfl | rfl <;>
    simp [vAt, cntH, hasB, evH, rdKey, rdCh, rdTo, rdAmt, rdFee]
theorem rdP_out {ps : List (List UInt8)} {j : Nat} (h : ps.length ≤ j) : rdP ps j = 0 := by
  unfold rdP; rw [List.getElem?_eq_none h]
/-- The last word tells the bool, whatever the kind. -/
theorem last_yes {k key ch to amt fee : Int} {y : Bool} (h : evOk k key ch to amt fee y = true) : ((evL k key ch to amt fee y).getLast? == some yesW) = y := by
  have hk := ok_kind h
  obtain ⟨k1, k2⟩ := hk
  simp only [evOk, evOkL, Bool.and_eq_true] at h
  obtain ⟨⟨⟨⟨⟨⟨⟨-, h1⟩, h2⟩, h3⟩, h4⟩, h5⟩, h6⟩, h7⟩ := h
  have hn := nTx_no_yes
  rcases ev_cases k1 k2 with rfl | rfl | rfl | rfl | rfl | rfl | rfl | rfl | rfl | rfl | rfl
  all_goals
    simp [evH, fld, inB] at h1 h2 h3 h4 h5 h6 h7
    simp only [evL, evNums, ynL]
    first | (cases y <;> simp [yesW, noW]; done) | (subst h7; simp [hn]; done) | (subst h7; simp [evW, evWs, yesW]; done) | (cases y <;> simp_all [evW, evWs, yesW]; done)
theorem isEvt_last {l : List UInt8} {k key ch to amt fee : Int} {y : Bool} (h : isEvt l k key ch to amt fee y) : ((parts l).getLast? == some yesW) = y := by
  obtain ⟨h1, rfl⟩ := h
  rw [parts_evT h1]
  exact last_yes h1
theorem isEvt_one {l : List UInt8} {k key ch to amt fee k' key' ch' to' amt' fee' : Int} {y y' : Bool} (h : isEvt l k key ch to amt fee y) (h' : isEvt l k' key' ch' to' amt' fee' y') :
    k' = k ∧ key' = key ∧ ch' = ch ∧ to' = to ∧ amt' = amt ∧ fee' = fee ∧ y' = y := by
  obtain ⟨a1, a2, a3, a4, a5, a6, a7⟩ := isEvt_read h
  obtain ⟨b1, b2, b3, b4, b5, b6, b7⟩ := isEvt_read h'
  have hk : k' = k := b1.symm.trans a1
  subst hk
  exact ⟨rfl, b2.symm.trans a2, b3.symm.trans a3, b4.symm.trans a4, b5.symm.trans a5, b6.symm.trans a6, b7.symm.trans a7⟩
end Go.Proofs.YtnjdmmdbminmoaaDoor
