/- Texts of events in plain Lean: what EventText writes and TextEvent reads. No program in sight. -/
import Derived.Test.YtnjdmmdbminmoaaDoorTxt
import Derived.Test.YtnjdmmdbminmoaaDoorTxs
import Derived.Test.YtnjdmmdbminmoaaDoorEv
namespace Go.Proofs.YtnjdmmdbminmoaaDoor
open Go.Lib
/-- The words of the events, by kind. -/
def evWs : List (List UInt8) := [[], [100, 101, 112, 111, 115, 105, 116], [111, 112, 101, 110], [99, 108, 111, 115, 101], [112, 114, 105, 99, 101], [97, 100, 109, 105, 116], [102, 117, 108, 102, 105, 108, 108], [102, 97, 105, 108], [116, 105, 99, 107], [108, 97, 117, 110, 99, 104], [97, 114, 114, 105, 118, 101], [108, 111, 115, 116]]
def evW (k : Int) : List UInt8 := evWs.getD k.toNat []
def yesW : List UInt8 := [121, 101, 115]
def noW : List UInt8 := [110, 111]
/-- The numbers of an event's text, in order. -/
def evNums (k key ch to amt fee : Int) : List Int :=
  if k = 1 then [amt] else if k = 2 then [ch, amt, fee] else if k = 3 then [ch, fee] else if k = 4 then [ch, amt, fee] else if k = 5 then [key, ch, to, amt]
  else if k = 8 then [] else if k = 9 then [key, ch, to, amt, fee] else [key]
def ynL (k : Int) (y : Bool) : List (List UInt8) := if k = 5 then [if y then yesW else noW] else []
/-- The words of an event's text. -/
def evL (k key ch to amt fee : Int) (y : Bool) : List (List UInt8) := evW k :: ((evNums k key ch to amt fee).map nTx ++ ynL k y)
/-- The text of an event; nothing for one that is not valid. -/
def evT (k key ch to amt fee : Int) (y : Bool) : List UInt8 := if evOk k key ch to amt fee y then join (evL k key ch to amt fee y) [32] else []
theorem evT_no {k key ch to amt fee : Int} {y : Bool} (h : evOk k key ch to amt fee y = false) : evT k key ch to amt fee y = [] := by unfold evT; rw [h]; rfl
theorem evT_yes {k key ch to amt fee : Int} {y : Bool} (h : evOk k key ch to amt fee y = true) : evT k key ch to amt fee y = join (evL k key ch to amt fee y) [32] := by unfold evT; rw [h]; rfl
theorem ev_cases {k : Int} (h1 : 1 ≤ k) (h2 : k ≤ 11) : k = 1 ∨ k = 2 ∨ k = 3 ∨ k = 4 ∨ k = 5 ∨ k = 6 ∨ k = 7 ∨ k = 8 ∨ k = 9 ∨ k = 10 ∨ k = 11 := by omega
theorem evW_ne {k : Int} (h1 : 1 ≤ k) (h2 : k ≤ 11) : evW k ≠ [] ∧ evW k ≠ yesW ∧ ∀ c ∈ evW k, c ≠ 32 := by
  rcases ev_cases h1 h2 with rfl | rfl | rfl | rfl | rfl | rfl | rfl | rfl | rfl | rfl | rfl <;> decide
theorem evT_ne {k key ch to amt fee : Int} {y : Bool} (h : evOk k key ch to amt fee y = true) : evT k key ch to amt fee y ≠ [] := by
  rw [evT_yes h, evL, join_cons]
  have hk : inB k 1 11 = true := by
    rcases hh : inB k 1 11 with _ | _
    · rw [evOk_kind hh] at h; cases h
    · rfl
  have := inB_le hk
  have := (evW_ne this.1 this.2).1
  simp [this]
theorem evT_ok {k key ch to amt fee : Int} {y : Bool} {l : List UInt8} (hl : l ≠ []) (h : evT k key ch to amt fee y = l) : evOk k key ch to amt fee y = true := by
  rcases hh : evOk k key ch to amt fee y with _ | _
  · rw [evT_no hh] at h; exact absurd h.symm hl
  · rfl
theorem nTx_no32 (n : Int) : ∀ c ∈ nTx n, c ≠ 32 := by
  intro c hc e
  subst e
  rcases h : inM n with _ | _
  · rw [nTx_out h] at hc; simp at hc
  · rw [nTx_in h] at hc
    unfold itoa at hc
    split at hc
    · rcases List.mem_cons.1 hc with h | h
      · simp at h
      · have := dec_digit _ _ h; simp at this
    · have := dec_digit _ _ hc; simp at this
theorem nTx_no_yes (n : Int) : nTx n ≠ yesW := by
  intro h
  have h1 : (121 : UInt8) ∈ nTx n := by rw [h]; decide
  rcases hh : inM n with _ | _
  · rw [nTx_out hh] at h1; simp at h1
  · rw [nTx_in hh] at h1
    unfold itoa at h1
    split at h1
    · rcases List.mem_cons.1 h1 with h | h
      · simp at h
      · have := dec_digit _ _ h; simp at this
    · have := dec_digit _ _ h1; simp at this
/-! ### reading -/
/-- The last kind with this word; 0 if none. -/
def kindN (p : List UInt8) : Nat → Nat
  | 0 => 0
  | j + 1 => if evWs[j]? = some p then j else kindN p j
def kindOf (p : List UInt8) : Int := (kindN p 12 : Nat)
theorem kindN_le (p : List UInt8) (j : Nat) : kindN p j ≤ j := by
  induction j with
  | zero => simp [kindN]
  | succ j ih => simp only [kindN]; split <;> omega
theorem kindN_pred (p : List UInt8) (j : Nat) : kindN p j ≤ j - 1 := by
  induction j with
  | zero => simp [kindN]
  | succ j ih => simp only [kindN]; split <;> omega
theorem kindN_lt (p : List UInt8) : kindN p 12 ≤ 11 := kindN_pred p 12
theorem kindOf_evW {k : Int} (h1 : 1 ≤ k) (h2 : k ≤ 11) : kindOf (evW k) = k := by
  rcases ev_cases h1 h2 with rfl | rfl | rfl | rfl | rfl | rfl | rfl | rfl | rfl | rfl | rfl <;> decide
/-- The number that piece j spells; 0 if it spells none or is not there. -/
def rdPc (ps : List (List UInt8)) (j : Nat) : Int := match ps[j]? with
  | some p => (tNum p).getD 0
  | none => 0
def rdKey (ps : List (List UInt8)) (k : Int) : Int := if k = 1 ∨ k = 2 ∨ k = 3 ∨ k = 4 ∨ k = 8 then 0 else rdPc ps 1
def rdCh (ps : List (List UInt8)) (k : Int) : Int := if k = 2 ∨ k = 3 ∨ k = 4 then rdPc ps 1 else if k = 5 ∨ k = 9 then rdPc ps 2 else 0
def rdTo (ps : List (List UInt8)) (k : Int) : Int := if k = 5 ∨ k = 9 then rdPc ps 3 else 0
def rdAmt (ps : List (List UInt8)) (k : Int) : Int := if k = 1 then rdPc ps 1 else if k = 2 ∨ k = 4 then rdPc ps 2 else if k = 5 ∨ k = 9 then rdPc ps 4 else 0
def rdFee (ps : List (List UInt8)) (k : Int) : Int := if k = 3 then rdPc ps 2 else if k = 2 ∨ k = 4 then rdPc ps 3 else if k = 9 then rdPc ps 5 else 0
def rdYes (ps : List (List UInt8)) (k : Int) : Bool := (k == 5) && (ps.getLast? == some yesW)
def kdP (ps : List (List UInt8)) : Int := kindOf (ps.headD [])
/-- The text of what is read out of the pieces. -/
def backT (ps : List (List UInt8)) : List UInt8 := evT (kdP ps) (rdKey ps (kdP ps)) (rdCh ps (kdP ps)) (rdTo ps (kdP ps)) (rdAmt ps (kdP ps)) (rdFee ps (kdP ps)) (rdYes ps (kdP ps))
theorem evL_no32 {k key ch to amt fee : Int} {y : Bool} (h1 : 1 ≤ k) (h2 : k ≤ 11) : ∀ x ∈ evL k key ch to amt fee y, ∀ c ∈ x, c ≠ 32 := by
  intro x hx
  rcases List.mem_cons.1 hx with rfl | hx
  · exact (evW_ne h1 h2).2.2
  · rcases List.mem_append.1 hx with hx | hx
    · obtain ⟨n, _, rfl⟩ := List.mem_map.1 hx
      exact nTx_no32 n
    · unfold ynL at hx
      split at hx
      · simp only [List.mem_singleton] at hx
        subst hx
        cases y <;> decide
      · simp at hx
theorem rdP_hit {ps : List (List UInt8)} {j : Nat} {n : Int} (h : ps[j]? = some (nTx n)) (hn : inM n = true) : rdPc ps j = n := by
  unfold rdPc
  rw [h]
  simp only [tNum_of (n := n) (nTx_ne.2 hn) rfl, Option.getD_some]
/-- What was written is read: kind, numbers and the bool. -/
theorem ev_back {k key ch to amt fee : Int} {y : Bool} (h : evOk k key ch to amt fee y = true) :
    kdP (evL k key ch to amt fee y) = k ∧ rdKey (evL k key ch to amt fee y) k = key ∧ rdCh (evL k key ch to amt fee y) k = ch ∧ rdTo (evL k key ch to amt fee y) k = to ∧ rdAmt (evL k key ch to amt fee y) k = amt ∧ rdFee (evL k key ch to amt fee y) k = fee ∧ rdYes (evL k key ch to amt fee y) k = y := by
  have hk : inB k 1 11 = true := by
    rcases hh : inB k 1 11 with _ | _
    · rw [evOk_kind hh] at h; cases h
    · rfl
  obtain ⟨k1, k2⟩ := inB_le hk
  have hkd : kdP (evL k key ch to amt fee y) = k := by unfold kdP evL; exact kindOf_evW k1 k2
  refine ⟨hkd, ?_⟩
  simp only [evOk, evOkL, Bool.and_eq_true] at h
  obtain ⟨⟨⟨⟨⟨⟨⟨-, h1⟩, h2⟩, h3⟩, h4⟩, h5⟩, h6⟩, h7⟩ := h
  rcases ev_cases k1 k2 with rfl | rfl | rfl | rfl | rfl | rfl | rfl | rfl | rfl | rfl | rfl
  all_goals
    simp [evH, fld, inB] at h1 h2 h3 h4 h5 h6 h7
    simp only [rdKey, rdCh, rdTo, rdAmt, rdFee, rdYes, evL, evNums, ynL]
    simp
    (try rw [rdP_hit (n := key) rfl (inM_iff.2 (by omega))])
    (try rw [rdP_hit (n := ch) rfl (inM_iff.2 (by omega))])
    (try rw [rdP_hit (n := to) rfl (inM_iff.2 (by omega))])
    (try rw [rdP_hit (n := amt) rfl (inM_iff.2 (by omega))])
    (try rw [rdP_hit (n := fee) rfl (inM_iff.2 (by omega))])
    (try cases y)
    all_goals (first | (cases h7; done) | simp_all (config := { decide := true }))
/-- The pieces of an event's text. -/
theorem parts_evT {k key ch to amt fee : Int} {y : Bool} (h : evOk k key ch to amt fee y = true) : parts (evT k key ch to amt fee y) = evL k key ch to amt fee y := by
  have hk : inB k 1 11 = true := by
    rcases hh : inB k 1 11 with _ | _
    · rw [evOk_kind hh] at h; cases h
    · rfl
  obtain ⟨k1, k2⟩ := inB_le hk
  rw [evT_yes h]
  exact parts_join (evL_no32 k1 k2)
end Go.Proofs.YtnjdmmdbminmoaaDoor
