/- Disks in plain Lean: what is read, written, synced, kept by a crash. No program in sight. -/
import Derived.Test.YtblenfhacaecmaaDok
namespace Go.Proofs.Ytblenfhacaecmaa
open Go.RowKit
/-- The last write to a place. -/
def rdW (p : Int) (dw : List (Int × List UInt8)) : Option (List UInt8) := dw.foldl (fun acc x => if x.1 = p then some x.2 else acc) none
theorem rdW_nil (p : Int) : rdW p [] = none := rfl
theorem rdW_snoc (p : Int) (dw : List (Int × List UInt8)) (x : Int × List UInt8) : rdW p (dw ++ [x]) = if x.1 = p then some x.2 else rdW p dw := by
  unfold rdW; rw [List.foldl_append]; rfl
theorem rdW_take {p : Int} {dw : List (Int × List UInt8)} {i : Nat} {x : Int × List UInt8} (h : dw[i]? = some x) : rdW p (dw.take (i + 1)) = if x.1 = p then some x.2 else rdW p (dw.take i) := by
  rw [List.take_add_one, h]; exact rdW_snoc _ _ _
def zsD (n : Nat) : List UInt8 := List.replicate n 0
/-- A cell's bytes: 128 zeros if it was never written. -/
def fullC (l : List UInt8) : List UInt8 := if l.length = 0 then zsD 128 else l
/-- What a valid disk reads at a place. -/
def readD (dc : List (List UInt8)) (dw : List (Int × List UInt8)) (p : Int) : List UInt8 :=
  match rdW p dw with
  | some b => b
  | none => fullC (dc.getD p.toNat [])
theorem readD_hit {dc : List (List UInt8)} {dw : List (Int × List UInt8)} {p : Int} {b : List UInt8} (h : rdW p dw = some b) : readD dc dw p = b := by unfold readD; rw [h]
theorem readD_none {dc : List (List UInt8)} {dw : List (Int × List UInt8)} {p : Int} (h : rdW p dw = none) : readD dc dw p = fullC (dc.getD p.toNat []) := by unfold readD; rw [h]
theorem rdW_mem {p : Int} {dw : List (Int × List UInt8)} {b : List UInt8} (h : rdW p dw = some b) : (p, b) ∈ dw := by
  have key : ∀ (dw : List (Int × List UInt8)) (acc : Option (List UInt8)), dw.foldl (fun acc x => if x.1 = p then some x.2 else acc) acc = some b → acc = some b ∨ (p, b) ∈ dw := by
    intro dw
    induction dw with
    | nil => intro acc h; exact .inl h
    | cons x t ih =>
      intro acc h
      rcases ih _ h with h1 | h1
      · dsimp only at h1
        by_cases hx : x.1 = p
        · rw [if_pos hx] at h1
          have : x = (p, b) := Prod.ext hx (Option.some.inj h1)
          exact .inr (this ▸ List.mem_cons_self)
        · rw [if_neg hx] at h1; exact .inl h1
      · exact .inr (List.mem_cons_of_mem _ h1)
  rcases key dw none h with h1 | h1
  · cases h1
  · exact h1
theorem fullC_len {l : List UInt8} (h : l.length = 0 ∨ l.length = 128) : (fullC l).length = 128 := by
  unfold fullC zsD
  split
  · simp
  · omega
theorem readD_len {dc : List (List UInt8)} {dw : List (Int × List UInt8)} {p : Int} (h : dkOk dc dw = true) (h1 : p < (dc.length : Int)) : (readD dc dw p).length = 128 := by
  obtain ⟨_, hc, hw⟩ := dkOk_iff.1 h
  unfold readD
  split
  · next b hb => exact (hw _ (rdW_mem hb)).2.2
  · refine fullC_len (hc _ ?_)
    have hi : p.toNat < dc.length := by omega
    rw [show dc.getD p.toNat [] = dc[p.toNat] by simp [List.getD, hi]]
    exact List.getElem_mem _
/-- A disk that is synced. -/
def syncC (dc : List (List UInt8)) (dw : List (Int × List UInt8)) : List (List UInt8) := dw.foldl (fun cs x => cs.set x.1.toNat x.2) dc
/-- What a crash keeps of one write: its first n bytes over the cell's. -/
def tearC (l b : List UInt8) (n : Nat) : List UInt8 := b.take n ++ (fullC l).drop n
def clampK (n : Int) : Nat := if n < 0 then 0 else if 128 < n then 128 else n.toNat
/-- One write behind a crash. -/
def keepC (cs : List (List UInt8)) (x : Int × List UInt8) (n : Nat) : List (List UInt8) := if n = 0 then cs else cs.set x.1.toNat (tearC (cs.getD x.1.toNat []) x.2 n)
def crashC (dc : List (List UInt8)) : List (Int × List UInt8) → List Int → List (List UInt8)
  | [], _ => dc
  | _ :: _, [] => dc
  | x :: t, k :: ks => crashC (keepC dc x (clampK k)) t ks
end Go.Proofs.Ytblenfhacaecmaa
