/- Draws of bytes and of sectors (l03Bytes, l03Sector, l03Any). -/
import Derived.Test.YtgjphejmppehjaaCur2
import Derived.Test.YtgjphejmppehjaaSec
import Derived.Test.YtgjphejmppehjaaVar2
namespace Go.Proofs.Ytgjphejmppehjaa
open Go.RowKit
theorem Cur.lt {B g : Nat} {w : World} (h : Cur B w g) : g < w.heap.size := by
  obtain ⟨_, _, _, _, _, _, h, _⟩ := h
  exact lt_of_block h
theorem Cur.le {B g : Nat} {w : World} (h : Cur B w g) : B ≤ g := by
  obtain ⟨_, _, _, _, _, _, _, _, _, _, h⟩ := h
  exact h
theorem Cur.keep {B g lo hi : Nat} {w w' : World} (h : Cur B w g) (he : Eff lo hi w w') (hg : g < lo ∨ hi ≤ g) (hB : B ≤ lo ∨ hi = 0) : Cur B w' g := by
  have hl := h.lt
  obtain ⟨A, n, c, l, i, x, hb, hr, h1, h2, h3⟩ := h
  exact ⟨A, n, c, l, i, x, (he.block g hl hg).trans hb, hr.eff he hB, h1, h2, h3⟩
theorem CurPost.eff {B g : Nat} {p : Int → Prop} {w w' : World} {e : Ending} (h : CurPost B g p w e w') : ∃ x, e = .returned (.int .i64 x) ∧ p x ∧ Cur B w' g ∧ Eff g (g + 1) w w' := by
  obtain ⟨x, he, hp, hc, hg⟩ := h
  exact ⟨x, he, hp, hc, Eff.of_grown hg (fun k hk => by cases hk; omega)⟩
theorem Eff.over {lo hi lo' hi' : Nat} {a b c : World} (h : Eff lo hi a b) (k : Eff lo' hi' b c) (hl : a.heap.size ≤ lo') : Eff lo hi a c :=
  ⟨k.os.trans h.os, k.tape.trans h.tape, k.output.trans h.output, Nat.le_trans h.size k.size, fun i hi hn => (k.block i (Nat.lt_of_lt_of_le hi h.size) (.inl (by omega))).trans (h.block i hi hn)⟩
theorem Eff.step {g lo hi : Nat} {a b c : World} (h : Eff g (g + 1) a b) (k : Eff lo hi b c) (hl : a.heap.size ≤ lo ∨ hi = 0 ∨ (g ≤ lo ∧ hi ≤ g + 1)) : Eff g (g + 1) a c :=
  ⟨k.os.trans h.os, k.tape.trans h.tape, k.output.trans h.output, Nat.le_trans h.size k.size, fun i hi hn => (k.block i (Nat.lt_of_lt_of_le hi h.size) (by omega)).trans (h.block i hi hn)⟩
theorem byte_of {y : Int} (h0 : 0 ≤ y) (h1 : y < 256) : ∃ u : UInt8, y = (u.toNat : Int) := ⟨UInt8.ofNat y.toNat, by rw [UInt8.toNat_ofNat']; omega⟩
/-- A row of bytes of the call's own, at most so many. -/
def BytesPost (B g : Nat) (most : Int) (w : World) (e : Ending) (w' : World) : Prop :=
  ∃ (A : Option Addr) (n c : Nat) (l : List UInt8), e = .returned (.slice A n c) ∧ (n : Int) ≤ most ∧ Cur B w' g ∧ OwnB w' w.heap.size w'.heap.size A n c l ∧ Eff g (g + 1) w w'
end Go.Proofs.Ytgjphejmppehjaa
