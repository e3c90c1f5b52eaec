/- Variables among the objects that a walk carries: a store's and a new block's effect, a variable's cells. -/
import Derived.Test.YtblenfhacaecmaaBy
namespace Go.Proofs.Ytblenfhacaecmaa
open Go.RowKit

theorem Eff.setCell {lo hi : Nat} {w w' : World} (h : Eff lo hi w w') {p : Addr} (h1 : lo ≤ p.block) (h2 : p.block < hi) (u : Value) : Eff lo hi w (w'.setCell p u) :=
  h.trans ⟨rfl, rfl, rfl, by simp [World.setCell], fun k _ hk => Below.heap_setCell _ _ _ _ (by omega)⟩
theorem Eff.new {lo hi : Nat} {w w' : World} (h : Eff lo hi w w') (o : Obj) : Eff lo hi w (w'.alloc o) :=
  h.trans ((Eff.of_below ((Below.refl _ _).alloc (Nat.le_refl _) o) (Nat.le_refl _)))
theorem Eff.drewN {lo hi : Nat} {w w' : World} (h : Eff lo hi w w') (k : Nat) : Eff lo hi w (w'.drewN k) := ⟨h.os, h.tape, h.output, h.size, h.block⟩
theorem Eff.drew {lo hi : Nat} {w w' : World} (h : Eff lo hi w w') : Eff lo hi w w'.drew := ⟨h.os, h.tape, h.output, h.size, h.block⟩
theorem Eff.join {lo hi : Nat} {a b c : World} (h : Eff 0 0 a b) (k : Eff lo hi b c) (hl : a.heap.size ≤ lo) : Eff 0 0 a c :=
  ⟨k.os.trans h.os, k.tape.trans h.tape, k.output.trans h.output, Nat.le_trans h.size k.size, fun i hi _ => (k.block i (Nat.lt_of_lt_of_le hi h.size) (.inl (by omega))).trans (h.block i hi (.inr (Nat.zero_le _)))⟩
theorem Eff.cell {lo hi : Nat} {w w' : World} (h : Eff lo hi w w') {p : Addr} {u : Value} (hu : w.cell? p = some u) (hp : p.block < lo ∨ hi ≤ p.block) : w'.cell? p = some u :=
  (World.cell?_of_block (w := w) (h.block p.block (block_lt_of_cell hu) hp)).trans hu
theorem Eff.frozen {lo hi : Nat} {w w' : World} (h : Eff lo hi w w') {p : Addr} {u : Value} (hu : w.cell? p = some u) (hp : p.block < lo ∨ hi ≤ p.block) : w'.frozen? p = w.frozen? p :=
  World.frozen?_of_block (w := w) (h.block p.block (block_lt_of_cell hu) hp)
theorem OwnB.made {lo hi lo' hi' B n c : Nat} {w w' : World} {A : Option Addr} {l : List UInt8} (h : OwnB w lo hi A n c l) (he : Eff lo' hi' w w') (hd : hi ≤ lo' ∨ hi' ≤ lo ∨ hi' ≤ lo') (hB : B ≤ lo) : OwnB w' B w'.heap.size A n c l := by
  have h1 := h.keep he hd
  exact Own.wide h1 hB (Nat.le_trans (Own.le h) he.size) (Nat.le_refl _)
/-- The cells of a new variable. -/
theorem var_cell (w : World) (cs : Array Value) (t : TypeId) (j : Nat) (u : Value) (h : cs[j]? = some u) : (w.alloc (.cells cs t)).cell? ⟨w.heap.size, j, none⟩ = some u := by
  rw [cell_of_row _ w.heap.size _ _ _ _ (heap_alloc_new w _)]
  exact h
theorem var_frozen (w : World) (cs : Array Value) (t : TypeId) (j : Nat) : (w.alloc (.cells cs t)).frozen? ⟨w.heap.size, j, none⟩ = false := by
  simp [go_sem]
theorem eff_set (w : World) (b o : Nat) (v : Value) : Eff b (b + 1) w (w.setCell ⟨b, o, none⟩ v) := (Eff.refl _ _ _).setCell (Nat.le_refl b) (Nat.lt_succ_self b) v
theorem set_same {w : World} {b o : Nat} {u : Value} (h : w.cell? ⟨b, o, none⟩ = some u) (v : Value) : (w.setCell ⟨b, o, none⟩ v).cell? ⟨b, o, none⟩ = some v := World.cell?_setCell_same w _ _ h
theorem set_other {w : World} {b o b' o' : Nat} {u : Value} (h : w.cell? ⟨b, o, none⟩ = some u) (v : Value) (hn : b ≠ b' ∨ o ≠ o') : (w.setCell ⟨b', o', none⟩ v).cell? ⟨b, o, none⟩ = some u := by
  rw [World.cell?_setCell_other w ⟨b', o', none⟩ ⟨b, o, none⟩ v (fun e => by simp only [Addr.mk.injEq] at e; omega)]
  exact h
theorem set_frozen {w : World} {p q : Addr} (h : w.frozen? q = false) (v : Value) : (w.setCell p v).frozen? q = false := (World.frozen?_setCell _ _ _ _).trans h
theorem Eff.undrew {lo hi : Nat} {w w' : World} (h : Eff lo hi w w') : Eff lo hi w.drew w' := ⟨h.os, h.tape, h.output, h.size, h.block⟩
theorem Own.drew {e s lo hi n c : Nat} {w : World} {A : Option Addr} {xs : List Value} (h : Own e s w lo hi A n c xs) : Own e s w.drew lo hi A n c xs := ⟨h.row, h.top, h.le⟩
theorem Eff.of_low {lo : Nat} {w w' : World} (h : Below lo w w') : Eff lo w.heap.size w w' := ⟨h.os, h.tape, h.output, h.size, fun k hk hn => h.block k (by omega)⟩
/-- A new row of one cell. -/
theorem new_row1 (w : World) (u : Value) (e : TypeId) : Own e 1 (w.alloc (.cells #[u] e)) w.heap.size (w.heap.size + 1) (some ⟨w.heap.size, 0, none⟩) 1 1 [u] :=
  ⟨⟨rfl, .inr ⟨w.heap.size, 1, #[u], rfl, Nat.le_refl _, heap_alloc_new w _, Nat.le_refl _, by unfold maxLen; omega, rfl, rfl⟩⟩, fun k hk => by simp [Value.ownBlock] at hk; omega, by simp⟩
/-- What is read below B is read alike where nothing below B has changed. -/
theorem Rd.eff {w w' : World} {B s n lo hi : Nat} {A : Option Addr} {xs : List Value} (h : Rd w B s A n xs) (he : Eff lo hi w w') (hd : B ≤ lo ∨ hi = 0) : Rd w' B s A n xs :=
  ⟨h.1, h.2.imp id fun ⟨b, off, e, hb, hc⟩ => ⟨b, off, e, hb, fun j u hu => he.cell (hc j u hu) (by simp only; omega)⟩⟩
end Go.Proofs.Ytblenfhacaecmaa
