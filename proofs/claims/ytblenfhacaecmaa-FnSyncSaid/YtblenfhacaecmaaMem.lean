/- Words for memory, over any program: a slice that reads as a list of cells ('Rd'); bytes as cells; the argument that is a slice of bytes, opened. No condition. -/
import Derived.Test.YtblenfhacaecmaaAmt1
import Derived.WalkKit
import Derived.ProofKit
import Derived.OpenShut
import Derived.Lib.UnsafeStr
import Derived.Lib.BufferWrite
import Derived.Deep.Draws
namespace Go.Proofs.Ytblenfhacaecmaa
open Go.RowKit

/-- The slice '.slice A n _' reads as the cells xs (s cells an element); its row lies below block B. -/
def Rd (w : World) (B s : Nat) (A : Option Addr) (n : Nat) (xs : List Value) : Prop :=
  xs.length = n * s ∧ (xs = [] ∨ ∃ b off, A = some ⟨b, off, none⟩ ∧ b < B ∧ ∀ j u, xs[j]? = some u → w.cell? ⟨b, off + j, none⟩ = some u)

section
variable {w w' : World} {B B' s n : Nat} {A : Option Addr} {xs : List Value}
theorem Rd.nil : Rd w B s A 0 [] := ⟨by simp, .inl rfl⟩
theorem Rd.zero (h : Rd w B s A 0 xs) : xs = [] := List.eq_nil_of_length_eq_zero (by simpa using h.1)
theorem Rd.keep (h : Rd w B s A n xs) (hk : ∀ p : Addr, p.block < B → w'.cell? p = w.cell? p) : Rd w' B s A n xs :=
  ⟨h.1, h.2.imp id fun ⟨b, off, e, hb, hc⟩ => ⟨b, off, e, hb, fun j u hu => (hk _ hb).trans (hc j u hu)⟩⟩
theorem Rd.more (h : Rd w B s A n xs) (hB : B ≤ B') : Rd w B' s A n xs :=
  ⟨h.1, h.2.imp id fun ⟨b, off, e, hb, hc⟩ => ⟨b, off, e, Nat.lt_of_lt_of_le hb hB, hc⟩⟩
theorem Rd.below (h : Rd w B s A n xs) {C : Nat} (hb : Below C w w') (hC : B ≤ C) : Rd w' B s A n xs := h.keep fun _ hp => hb.cell (Nat.lt_of_lt_of_le hp hC)
theorem Rd.alloc (h : Rd w B s A n xs) (hB : B ≤ w.heap.size) (o : Obj) : Rd (w.alloc o) B s A n xs := h.keep fun p hp => World.cell?_alloc_lt w o p (by omega)
theorem Rd.drewN (h : Rd w B s A n xs) (k : Nat) : Rd (w.drewN k) B s A n xs := h
theorem Rd.drew (h : Rd w B s A n xs) : Rd w.drew B s A n xs := h
theorem Rd.setCell (h : Rd w B s A n xs) {p : Addr} (hB : B ≤ p.block) (u : Value) : Rd (w.setCell p u) B s A n xs :=
  h.keep fun q hq => World.cell?_setCell_other w p q u (fun e => by subst e; omega)
theorem Rd.grown (h : Rd w B s A n xs) {row : Option Nat} (hg : w.grownBy w' row) (hr : ∀ g, row = some g → B ≤ g) : Rd w' B s A n xs :=
  ⟨h.1, h.2.imp id fun ⟨b, off, e, hb, hc⟩ => ⟨b, off, e, hb, fun j u hu => hg.cell (hc j u hu) (fun e => by have := hr b e.symm; omega)⟩⟩
/-- Where there is an element: the address, and each cell. -/
theorem Rd.form (h : Rd w B s A n xs) (hn : 0 < n * s) : ∃ b off, A = some ⟨b, off, none⟩ ∧ b < B ∧ ∀ j u, xs[j]? = some u → w.cell? ⟨b, off + j, none⟩ = some u := by
  rcases h.2 with rfl | h2
  · have := h.1; simp at this; omega
  · exact h2
/-- What the call owns, it can read. -/
theorem Rd.own {base : Nat} {e : TypeId} {v : Value} (h : w.ownsRow base e s v n xs) : ∃ A c, v = .slice A n c ∧ Rd w w.heap.size s A n xs ∧ c ≤ maxLen ∧ n ≤ c := by
  rcases h.2 with ⟨rfl, rfl⟩ | ⟨g, cap, cur, rfl, _, hh, hn, hm, _, _⟩
  · exact ⟨none, 0, rfl, ⟨h.1, .inl (List.eq_nil_of_length_eq_zero (by simpa using h.1))⟩, Nat.zero_le _, Nat.le_refl _⟩
  · refine ⟨_, cap, rfl, ⟨h.1, .inr ⟨g, 0, rfl, lt_of_block hh, fun j u hu => ?_⟩⟩, hm, hn⟩
    have := h.cells (g := g) rfl j u hu
    simpa [Addr.add_lit] using this
end

/-! ### bytes -/
theorem byteCells_get (l : List UInt8) (k : Nat) (h : k < l.length) : (Lib.byteCells l)[k]? = some (.int .u8 (l[k].toNat : Int)) := by
  simp [Lib.byteCells, h]
theorem byte_lt (c : UInt8) : 0 ≤ (c.toNat : Int) ∧ (c.toNat : Int) < 256 := by have := c.toNat_lt; omega

/-- An element of a slice of bytes, in the walk's own spelling. -/
theorem Rd.byte {w : World} {B n : Nat} {A : Option Addr} {l : List UInt8} (h : Rd w B 1 A n (Lib.byteCells l)) {k : Nat} (hk : k < n) :
    ∃ (b off : Nat) (hl : k < l.length), A = some ⟨b, off, none⟩ ∧ b < B ∧ w.cell? ⟨b, off + k, none⟩ = some (.int .u8 (l[k].toNat : Int)) := by
  have hlen : l.length = n := by have := h.1; simpa [Lib.byteCells] using this
  obtain ⟨b, off, e, hb, hc⟩ := h.form (by omega)
  exact ⟨b, off, by omega, e, hb, hc k _ (byteCells_get l k (by omega))⟩

section
open Go.ChangeShapes Go.WideShapes
variable {H : Type} {enc : TypeId × Value → H} {P : Program} {W : World} {held : Bool}
/-- An argument that is a slice of bytes. -/
theorem open_bytes {t e : TypeId} {v : Value} {d : DataW H} {p : List MemPlace} {r : Reach} {b0 : Nat} (ht : P.underlying t = some (.slice e)) (he : P.underlying e = some (.int .u8)) (hC : P.cellsOf e = 1)
    (hv : Value.okWide P W r b0 t v) (h : DataW.Trod enc P W 0 (fun _ => true) held t v d p) :
    ∃ A n c, ∃ l : List UInt8, v = .slice A n c ∧ n ≤ c ∧ c ≤ maxLen ∧ Rd W W.heap.size 1 A n (Lib.byteCells l) := by
  obtain ⟨a0, len, cap, rfl⟩ := okWide_slice ht hv
  obtain ⟨fuel, hf⟩ := h
  rcases open_ints ht he hC hf with ⟨hcs, _⟩ | ⟨x, l, c, zs, hcs, _, hl, hm, hz, _, hcell, hwz⟩
  · simp [Value.cells] at hcs
    obtain ⟨rfl, rfl, rfl⟩ := hcs
    exact ⟨none, 0, 0, [], rfl, Nat.le_refl _, Nat.zero_le _, Rd.nil⟩
  · simp [Value.cells] at hcs
    obtain ⟨rfl, rfl, rfl⟩ := hcs
    simp at hz
    have hb : ∀ n ∈ zs, 0 ≤ n ∧ n < 256 := fun n hn => by
      have := bounds_u8 (hwz n hn); omega
    refine ⟨some x, len, cap, (zs.take len).map fun z => UInt8.ofNat z.toNat, rfl, hl, hm, ?_⟩
    have hcells : Lib.byteCells ((zs.take len).map fun z => UInt8.ofNat z.toNat) = (zs.take len).map (Value.int .u8) := by
      simp only [Lib.byteCells, List.map_map]
      refine List.map_congr_left fun z hz' => ?_
      have := hb z (List.mem_of_mem_take hz')
      simp only [Function.comp_apply, UInt8.toNat_ofNat']
      congr 1
      omega
    rw [hcells]
    refine ⟨by simp; omega, ?_⟩
    by_cases h0 : len = 0
    · subst h0; exact .inl (by simp)
    · have hc0 := hcell 0 (by omega)
      have hsp : x.spot = none := by
        have := World.cell?_spot hc0
        simpa [Addr.add] using this
      obtain ⟨b, off, spot⟩ := x
      simp only at hsp
      subst hsp
      refine .inr ⟨b, off, rfl, ?_, fun j u hu => ?_⟩
      · have := block_lt_of_cell hc0
        simpa [Addr.add_lit] using this
      · have hj : j < len := by
          have := (List.getElem?_eq_some_iff.1 hu).1
          simp at this; omega
        have hcj := hcell j (by omega)
        rw [Addr.add_lit] at hcj
        rw [hcj, ← hu]
        simp [hj, List.getD, show j < zs.length by omega]
end
end Go.Proofs.Ytblenfhacaecmaa
