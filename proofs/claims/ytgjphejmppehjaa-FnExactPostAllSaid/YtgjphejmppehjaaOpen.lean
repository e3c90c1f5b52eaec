/- Arguments opened out of their readings: a slice of bytes inside a struct; structs of one-cell fields. Over any program. -/
import Derived.Test.YtgjphejmppehjaaMem
import Derived.Lib.SmallJoins
namespace Go.Proofs.Ytgjphejmppehjaa
open Go.RowKit Go.ChangeShapes Go.WideShapes Go.Deep Go.WideElems Go.Maps
section
variable {H : Type} {enc : TypeId × Value → H} {P : Program} {W : World} {held : Bool}
/-- A cell that reads as a slice of bytes. -/
theorem open_bytesT {t e : TypeId} {v : Value} {y : DataW H × List MemPlace} {fuel : Nat} (ht : P.underlying t = some (.slice e)) (he : P.underlying e = some (.int .u8)) (hC : P.cellsOf e = 1)
    (hf : DataW.trod enc P W 0 (fun _ => true) held fuel t [v] = some y) :
    ∃ A n c, ∃ l : List UInt8, v = .slice A n c ∧ n ≤ c ∧ c ≤ maxLen ∧ Rd W W.heap.size 1 A n (Lib.byteCells l) := by
  rcases open_ints ht he hC hf with ⟨hcs, _⟩ | ⟨x, len, cap, zs, hcs, _, hl, hm, hz, _, hcell, hwz⟩
  · simp at hcs
    subst hcs
    exact ⟨none, 0, 0, [], rfl, Nat.le_refl _, Nat.zero_le _, Rd.nil⟩
  · simp at hcs
    subst hcs
    simp at hz
    have hb : ∀ n ∈ zs, 0 ≤ n ∧ n < 256 := fun n hn => by
      have := bounds_u8 (hwz n hn); omega
    refine ⟨some x, len, cap, (zs.take len).map fun z => UInt8.ofNat z.toNat, rfl, hl, hm, ?_⟩
    have hcells : Lib.byteCells ((zs.take len).map fun z => UInt8.ofNat z.toNat) = (zs.take len).map (Value.int .u8) := by
      simp only [Lib.byteCells, List.map_map]
      refine List.map_congr_left fun z hz' => ?_
      have := hb z (List.mem_of_mem_take hz')
      simp only [Function.comp_apply, UInt8.toNat_ofNat']
      congr 1
      omega
    rw [hcells]
    refine ⟨by simp; omega, ?_⟩
    by_cases h0 : len = 0
    · subst h0; exact .inl (by simp)
    · have hc0 := hcell 0 (by omega)
      have hsp : x.spot = none := by
        have := World.cell?_spot hc0
        simpa [Addr.add] using this
      obtain ⟨b, off, spot⟩ := x
      simp only at hsp
      subst hsp
      refine .inr ⟨b, off, rfl, ?_, fun j u hu => ?_⟩
      · have := block_lt_of_cell hc0
        simpa [Addr.add_lit] using this
      · have hj : j < len := by
          have := (List.getElem?_eq_some_iff.1 hu).1
          simp at this; omega
        have hcj := hcell j (by omega)
        rw [Addr.add_lit] at hcj
        rw [hcj, ← hu]
        simp [hj, List.getD, show j < zs.length by omega]

theorem open_int1 {t : TypeId} {v : Value} {y : DataW H × List MemPlace} {fuel : Nat} (ht : P.underlying t = some (.int .i64)) (hf : DataW.trod enc P W 0 (fun _ => true) held fuel t [v] = some y) :
    ∃ n, v = .int .i64 n ∧ (Lit.int .i64 n).wf = true := by
  obtain ⟨n, hn, _, h⟩ := DataW.trod_int ht hf
  exact ⟨n, by simpa using hn, h⟩
theorem open_bool1 {t : TypeId} {v : Value} {y : DataW H × List MemPlace} {fuel : Nat} (ht : P.underlying t = some .bool) (hf : DataW.trod enc P W 0 (fun _ => true) held fuel t [v] = some y) :
    ∃ b, v = .bool b := by
  obtain ⟨n, hn, _⟩ := DataW.trod_bool ht hf
  exact ⟨n, by simpa using hn⟩
theorem array7 {α : Type} {cs : Array α} (h : cs.size = 7) : ∃ c0 c1 c2 c3 c4 c5 c6, cs = #[c0, c1, c2, c3, c4, c5, c6] := by
  obtain ⟨l⟩ := cs
  match l, h with
  | [c0, c1, c2, c3, c4, c5, c6], _ => exact ⟨c0, c1, c2, c3, c4, c5, c6, rfl⟩
/-- One field of a struct of one-cell fields. -/
theorem field_of {fs : Array Field} {t : TypeId} {fuel : Nat} {cs : List Value} {x : DataW H × List MemPlace} (hs : P.underlying t = some (.struct fs)) (hone : oneCellFields P fs = true)
    (h : DataW.trod enc P W 0 (fun _ => true) held fuel t cs = some x) (i : Nat) (f : Field) (hf : fs[i]? = some f) (c : Value) (hc : cs[i]? = some c) :
    ∃ m y, DataW.trod enc P W 0 (fun _ => true) held m f.type [c] = some y := by
  obtain ⟨xs, n, _, rfl, hl, hlen, hfs⟩ := DataW.trod_struct hs h
  obtain ⟨o0, k0⟩ := hone_of hone i f hf
  have h1 := hfs i f hf
  have hi : i < xs.length := by rw [hlen]; exact (Array.getElem?_eq_some_iff.1 hf).1
  rw [List.getElem?_eq_getElem hi, o0, k0] at h1
  have h2 : (cs.drop i).take 1 = [c] := by
    obtain ⟨hlt, he⟩ := List.getElem?_eq_some_iff.1 hc
    rw [List.drop_eq_getElem_cons hlt, he]
    simp
  rw [h2] at h1
  exact ⟨n, _, h1⟩
end
end Go.Proofs.Ytgjphejmppehjaa
