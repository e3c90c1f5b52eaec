/- 'string(b)' of a slice of bytes; a slice of a slice; over any program. -/
import Derived.Test.YtblenfhacaecmaaMem
import Derived.Laws.BytesArg
import Derived.Shelf.Bytes.SlSmallAll
import Derived.MapKept
namespace Go.Proofs.Ytblenfhacaecmaa
open Go.RowKit
/-- The string of a list of bytes. -/
def bstr (l : List UInt8) : ByteArray := ⟨l.toArray⟩
theorem bstr_inj {l l' : List UInt8} (h : bstr l = bstr l') : l = l' := by
  have := congrArg (fun b : ByteArray => b.data.toList) h
  simpa [bstr] using this
theorem bstr_same (l : List UInt8) : (bstr l == bstr l) = true := (MapKept.bytes_beq _ _).2 rfl
theorem bstr_other {l l' : List UInt8} (h : l ≠ l') : (bstr l == bstr l') = false := by
  rcases hb : (bstr l == bstr l') with _ | _
  · rfl
  · exact absurd (bstr_inj ((MapKept.bytes_beq _ _).1 hb)) h
theorem bstr_ne {l l' : List UInt8} (h : l ≠ l') : (bstr l != bstr l') = true := by unfold bne; rw [bstr_other h]; rfl
theorem bstr_eq (l : List UInt8) : (bstr l != bstr l) = false := by unfold bne; rw [bstr_same]; rfl
theorem bstr_size (l : List UInt8) : (bstr l).size = l.length := by simp [bstr, ByteArray.size]
theorem bstr_nums (l : List UInt8) : strOfNums (l.map fun c => (c.toNat : Int)) = bstr l := by
  simp [strOfNums, bstr, Function.comp_def]
section
variable {P : Program} {w : World} {B n : Nat} {A : Option Addr} {l : List UInt8}
theorem Rd.str (h : Rd w B 1 A n (Lib.byteCells l)) (src e : TypeId) (c : Nat) (hs : P.underlying src = some (.slice e)) (he : P.underlying e = some (.int .u8)) (dst : TypeId) (hd : P.underlying dst = some .string) :
    (convert src dst (.slice A n c)).run P w = .ok (.string (bstr l)) w := by
  have hlen : l.length = n := by have := h.1; simpa [Lib.byteCells] using this
  rcases h.2 with h0 | ⟨b, off, rfl, _, hc⟩
  · have hl0 : l = [] := by simpa [Lib.byteCells] using h0
    subst hl0
    have : n = 0 := by simpa using hlen.symm
    subst this
    exact run_convert_bytes_zero w src e hs he A c dst hd
  · rw [run_convert_bytes_arg w src e hs he b off n c (l.map fun c => (c.toNat : Int)) (by simpa using hlen) (fun i hi => ?_) dst hd, bstr_nums]
    rw [hc i _ (byteCells_get l i (by omega))]
    simp [List.getD, show i < l.length by omega]
/-- 'b[lo:hi]'. -/
theorem Rd.sub {b off lo m : Nat} (h : Rd w B 1 (some ⟨b, off, none⟩) n (Lib.byteCells l)) (hm : lo + m ≤ n) : Rd w B 1 (some ⟨b, off + lo, none⟩) m (Lib.byteCells ((l.drop lo).take m)) := by
  have hlen : l.length = n := by have := h.1; simpa [Lib.byteCells] using this
  have hb : (Lib.byteCells ((l.drop lo).take m)).length = m * 1 := by simp [Lib.byteCells]; omega
  rcases h.2 with h0 | ⟨b', off', he, hbB, hc⟩
  · have hl0 : l = [] := by simpa [Lib.byteCells] using h0
    subst hl0
    exact ⟨hb, .inl (by simp [Lib.byteCells])⟩
  · simp only [Option.some.injEq, Addr.mk.injEq] at he
    obtain ⟨rfl, rfl, _⟩ := he
    refine ⟨hb, .inr ⟨b, off + lo, rfl, hbB, fun j u hu => ?_⟩⟩
    have hj : j < m := by
      have := (List.getElem?_eq_some_iff.1 hu).1
      omega
    have h1 := hc (lo + j) _ (byteCells_get l (lo + j) (by omega))
    rw [Nat.add_assoc, h1, ← hu]
    simp [Lib.byteCells, hj, List.getElem?_drop, show lo + j < l.length by omega]
end
end Go.Proofs.Ytblenfhacaecmaa
