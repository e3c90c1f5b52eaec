/- TextEvent of the program. -/
import Derived.Test.YtnjdmmdbminmoaaDoorEt
import Derived.Test.YtnjdmmdbminmoaaDoorTa
namespace Go.Proofs.YtnjdmmdbminmoaaDoor
open Go.RowKit
/-- An event with this text. -/
def isEvt (l : List UInt8) (k key ch to amt fee : Int) (y : Bool) : Prop := evOk k key ch to amt fee y = true ∧ evT k key ch to amt fee y = l
def RdEvt (l : List UInt8) (w : World) (e : Ending) (w' : World) : Prop :=
  ((∃ k key ch to amt fee y, isEvt l k key ch to amt fee y ∧ e = .returned (.tuple #[.agg #[.int .i64 k, .int .i64 key, .int .i64 ch, .int .i64 to, .int .i64 amt, .int .i64 fee, .bool y], .bool true])) ∨
    ((∀ k key ch to amt fee y, ¬ isEvt l k key ch to amt fee y) ∧ e = .returned (.tuple #[.agg #[.int .i64 0, .int .i64 0, .int .i64 0, .int .i64 0, .int .i64 0, .int .i64 0, .bool false], .bool false]))) ∧ Below w.heap.size w w'
theorem rdEvt_yes {l : List UInt8} {k key ch to amt fee : Int} {y : Bool} {w w' : World} (h : isEvt l k key ch to amt fee y) (hb : Below w.heap.size w w') : RdEvt l w (.returned (.tuple #[.agg #[.int .i64 k, .int .i64 key, .int .i64 ch, .int .i64 to, .int .i64 amt, .int .i64 fee, .bool y], .bool true])) w' := ⟨.inl ⟨k, key, ch, to, amt, fee, y, h, rfl⟩, hb⟩
theorem rdEvt_no {l : List UInt8} {w w' : World} (h : ∀ k key ch to amt fee y, ¬ isEvt l k key ch to amt fee y) (hb : Below w.heap.size w w') : RdEvt l w (.returned (.tuple #[.agg #[.int .i64 0, .int .i64 0, .int .i64 0, .int .i64 0, .int .i64 0, .int .i64 0, .bool false], .bool false])) w' := ⟨.inr ⟨h, rfl⟩, hb⟩
/-- What an event with this text is, out of its pieces. -/
theorem isEvt_read {l : List UInt8} {k key ch to amt fee : Int} {y : Bool} (h : isEvt l k key ch to amt fee y) :
    kdP (parts l) = k ∧ rdKey (parts l) k = key ∧ rdCh (parts l) k = ch ∧ rdTo (parts l) k = to ∧ rdAmt (parts l) k = amt ∧ rdFee (parts l) k = fee ∧ rdYes (parts l) k = y := by
  obtain ⟨h1, rfl⟩ := h
  rw [parts_evT h1]
  exact ev_back h1
/-- What is written at field o by the first i numbers. -/
def fldAt (ps : List (List UInt8)) (os : List Nat) : Nat → Nat → Int
  | 0, _ => 0
  | i + 1, o => if os[i]? = some o ∧ i + 1 < ps.length then rdPc ps (i + 1) else fldAt ps os i o
theorem rdPc_if (ps : List (List UInt8)) (j : Nat) : (if j < ps.length then rdPc ps j else 0) = rdPc ps j := by
  split
  · rfl
  · next h => unfold rdPc; rw [List.getElem?_eq_none (by omega)]
theorem fld_rd (ps : List (List UInt8)) {k : Int} (h0 : 0 ≤ k) (h11 : k ≤ 11) : fldAt ps (offs k) (offs k).length 1 = rdKey ps k ∧ fldAt ps (offs k) (offs k).length 2 = rdCh ps k ∧ fldAt ps (offs k) (offs k).length 3 = rdTo ps k ∧ fldAt ps (offs k) (offs k).length 4 = rdAmt ps k ∧ fldAt ps (offs k) (offs k).length 5 = rdFee ps k := by
  have hc : k = 0 ∨ k = 1 ∨ k = 2 ∨ k = 3 ∨ k = 4 ∨ k = 5 ∨ k = 6 ∨ k = 7 ∨ k = 8 ∨ k = 9 ∨ k = 10 ∨ k = 11 := by omega
  rcases hc with rfl | rfl | rfl | rfl | rfl | rfl | rfl | rfl | rfl | rfl | rfl | rfl <;>
    simp [offs, fldAt, rdKey, rdCh, rdTo, rdAmt, rdFee, rdPc_if]
theorem new_rowM (w : World) (us : List Value) (t : TypeId) (h : us.length ≤ maxLen) : Own t 1 (w.alloc (.cells us.toArray t)) w.heap.size (w.heap.size + 1) (some ⟨w.heap.size, 0, none⟩) us.length us.length us :=
  ⟨⟨by simp, .inr ⟨w.heap.size, us.length, us.toArray, rfl, Nat.le_refl _, heap_alloc_new w _, Nat.le_refl _, h, by simp, by simp⟩⟩, fun k hk => by simp [Value.ownBlock] at hk; omega, by simp⟩
theorem map_bstr {xs : List ByteArray} {ls : List (List UInt8)} (h : xs.map (·.data.toList) = ls) : xs.map Value.string = strs ls := by
  subst h
  rw [strs, List.map_map]
  rfl
/-- strings.Split at a blank. -/
theorem split_parts (s : ByteArray) (hs : s.size ≤ 1048576) (w : World) (hM : PMax w) : Calls Tryd.prog 41 #[.string s, .string ⟨#[32]⟩] w fun e w' =>
    ∃ N, (parts s.data.toList).length = N ∧ e = .returned (.slice (some ⟨w.heap.size, 0, none⟩) N N) ∧ Own 9 1 w' w.heap.size w'.heap.size (some ⟨w.heap.size, 0, none⟩) N N (strs (parts s.data.toList)) ∧ Below w.heap.size w w' := by
  obtain ⟨m, hm⟩ := hM
  refine (Tryd.strings_Split s ⟨#[32]⟩ m w (by omega) hm (by decide)).mono ?_
  rintro e w' ⟨rfl, rfl⟩
  have h1 := splitB_parts s ⟨#[32]⟩ rfl
  have hle := parts_len s.data.toList
  have hsl : s.data.toList.length = s.size := by simp
  have h2 := map_bstr h1
  have hct : Lib.countB s ⟨#[32]⟩ = Lib.count s.data.toList [32] := rfl
  rw [hct, h2]
  have h3 : (parts s.data.toList).length = Lib.count s.data.toList [32] + 1 := by
    rw [← h1, List.length_map, Lib.splitB_all _ (by decide) 0 _ s (by rw [hct])]
  refine ⟨_, h3, rfl, ?_, (Below.refl _ _).alloc (Nat.le_refl _) _⟩
  have h4 : (strs (parts s.data.toList)).length = Lib.count s.data.toList [32] + 1 := by rw [strs, List.length_map, h3]
  have := new_rowM w (strs (parts s.data.toList)) 9 (by rw [h4]; unfold maxLen; omega)
  rw [h4] at this
  exact Own.wide this (Nat.le_refl _) (by simp) (Nat.le_refl _)
theorem eq_yes {a b : List UInt8} (h : a = b) : ((bstr a).toList == (bstr b).toList) = true := by subst h; simp
theorem eq_no {a b : List UInt8} (h : a ≠ b) : ((bstr a).toList == (bstr b).toList) = false := by
  rw [ByteArray.toList_eq, ByteArray.toList_eq, bstr_list, bstr_list]
  simpa using h
theorem Eff.anyD' {lo hi : Nat} {w w' : World} (h : Eff 0 0 w w') : Eff lo hi w w' := ⟨h.os, h.tape, h.output, h.size, fun k hk _ => h.block k hk (.inr (Nat.zero_le _))⟩
theorem empty_noE {l : List UInt8} (h : l ≠ []) : (bstr l).toList.isEmpty = false := by
  rw [ByteArray.toList_eq, bstr_list]
  cases l with
  | nil => exact absurd rfl h
  | cons => rfl
theorem empty_yesE : (bstr []).toList.isEmpty = true := by rw [ByteArray.toList_eq, bstr_list]; rfl
end Go.Proofs.YtnjdmmdbminmoaaDoor
