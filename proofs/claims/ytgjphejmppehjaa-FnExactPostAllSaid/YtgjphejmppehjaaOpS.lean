/- Arguments that are slices of structs, opened out of their readings: element by element. Over any program; then lines, ledgers, postings, disks where the program has them. -/
import Derived.Test.YtgjphejmppehjaaOpen
import Derived.Test.YtgjphejmppehjaaLn
import Derived.Test.YtgjphejmppehjaaSl
import Derived.Deep.Slices
import Derived.Deep.Fields
import Derived.ChangeSame
namespace Go.Proofs.Ytgjphejmppehjaa
open Go.RowKit Go.ChangeShapes Go.WideShapes Go.Deep
section
variable {H : Type} {enc : TypeId × Value → H} {P : Program} {W : World} {held : Bool}
theorem list_of_lt {α : Type} {p : Nat → α → Prop} (n : Nat) (h : ∀ i, i < n → ∃ x, p i x) : ∃ xs : List α, xs.length = n ∧ ∀ i x, xs[i]? = some x → p i x := by
  induction n with
  | zero => exact ⟨[], rfl, fun i x hx => by simp at hx⟩
  | succ n ih =>
    obtain ⟨xs, hl, hx⟩ := ih fun i hi => h i (by omega)
    obtain ⟨y, hy⟩ := h n (by omega)
    refine ⟨xs ++ [y], by simp [hl], fun i x hix => ?_⟩
    by_cases hi : i < n
    · rw [List.getElem?_append_left (by omega)] at hix
      exact hx i x hix
    · have h1 : i < (xs ++ [y]).length := (List.getElem?_eq_some_iff.1 hix).1
      have h2 : i = n := by simp [hl] at h1; omega
      subst h2
      rw [List.getElem?_append_right (by omega), hl] at hix
      simp at hix
      subst hix
      exact hy
theorem flatMap_len {α : Type} {s : Nat} {f : α → List Value} (hf : ∀ x, (f x).length = s) (xs : List α) : (xs.flatMap f).length = xs.length * s := by
  induction xs with
  | nil => simp
  | cons x xs ih => simp only [List.flatMap_cons, List.length_append, hf, ih, List.length_cons, Nat.succ_mul]; omega
theorem flatMap_get {α : Type} {s : Nat} {f : α → List Value} (hf : ∀ x, (f x).length = s) (xs : List α) (i j : Nat) (x : α) (hx : xs[i]? = some x) (hj : j < s) : (xs.flatMap f)[i * s + j]? = (f x)[j]? := by
  induction xs generalizing i with
  | nil => simp at hx
  | cons y xs ih =>
    cases i with
    | zero =>
      simp only [List.getElem?_cons_zero, Option.some.injEq] at hx
      subst hx
      rw [List.flatMap_cons, List.getElem?_append_left (by rw [hf]; omega)]
      simp
    | succ i =>
      rw [List.flatMap_cons, List.getElem?_append_right (by rw [hf, Nat.succ_mul]; omega), hf, show (i + 1) * s + j - s = i * s + j by rw [Nat.succ_mul]; omega]
      exact ih i (by simpa using hx)
/-- A cell that reads as a slice: its elements one by one. -/
theorem open_rows {α : Type} {t e : TypeId} (s : Nat) (f : α → List Value) (p : α → Prop) (ht : P.underlying t = some (.slice e)) (hC : P.cellsOf e = s) (hs : 0 < s) (hf : ∀ x, (f x).length = s)
    (hel : ∀ (fuel : Nat) (cs : List Value) (y : DataW H × List MemPlace), DataW.trod enc P W 0 (fun _ => true) held fuel e cs = some y → ∃ x, cs = f x ∧ p x)
    {v : Value} {y : DataW H × List MemPlace} {fuel : Nat} (h : DataW.trod enc P W 0 (fun _ => true) held fuel t [v] = some y) :
    ∃ (A : Option Addr) (n c : Nat) (xs : List α), v = .slice A n c ∧ n ≤ c ∧ c ≤ maxLen ∧ xs.length = n ∧ Rd W W.heap.size s A n (xs.flatMap f) ∧ ∀ x ∈ xs, p x := by
  rcases open_slice ht h with ⟨hcs, _⟩ | ⟨a, len, cap, m, fu, D, Pl, hcs, _, hl, hm, hmm, _, hi⟩
  · simp at hcs
    subst hcs
    exact ⟨none, 0, 0, [], rfl, Nat.le_refl _, Nat.zero_le _, rfl, Rd.nil, by simp⟩
  · simp at hcs
    subst hcs
    simp at hmm
    obtain ⟨xs, hxl, hxs⟩ := list_of_lt (p := fun i x => p x ∧ ∀ j u, (f x)[j]? = some u → W.cell? (a.add (i * s + j)) = some u) len (fun i hil => by
      obtain ⟨cs', h1, h2⟩ := hi i (by omega)
      obtain ⟨x, rfl, hp⟩ := hel _ _ _ h2
      rw [hC] at h1
      obtain ⟨_, _, hc⟩ := World.cells?_some h1
      refine ⟨x, hp, fun j u hu => ?_⟩
      have hj : j < s := by have := (List.getElem?_eq_some_iff.1 hu).1; rwa [hf] at this
      rw [← Go.Deep.add_add, hc j hj, hu])
    refine ⟨some a, len, cap, xs, rfl, hl, hm, hxl, ⟨by rw [flatMap_len hf, hxl], ?_⟩, fun x hx => ?_⟩
    · by_cases h0 : len = 0
      · have : xs = [] := List.eq_nil_of_length_eq_zero (by omega)
        subst this
        exact .inl rfl
      · obtain ⟨b, off, spot⟩ := a
        have key : ∀ i j u, i < len → (xs.flatMap f)[i * s + j]? = some u → j < s → W.cell? (Addr.add ⟨b, off, spot⟩ (i * s + j)) = some u := by
          intro i j u hil hu hj
          have hx : xs[i]? = some (xs[i]'(by omega)) := List.getElem?_eq_getElem (by omega)
          rw [flatMap_get hf xs i j _ hx hj] at hu
          exact (hxs i _ hx).2 j u hu
        have hall : ∀ q u, (xs.flatMap f)[q]? = some u → W.cell? (Addr.add ⟨b, off, spot⟩ q) = some u := by
          intro q u hu
          have hq : q < len * s := by have := (List.getElem?_eq_some_iff.1 hu).1; rwa [flatMap_len hf, hxl] at this
          have hd : q / s * s + q % s = q := by rw [Nat.mul_comm]; exact Nat.div_add_mod q s
          have := key (q / s) (q % s) u (Nat.div_lt_of_lt_mul (by rw [Nat.mul_comm]; exact hq)) (by rw [hd]; exact hu) (Nat.mod_lt _ hs)
          rwa [hd] at this
        have hlen : 0 < (xs.flatMap f).length := by rw [flatMap_len hf, hxl]; exact Nat.mul_pos (by omega) hs
        have hc0 := hall 0 _ (List.getElem?_eq_getElem hlen)
        have hsp : spot = none := by
          have := World.cell?_spot hc0
          simpa [Addr.add] using this
        subst hsp
        refine .inr ⟨b, off, rfl, ?_, fun j u hu => ?_⟩
        · have := block_lt_of_cell hc0
          simpa [Addr.add_lit] using this
        · have := hall j u hu
          rwa [Addr.add_lit] at this
    · obtain ⟨i, hi, rfl⟩ := List.getElem_of_mem hx
      exact (hxs i _ (List.getElem?_eq_getElem hi)).1
/-- A field of a struct: its cells and their reading. -/
theorem field_cells {fs : Array Field} {t : TypeId} {fuel : Nat} {cs : List Value} {x : DataW H × List MemPlace} (hs : P.underlying t = some (.struct fs))
    (h : DataW.trod enc P W 0 (fun _ => true) held fuel t cs = some x) (i : Nat) (f : Field) (hf : fs[i]? = some f) (t' : TypeId) (o k : Nat) (ht : f.type = t') (ho : f.offset = o) (hk : P.cellsOf t' = k) :
    ∃ m y, DataW.trod enc P W 0 (fun _ => true) held m t' ((cs.drop o).take k) = some y := by
  subst ht ho hk
  obtain ⟨xs, n, _, rfl, hl, hlen, hfs⟩ := DataW.trod_struct hs h
  have hi : i < xs.length := by rw [hlen]; exact (Array.getElem?_eq_some_iff.1 hf).1
  have h1 := hfs i f hf
  rw [List.getElem?_eq_getElem hi] at h1
  exact ⟨n, _, h1⟩
theorem trod_len {fs : Array Field} {t : TypeId} {fuel : Nat} {cs : List Value} {x : DataW H × List MemPlace} (hs : P.underlying t = some (.struct fs))
    (h : DataW.trod enc P W 0 (fun _ => true) held fuel t cs = some x) : cs.length = P.cellsOf t := by
  obtain ⟨xs, n, _, rfl, hl, hlen, hfs⟩ := DataW.trod_struct hs h
  exact hl
def lnCell (x : Ln) : List Value := [.int .i64 x.k, .int .i64 x.c, .int .i64 x.a]
/-- The cells of a line. -/
theorem open_LineT {fuel : Nat} {cs : List Value} {y : DataW H × List MemPlace} (h : DataW.trod enc Try.prog W 0 (fun _ => true) held fuel 78 cs = some y) : ∃ x : Ln, cs = lnCell x ∧ True := by
  have hl := trod_len Try.underlying78 h
  rw [show Try.prog.cellsOf 78 = 3 by kernel_rfl] at hl
  obtain ⟨_, y0, h0⟩ := field_cells Try.underlying78 h 0 _ rfl 48 0 2 rfl rfl (by kernel_rfl)
  obtain ⟨_, y1, h1⟩ := field_cells Try.underlying78 h 1 _ rfl 3 2 1 rfl rfl (by kernel_rfl)
  match cs, hl with
  | [c0, c1, c2], _ =>
    simp only [List.drop_zero, List.take_succ_cons, List.take_zero] at h0
    simp only [List.drop_succ_cons, List.drop_zero, List.take_succ_cons, List.take_zero] at h1
    obtain ⟨a2, rfl, _⟩ := open_int1 Try.underlying3 h1
    obtain ⟨_, z0, k0⟩ := field_of Try.underlying48 (by kernel_rfl) h0 0 _ rfl c0 rfl
    obtain ⟨_, z1, k1⟩ := field_of Try.underlying48 (by kernel_rfl) h0 1 _ rfl c1 rfl
    obtain ⟨a0, rfl, _⟩ := open_int1 Try.underlying3 k0
    obtain ⟨a1, rfl, _⟩ := open_int1 Try.underlying3 k1
    exact ⟨⟨a0, a1, a2⟩, rfl, trivial⟩
theorem open_LinesT {v : Value} {y : DataW H × List MemPlace} {fuel : Nat} (h : DataW.trod enc Try.prog W 0 (fun _ => true) held fuel 22 [v] = some y) :
    ∃ A n c ls, v = .slice A n c ∧ n ≤ c ∧ c ≤ maxLen ∧ Rd W W.heap.size 3 A n (lnCells ls) := by
  obtain ⟨A, n, c, xs, hv, h1, h2, _, hr, _⟩ := open_rows 3 lnCell (fun _ => True) Try.underlying22 (by kernel_rfl) (by omega) (fun _ => rfl) (fun _ _ _ h => open_LineT h) h
  exact ⟨A, n, c, xs, hv, h1, h2, hr⟩
theorem open_Lines {r : Reach} {b0 : Nat} {v : Value} {d : DataW H} {p : List MemPlace} (hv : Value.okWide Try.prog W r b0 22 v) (h : DataW.Trod enc Try.prog W 0 (fun _ => true) held 22 v d p) :
    ∃ A n c ls, v = .slice A n c ∧ n ≤ c ∧ c ≤ maxLen ∧ Rd W W.heap.size 3 A n (lnCells ls) := by
  obtain ⟨a0, len, cap, rfl⟩ := okWide_slice Try.underlying22 hv
  obtain ⟨fuel, hf⟩ := h
  exact open_LinesT (by simpa [Value.cells] using hf)
theorem open_Ledger {r : Reach} {b0 : Nat} {v : Value} {d : DataW H} {p : List MemPlace} (hv : Value.okWide Try.prog W r b0 30 v) (h : DataW.Trod enc Try.prog W 0 (fun _ => true) held 30 v d p) :
    ∃ (q : Int) (A : Option Addr) (n c : Nat) (ls : List Ln), v = .agg #[.int .i64 q, .slice A n c] ∧ n ≤ c ∧ c ≤ maxLen ∧ Rd W W.heap.size 3 A n (lnCells ls) := by
  obtain ⟨c0, c1, y0, y1, m, rfl, rfl, rfl, hy0, hy1⟩ := Joins.open_agg2 Try.underlying30 (by kernel_rfl) (by kernel_rfl) hv h
  obtain ⟨q, rfl, wq⟩ := open_int1 Try.underlying3 hy0
  obtain ⟨A, n, c, ls, rfl, h1, h2, hr⟩ := open_LinesT hy1
  exact ⟨q, A, n, c, ls, rfl, h1, h2, hr⟩
theorem open_Posting {r : Reach} {b0 : Nat} {v : Value} {d : DataW H} {p : List MemPlace} (hv : Value.okWide Try.prog W r b0 39 v) (h : DataW.Trod enc Try.prog W 0 (fun _ => true) held 39 v d p) :
    ∃ (q : Int) (A : Option Addr) (n c : Nat) (ls : List Ln), v = .agg #[.int .i64 q, .slice A n c] ∧ n ≤ c ∧ c ≤ maxLen ∧ Rd W W.heap.size 3 A n (lnCells ls) := by
  obtain ⟨c0, c1, y0, y1, m, rfl, rfl, rfl, hy0, hy1⟩ := Joins.open_agg2 Try.underlying39 (by kernel_rfl) (by kernel_rfl) hv h
  obtain ⟨q, rfl, wq⟩ := open_int1 Try.underlying3 hy0
  obtain ⟨A, n, c, ls, rfl, h1, h2, hr⟩ := open_LinesT hy1
  exact ⟨q, A, n, c, ls, rfl, h1, h2, hr⟩
end
end Go.Proofs.Ytgjphejmppehjaa
