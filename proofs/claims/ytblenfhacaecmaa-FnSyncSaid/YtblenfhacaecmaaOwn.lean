/- Slices of the call's own, over any program: 'Eff' (which old blocks may have changed), 'Own' (a row of one's own between two block numbers). -/
import Derived.Test.YtblenfhacaecmaaMem
import Derived.Maps.AppendAt
import Derived.OwnWalk
namespace Go.Proofs.Ytblenfhacaecmaa
open Go.RowKit

/-- Of what was there only blocks from lo on and below hi may have changed. -/
structure Eff (lo hi : Nat) (w w' : World) : Prop where
  os : w'.os = w.os
  tape : w'.tape = w.tape
  output : w'.output = w.output
  size : w.heap.size ≤ w'.heap.size
  block : ∀ k, k < w.heap.size → (k < lo ∨ hi ≤ k) → w'.heap[k]? = w.heap[k]?
theorem Eff.of_below {lo hi B : Nat} {w w' : World} (h : Below B w w') (hB : w.heap.size ≤ B) : Eff lo hi w w' := ⟨h.os, h.tape, h.output, h.size, fun k hk _ => h.block k (by omega)⟩
theorem Eff.of_grown {lo hi : Nat} {w w' : World} {r : Option Nat} (h : w.grownBy w' r) (hr : ∀ k, r = some k → lo ≤ k ∧ k < hi) : Eff lo hi w w' :=
  ⟨h.os, h.tape, h.output, h.size, fun k hk hn => h.block k hk (fun e => by have := hr k e.symm; omega)⟩
theorem Eff.refl (lo hi : Nat) (w : World) : Eff lo hi w w := ⟨rfl, rfl, rfl, Nat.le_refl _, fun _ _ _ => rfl⟩
theorem Eff.trans {lo hi : Nat} {a b c : World} (h : Eff lo hi a b) (k : Eff lo hi b c) : Eff lo hi a c :=
  ⟨k.os.trans h.os, k.tape.trans h.tape, k.output.trans h.output, Nat.le_trans h.size k.size, fun i hi hn => (k.block i (Nat.lt_of_lt_of_le hi h.size) hn).trans (h.block i hi hn)⟩
theorem Eff.wide {lo hi lo' hi' : Nat} {w w' : World} (h : Eff lo hi w w') (h1 : lo' ≤ lo) (h2 : hi ≤ hi') : Eff lo' hi' w w' := ⟨h.os, h.tape, h.output, h.size, fun k hk hn => h.block k hk (by omega)⟩
theorem Eff.below {lo hi B : Nat} {w w' : World} (h : Eff lo hi w w') (hB : B ≤ w.heap.size) (hlo : B ≤ lo ∨ hi ≤ lo) : Below B w w' :=
  ⟨h.os, h.tape, h.output, h.size, fun k hk => h.block k (by omega) (by omega)⟩
/-- Nothing that was there has changed. -/
theorem Eff.of {w w' : World} (h : Below w.heap.size w w') : Eff 0 0 w w' := Eff.of_below h (Nat.le_refl _)
theorem Eff.all {w w' : World} (h : Eff 0 0 w w') : Below w.heap.size w w' := h.below (Nat.le_refl _) (.inr (Nat.le_refl _))

/-- A row of the call's own, its block from lo on and below hi: n elements of type e, s cells each. -/
structure Own (e s : Nat) (w : World) (lo hi : Nat) (A : Option Addr) (n c : Nat) (xs : List Value) : Prop where
  row : w.ownsRow lo e s (.slice A n c) n xs
  top : ∀ k, (Value.slice A n c).ownBlock = some k → k < hi
  le : hi ≤ w.heap.size

section
variable {e s lo hi lo' hi' n c B : Nat} {w w' : World} {A : Option Addr} {xs : List Value}
theorem Own.nil (e s : Nat) (w : World) (lo hi : Nat) (h : hi ≤ w.heap.size) : Own e s w lo hi none 0 0 [] := ⟨World.ownsRow_nil _ _ _ _, by simp [Value.ownBlock], h⟩
theorem Own.len (h : Own e s w lo hi A n c xs) : xs.length = n * s := h.row.1
theorem Own.keep (h : Own e s w lo hi A n c xs) (he : Eff lo' hi' w w') (hd : hi ≤ lo' ∨ hi' ≤ lo ∨ hi' ≤ lo') : Own e s w' lo hi A n c xs := by
  refine ⟨⟨h.row.1, ?_⟩, h.top, Nat.le_trans h.le he.size⟩
  rcases h.row.2 with hx | ⟨g, cap, cur, hv, hb, hh, r⟩
  · exact .inl hx
  · have ht := h.top g (by rw [hv]; rfl)
    exact .inr ⟨g, cap, cur, hv, hb, (he.block g (lt_of_block hh) (by omega)).trans hh, r⟩
theorem Own.wide (h : Own e s w lo hi A n c xs) (h1 : lo' ≤ lo) (h2 : hi ≤ hi') (h3 : hi' ≤ w.heap.size) : Own e s w lo' hi' A n c xs := by
  refine ⟨⟨h.row.1, ?_⟩, fun k hk => Nat.lt_of_lt_of_le (h.top k hk) h2, h3⟩
  rcases h.row.2 with hx | ⟨g, cap, cur, hv, hb, r⟩
  · exact .inl hx
  · exact .inr ⟨g, cap, cur, hv, by omega, r⟩
theorem Own.rd (h : Own e s w lo hi A n c xs) (hB : hi ≤ B) : Rd w B s A n xs := by
  rcases h.row.2 with ⟨hv, hn⟩ | ⟨g, cap, cur, hv, hb, hh, _⟩
  · subst hn
    exact ⟨h.row.1, .inl (List.eq_nil_of_length_eq_zero (by simpa using h.row.1))⟩
  · simp only [Value.slice.injEq, true_and] at hv
    obtain ⟨rfl, rfl⟩ := hv
    refine ⟨h.row.1, .inr ⟨g, 0, rfl, Nat.lt_of_lt_of_le (h.top g rfl) hB, fun j u hu => ?_⟩⟩
    have := h.row.cells (g := g) rfl j u hu
    simpa [Addr.add_lit] using this
/-- Where there is an element: its block, its cells, that they may be written. -/
theorem Own.form (h : Own e s w lo hi A n c xs) (hn : 0 < n) : ∃ g, A = some ⟨g, 0, none⟩ ∧ lo ≤ g ∧ g < hi ∧ (∀ j, j < n * s → w.cell? ⟨g, j, none⟩ = xs[j]?) ∧ ∀ j, w.frozen? ⟨g, j, none⟩ = false := by
  rcases h.row.2 with ⟨hv, hn0⟩ | ⟨g, cap, cur, hv, hb, hh, _⟩
  · omega
  · simp only [Value.slice.injEq, true_and] at hv
    obtain ⟨rfl, rfl⟩ := hv
    exact ⟨g, rfl, hb, h.top g rfl, fun j hj => h.row.cellAt j hj, fun j => h.row.frozenAt j⟩
theorem Own.caps (h : Own e s w lo hi A n c xs) : n ≤ c ∧ c ≤ maxLen := by
  rcases h.row.2 with ⟨hv, hn0⟩ | ⟨g, cap, cur, hv, hb, hh, h1, h2, _⟩
  · simp at hv; omega
  · simp only [Value.slice.injEq, true_and] at hv
    obtain ⟨_, rfl⟩ := hv
    exact ⟨h1, h2⟩
theorem Own.stored {g : Nat} (h : Own e s w lo hi (some ⟨g, 0, none⟩) n c xs) (j : Nat) (u : Value) :
    Own e s (w.setCell ⟨g, j, none⟩ u) lo hi (some ⟨g, 0, none⟩) n c (xs.set j u) ∧ Eff lo hi w (w.setCell ⟨g, j, none⟩ u) := by
  obtain ⟨h1, h2⟩ := h.row.stored j u
  have hl := h.row.lt g rfl
  exact ⟨⟨h1, h.top, by simpa using h.le⟩, Eff.of_grown h2 (fun k hk => by cases hk; exact ⟨hl.1, h.top g rfl⟩)⟩
theorem Own.of_row {v : Value} {base : Nat} (h : w.ownsRow base e s v n xs) : ∃ A c, v = .slice A n c ∧ Own e s w base w.heap.size A n c xs := by
  obtain ⟨A, c, rfl, _⟩ := Rd.own h
  exact ⟨A, c, rfl, h, fun k hk => (h.lt k hk).2, Nat.le_refl _⟩
theorem Own.drewN (h : Own e s w lo hi A n c xs) (k : Nat) : Own e s (w.drewN k) lo hi A n c xs := ⟨h.row, h.top, h.le⟩
end

section
variable {P : Program} (w : World)
theorem run_app_nil (t ty e : TypeId) (i : TypeInfo) (size lo : Nat) (ht : P.underlying t = some (.slice e)) (hi : P.info? e = some i) {A : Option Addr} {n c : Nat} {xs : List Value} (hown : w.ownsRow lo e size (.slice A n c) n xs) (c' : Nat) :
    (Builtin.append_ #[t, t] ty #[.slice A n c, .slice none 0 c']).run P w = .ok (.slice A n c) w := by
  rcases hown.2 with ⟨hv, rfl⟩ | ⟨g, cap, cur, hv, _, _, hnc, _⟩
  · simp only [Value.slice.injEq, true_and] at hv
    obtain ⟨rfl, rfl⟩ := hv
    simp [Builtin.append_, run_underlying ht, sizeOf, typeInfo, hi, Builtin.lenOf, Builtin.firstCells]
  · simp only [Value.slice.injEq, true_and] at hv
    obtain ⟨rfl, rfl⟩ := hv
    simp [Builtin.append_, run_underlying ht, sizeOf, typeInfo, hi, Builtin.lenOf, Builtin.firstCells, hnc, storeCells]

/-- 'append(s, x...)': s the call's own, x whatever reads as a list. -/
theorem run_app (t ty e : TypeId) (i : TypeInfo) (z : Value) (size bytes : Nat) (ht : P.underlying t = some (.slice e)) (hi : P.info? e = some i) (hz : i.zero = some z)
    (hsize : i.size = size) (hby : i.bytes = bytes) (hzs : z.cells.size = size) (hsz : 0 < size) {lo top : Nat} {A : Option Addr} {n c : Nat} {xs : List Value} (hown : Own e size w lo top A n c xs)
    {B : Nat} {A' : Option Addr} {m : Nat} {news : List Value} (hr : Rd w B size A' m news) (c' : Nat) (h1 : ∀ u ∈ news, u.oneCell' = true)
    (h63 : n + m ≤ maxLen) (hbytes : (n + m) * bytes ≤ 140737488355328) (hlo : lo ≤ w.heap.size) :
    ∃ A2 c2 w', (Builtin.append_ #[t, t] ty #[.slice A n c, .slice A' m c']).run P w = .ok (.slice A2 (n + m) c2) w' ∧ Own e size w' lo w'.heap.size A2 (n + m) c2 (xs ++ news) ∧ Eff lo top w w' ∧
      (∀ k, (Value.slice A2 (n + m) c2).ownBlock = some k → k < top ∨ w.heap.size ≤ k) := by
  rcases A' with _ | ad
  · have hm : m = 0 ∧ news = [] := by
      rcases hr.2 with h | ⟨b, off, h, _⟩
      · exact ⟨by have := hr.1; rw [h, List.length_nil] at this; rcases Nat.mul_eq_zero.1 this.symm with h | h <;> omega, h⟩
      · cases h
    obtain ⟨rfl, rfl⟩ := hm
    refine ⟨A, c, w, run_app_nil w t ty e i size lo ht hi hown.row c', ?_, Eff.refl _ _ _, fun k hk => .inl (hown.top k hk)⟩
    have := hown.wide (Nat.le_refl lo) hown.le (Nat.le_refl _)
    simpa using this
  · have hcells : ∀ j u, news[j]? = some u → w.cell? (ad.add j) = some u := by
      intro j u hu
      rcases hr.2 with h | ⟨b, off, h, _, hc⟩
      · rw [h] at hu; simp at hu
      · injection h with h
        subst h
        rw [Addr.add_lit]
        exact hc j u hu
    obtain ⟨v', w', hrun, h2, h3, _, h5⟩ := run_append_own_at (P := P) w lo t ty e i z size bytes ht hi hz hsize hby hzs hsz _ n xs hown.row ad m c' news hr.1 hcells h1 h63 hbytes hlo
    obtain ⟨A2, c2, rfl, hO⟩ := Own.of_row h2
    refine ⟨A2, c2, w', hrun, hO, Eff.of_grown h3 (fun k hk => ⟨(hown.row.lt k hk).1, hown.top k hk⟩), fun k hk => ?_⟩
    rcases h5 with h | h
    · exact .inl (hown.top k (by rw [← h]; exact hk))
    · rw [h] at hk; cases hk; exact .inr (Nat.le_refl _)

theorem wpList_app {ops : Array Oper} {rest : List Oper} {o : Oper} {a : Act} {Q : Exit → Act → World → Prop} (hgd : o.guard = none) (s x : Operand) (t : TypeId)
    (ho : o.op = .call { callee := .builtin .append, args := #[s, x], argTypes := #[t, t] })
    (e : TypeId) (i : TypeInfo) (z : Value) (size bytes : Nat) (ht : P.underlying t = some (.slice e)) (hi : P.info? e = some i) (hz : i.zero = some z)
    (hsize : i.size = size) (hby : i.bytes = bytes) (hzs : z.cells.size = size) (hsz : 0 < size) {lo top : Nat} {A : Option Addr} {n c : Nat} {xs : List Value} (hs : a.eval s = .slice A n c) (hown : Own e size w lo top A n c xs)
    {B : Nat} {A' : Option Addr} {m : Nat} {news : List Value} (c' : Nat) (hx : a.eval x = .slice A' m c') (hr : Rd w B size A' m news) (h1 : ∀ u ∈ news, u.oneCell' = true)
    (h63 : n + m ≤ maxLen) (hbytes : (n + m) * bytes ≤ 140737488355328) (hlo : lo ≤ w.heap.size)
    (h : ∀ A2 c2 w', Own e size w' lo w'.heap.size A2 (n + m) c2 (xs ++ news) → Eff lo top w w' → (∀ k, (Value.slice A2 (n + m) c2).ownBlock = some k → k < top ∨ w.heap.size ≤ k) → wpList P ops Q rest (a.put o.dst (.slice A2 (n + m) c2)) w') :
    wpList P ops Q (o :: rest) a w := by
  refine wpList_plain hgd fun K hK => ?_
  obtain ⟨A2, c2, w', hrun, h2, h3, h4⟩ := run_app (P := P) w t o.type e i z size bytes ht hi hz hsize hby hzs hsz hown hr c' h1 h63 hbytes hlo
  unfold Oper.wp execOp
  simp only [ho, resolve, invoke, builtin, Sem.run_bind, Sem.run_pure, Result.andThen_ok, List.map_toArray, List.map_cons, List.map_nil, hs, hx, hrun]
  exact hK _ _ (h A2 c2 w' h2 h3 h4)
end

/-- One new cell, as a slice of one element. -/
theorem rd_new1 (w : World) (u : Value) (t : TypeId) : Rd (w.alloc (.cells #[u] t)) (w.heap.size + 1) 1 (some ⟨w.heap.size, 0, none⟩) 1 [u] := by
  refine ⟨rfl, .inr ⟨w.heap.size, 0, rfl, by omega, fun j v hv => ?_⟩⟩
  match j, hv with
  | 0, hv =>
    simp only [List.getElem?_cons_zero, Option.some.injEq] at hv
    subst hv
    rw [cell_of_row _ w.heap.size _ _ _ _ (heap_alloc_new w _)]
    rfl
theorem Eff.alloc (w : World) (o : Obj) : Eff 0 0 w (w.alloc o) := Eff.of ((Below.refl _ _).alloc (Nat.le_refl _) o)
theorem Own.alloc {e s lo hi n c : Nat} {w : World} {A : Option Addr} {xs : List Value} (h : Own e s w lo hi A n c xs) (o : Obj) : Own e s (w.alloc o) lo hi A n c xs := h.keep (Eff.alloc w o) (.inr (.inr (Nat.le_refl _)))
theorem Own.up {e s lo hi n c : Nat} {w : World} {A : Option Addr} {xs : List Value} (h : Own e s w lo hi A n c xs) : Own e s w lo w.heap.size A n c xs := h.wide (Nat.le_refl _) h.le (Nat.le_refl _)
/-- A new row of no cells ('[]T{}'). -/
theorem new_empty (w : World) (e s : Nat) : Own e s (w.alloc (.cells #[] e)) w.heap.size (w.heap.size + 1) (some ⟨w.heap.size, 0, none⟩) 0 0 [] :=
  ⟨⟨by simp, .inr ⟨w.heap.size, 0, #[], rfl, Nat.le_refl _, heap_alloc_new w _, Nat.le_refl _, Nat.zero_le _, by simp, by simp⟩⟩, fun k hk => by simp [Value.ownBlock] at hk; omega, by simp⟩
end Go.Proofs.Ytblenfhacaecmaa
