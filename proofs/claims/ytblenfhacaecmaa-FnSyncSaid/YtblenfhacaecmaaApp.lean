/- append in a region that draws its order; 'append(s, make([]byte, m)...)'. -/
import Derived.Test.YtblenfhacaecmaaVar
import Derived.Deep.AppendLies
import Derived.Deep.RegionHeld3
namespace Go.Proofs.Ytblenfhacaecmaa
open Go.RowKit
section
variable {P : Program} (w : World)
theorem wp_app {o : Oper} {a : Act} {K : Act → World → Prop} {Q : Exit → Act → World → Prop} (s x : Operand) (t : TypeId)
    (ho : o.op = .call { callee := .builtin .append, args := #[s, x], argTypes := #[t, t] })
    (e : TypeId) (i : TypeInfo) (z : Value) (size bytes : Nat) (ht : P.underlying t = some (.slice e)) (hi : P.info? e = some i) (hz : i.zero = some z)
    (hsize : i.size = size) (hby : i.bytes = bytes) (hzs : z.cells.size = size) (hsz : 0 < size) {lo top : Nat} {A : Option Addr} {n c : Nat} {xs : List Value} (hs : a.eval s = .slice A n c) (hown : Own e size w lo top A n c xs)
    {B : Nat} {A' : Option Addr} {m : Nat} {news : List Value} (c' : Nat) (hx : a.eval x = .slice A' m c') (hr : Rd w B size A' m news) (h1 : ∀ u ∈ news, u.oneCell' = true)
    (h63 : n + m ≤ maxLen) (hbytes : (n + m) * bytes ≤ 140737488355328) (hlo : lo ≤ w.heap.size)
    (h : ∀ A2 c2 w', Own e size w' lo w'.heap.size A2 (n + m) c2 (xs ++ news) → Eff lo top w w' → (∀ k, (Value.slice A2 (n + m) c2).ownBlock = some k → k < top ∨ w.heap.size ≤ k) → K (a.put o.dst (.slice A2 (n + m) c2)) w') :
    Oper.wp P o a w K Q := by
  obtain ⟨A2, c2, w', hrun, h2, h3, h4⟩ := run_app (P := P) w t o.type e i z size bytes ht hi hz hsize hby hzs hsz hown hr c' h1 h63 hbytes hlo
  unfold Oper.wp execOp
  simp only [ho, resolve, invoke, builtin, Sem.run_bind, Sem.run_pure, Result.andThen_ok, List.map_toArray, List.map_cons, List.map_nil, hs, hx, hrun]
  exact h A2 c2 w' h2 h3 h4
theorem step_app {ops : Array Oper} {o : Oper} {a : Act} {K : Act → World → Prop} {Q : Exit → Act → World → Prop} {E : Prop} (hgd : o.guard = none) (s x : Operand) (t : TypeId)
    (ho : o.op = .call { callee := .builtin .append, args := #[s, x], argTypes := #[t, t] })
    (e : TypeId) (i : TypeInfo) (z : Value) (size bytes : Nat) (ht : P.underlying t = some (.slice e)) (hi : P.info? e = some i) (hz : i.zero = some z)
    (hsize : i.size = size) (hby : i.bytes = bytes) (hzs : z.cells.size = size) (hsz : 0 < size) {lo top : Nat} {A : Option Addr} {n c : Nat} {xs : List Value} (hs : a.eval s = .slice A n c) (hown : Own e size w lo top A n c xs)
    {B : Nat} {A' : Option Addr} {m : Nat} {news : List Value} (c' : Nat) (hx : a.eval x = .slice A' m c') (hr : Rd w B size A' m news) (h1 : ∀ u ∈ news, u.oneCell' = true)
    (h63 : n + m ≤ maxLen) (hbytes : (n + m) * bytes ≤ 140737488355328) (hlo : lo ≤ w.heap.size)
    (h : ∀ A2 c2 w', Own e size w' lo w'.heap.size A2 (n + m) c2 (xs ++ news) → Eff lo top w w' → (∀ k, (Value.slice A2 (n + m) c2).ownBlock = some k → k < top ∨ w.heap.size ≤ k) → K (a.put o.dst (.slice A2 (n + m) c2)) w') :
    if Region.wanted o (yielded ops a.tmps) = true then Oper.wp P o a w K Q else E := by
  have hw : Region.wanted o (yielded ops a.tmps) = true := by simp [Region.wanted, hgd]
  rw [if_pos hw]
  exact wp_app w s x t ho e i z size bytes ht hi hz hsize hby hzs hsz hs hown c' hx hr h1 h63 hbytes hlo h

def zs (m : Nat) : List Value := List.replicate m (.int .u8 0)
theorem zeroCells_u8 (m : Nat) : Builtin.zeroCells #[Value.int .u8 0] m = (zs m).toArray := by
  apply Array.ext
  · simp [Builtin.zeroCells, zs]
  · intro k h1 h2
    simp [Builtin.zeroCells, zs, Nat.mod_one]
theorem byteCells_zeros (m : Nat) : Lib.byteCells (List.replicate m 0) = zs m := by simp [Lib.byteCells, zs]

set_option linter.unusedSimpArgs false in
set_option maxHeartbeats 1000000 in
theorem run_app_zeros (t ti ty e : TypeId) (i : TypeInfo) (ht : P.underlying t = some (.slice e)) (hti : P.underlying ti = some (.int .i64)) (hi : P.info? e = some i) (hz : i.zero = some (.int .u8 0)) (hsz : i.size = 1) (hby : i.bytes = 1)
    {lo top : Nat} {A : Option Addr} {n c : Nat} {xs : List Value} (hown : Own e 1 w lo top A n c xs) (hn : 0 < n) (m : Nat) (h40 : n + m ≤ 1099511627776) (hlo : lo ≤ w.heap.size) :
    ∃ A2 c2 w', (Builtin.append_ #[t, ti] ty #[.slice A n c, .int .i64 (m : Int)]).run P w = .ok (.slice A2 (n + m) c2) w' ∧ Own e 1 w' lo w'.heap.size A2 (n + m) c2 (xs ++ zs m) ∧ Eff lo top w w' := by
  have hw : IntKind.i64.wrap (m : Int) = (m : Int) := by rw [IntKind.wrap_i64]; omega
  have hw0 : IntKind.i64.wrap 0 = 0 := by rw [IntKind.wrap_i64]; omega
  have hml : ¬ ((m : Int) < 0) := by omega
  have hm48 : ¬ (281474976710656 < (m : Int)) := by omega
  have htop := hown.top
  obtain ⟨row, -, htl⟩ := hown
  rcases row.2 with ⟨hv, hn0⟩ | ⟨g, cap, cur, hv, hbg, hg, hnc, hcm, hcs, htake⟩
  · omega
  simp only [Value.slice.injEq, true_and] at hv
  obtain ⟨rfl, rfl⟩ := hv
  have hxl : xs.length = n := by have := row.1; omega
  have hgt : g < top := htop g rfl
  by_cases hroom : n + m ≤ c
  · have hst := run_storeCells_at P g n e (zs m) 0 cur w hg (by simp [zs]; omega) (by intro u hu; simp [zs] at hu; obtain ⟨_, rfl⟩ := hu; rfl)
    simp only [Nat.add_zero] at hst
    have hnew : (if m = 0 then (#[] : Array Value) else (zs m).toArray) = (zs m).toArray := by by_cases h : m = 0 <;> simp [h, zs]
    refine ⟨some ⟨g, 0, none⟩, c, w.setRow g (cur.toList.take n ++ zs m ++ cur.toList.drop (n + (zs m).length)).toArray, ?_, ?_, ?_⟩
    · by_cases h0 : m = 0
      · have hs0 := hst
        simp only [h0, zs, List.replicate_zero] at hs0
        simp [Builtin.append_, run_underlying ht, run_underlying hti, sizeOf, typeInfo, zeroValue, hi, hz, hsz, hby, asInt, asIntOf, hw0, h0, Addr.add_lit, hnc, zs, hs0]
      · simp [Builtin.append_, run_underlying ht, run_underlying hti, sizeOf, typeInfo, zeroValue, hi, hz, hsz, hby, asInt, asIntOf, hw, hml, hm48, h0, hroom, zeroCells_u8, Addr.add_lit, hst, Value.cells]
    · refine ⟨⟨by simp [zs]; omega, .inr ⟨g, c, _, rfl, hbg, setRow_heap w g cur _ e _ hg, hroom, hcm, ?_, ?_⟩⟩, fun k hk => ?_, by simp⟩
      · simp [zs]; omega
      · simp only [Nat.mul_one] at htake ⊢
        rw [htake]
        have h3 : (xs ++ zs m).length = n + m := by simp [zs]; omega
        rw [← h3]
        exact List.take_left
      · simp only [Value.ownBlock, Option.some.injEq] at hk; simp; omega
    · exact ⟨rfl, rfl, rfl, by simp, fun k _ hk => setRow_other w g k _ (by omega)⟩
  · have h0 : m ≠ 0 := by omega
    have holds : ∀ j u, xs[j]? = some u → w.drew.cell? ((⟨g, 0, none⟩ : Addr).add j) = some u := row.cells (g := g) rfl
    have hfo := run_firstCells_some (P := P) w.drew 1 n ⟨g, 0, none⟩ n c xs (by omega) (by simpa using holds)
    have h63' : ¬ (9223372036854775807 < ((n : Int) + (m : Int))) := by omega
    have hfit := growslice_fits (need := n + m) (old := c) (bytes := 1) (by omega) (by omega)
    have h48' : ¬ (281474976710656 < Builtin.nextslicecap (n + m) c) := by simp at hfit; omega
    have hge := grownCap_ge w (n + m) c e
    have hcm2 : grownCap w (n + m) c e ≤ maxLen := grownCap_le_maxLen w (n + m) c e (by unfold maxLen; omega)
    refine ⟨some ⟨w.heap.size, 0, none⟩, grownCap w (n + m) c e, w.drew.alloc (.cells (xs.toArray ++ (zs m).toArray ++ (zs (grownCap w (n + m) c e - (n + m))).toArray) e), ?_, ?_, ?_⟩
    · simp [Builtin.append_, run_underlying ht, run_underlying hti, sizeOf, typeInfo, zeroValue, hi, hz, hsz, hby, asInt, asIntOf, hw, hml, hm48, h0, hroom, zeroCells_u8, Value.cells, h63', h48', Question.forced, hfo, newRow, grownCap]
    · refine ⟨⟨by simp [zs]; omega, .inr ⟨w.heap.size, _, _, rfl, hlo, heap_alloc_new w.drew _, hge, hcm2, ?_, ?_⟩⟩, fun k hk => ?_, Nat.le_refl _⟩
      · simp [zs]; omega
      · have h3 : (xs ++ zs m).length = (n + m) * 1 := by simp [zs]; omega
        rw [← h3]
        simp only [List.toList_toArray, Array.toList_append]
        exact List.take_left
      · simp only [Value.ownBlock, Option.some.injEq] at hk; simp; omega
    · exact ⟨rfl, rfl, rfl, by simp, fun k hk _ => heap_alloc_old w.drew _ hk⟩

theorem wpList_app_zeros {ops : Array Oper} {rest : List Oper} {o : Oper} {a : Act} {Q : Exit → Act → World → Prop} (hgd : o.guard = none) (s x : Operand) (t ti : TypeId)
    (ho : o.op = .call { callee := .builtin .append, args := #[s, x], argTypes := #[t, ti] })
    (e : TypeId) (i : TypeInfo) (ht : P.underlying t = some (.slice e)) (hti : P.underlying ti = some (.int .i64)) (hi : P.info? e = some i) (hz : i.zero = some (.int .u8 0)) (hsz : i.size = 1) (hby : i.bytes = 1)
    {lo top : Nat} {A : Option Addr} {n c : Nat} {xs : List Value} (hs : a.eval s = .slice A n c) (hown : Own e 1 w lo top A n c xs) (hn : 0 < n) (m : Nat) (hx : a.eval x = .int .i64 (m : Int)) (h40 : n + m ≤ 1099511627776) (hlo : lo ≤ w.heap.size)
    (h : ∀ A2 c2 w', Own e 1 w' lo w'.heap.size A2 (n + m) c2 (xs ++ zs m) → Eff lo top w w' → wpList P ops Q rest (a.put o.dst (.slice A2 (n + m) c2)) w') :
    wpList P ops Q (o :: rest) a w := by
  refine wpList_plain hgd fun K hK => ?_
  obtain ⟨A2, c2, w', hrun, h2, h3⟩ := run_app_zeros (P := P) w t ti o.type e i ht hti hi hz hsz hby hown hn m h40 hlo
  unfold Oper.wp execOp
  simp only [ho, resolve, invoke, builtin, Sem.run_bind, Sem.run_pure, Result.andThen_ok, List.map_toArray, List.map_cons, List.map_nil, hs, hx, hrun]
  exact hK _ _ (h A2 c2 w' h2 h3)
end
end Go.Proofs.Ytblenfhacaecmaa
