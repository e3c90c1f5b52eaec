/- Merging two lists of lines (program). -/
import Derived.Test.YtgjphejmppehjaaLedO
import Derived.Deep.QuietTactic
import Derived.BigQuiet
namespace Go.Proofs.Ytgjphejmppehjaa
open Go.RowKit
/-- The address of the slice's rest. -/
def tailA (b off c : Nat) : Option Addr := if c = 1 then some ⟨b, off, none⟩ else some ⟨b, off + 3, none⟩
theorem run_tail (w : World) (b off : Nat) {n c : Nat} (hn : 0 < n ∧ n ≤ 9223372036854775807) : (Instr.slice 25 (.slice (some ⟨b, off, none⟩) n c) (some (.int .i64 1)) none none).run Try.prog w = .ok (.slice (tailA b off c) (n - 1) (c - 1)) w := by
  have e := run_slice_l (P := Try.prog) (w := w) 25 (some ⟨b, off, none⟩) n c (by kernel_rfl) .i64 1 (by omega) (by omega)
  rw [e]
  have es : ∀ w, (sizeOf (Try.prog.elem 25)).run Try.prog w = .ok 3 w := fun w => by kernel_rfl
  rw [es]
  simp only [Result.andThen_ok, sliced, tailA]
  rfl
def lenS : Value → Nat
  | .slice _ n _ => n
  | _ => 0
theorem rd_new3 (w : World) (u0 u1 u2 : Value) (t : TypeId) : Rd (w.alloc (.cells #[u0, u1, u2] t)) (w.heap.size + 1) 3 (some ⟨w.heap.size, 0, none⟩) 1 [u0, u1, u2] := by
  refine ⟨rfl, .inr ⟨w.heap.size, 0, rfl, by omega, fun j v hv => ?_⟩⟩
  rw [Nat.zero_add]
  exact var_cell w #[u0, u1, u2] t j v (by simpa using hv)
theorem one3 (a b c : Int) : ∀ u ∈ [Value.int .i64 a, .int .i64 b, .int .i64 c], u.oneCell' = true := by
  intro u hu
  simp only [List.mem_cons, List.not_mem_nil, or_false] at hu
  rcases hu with rfl | rfl | rfl <;> rfl
theorem rd_tail {w : World} {B b off n c : Nat} {x : Ln} {xs : List Ln} (h : Rd w B 3 (some ⟨b, off, none⟩) n (lnCells (x :: xs))) (hc : n ≤ c) : Rd w B 3 (tailA b off c) (n - 1) (lnCells xs) := by
  have hl := h.1
  rw [lnCells_len, List.length_cons] at hl
  refine ⟨by rw [lnCells_len]; omega, ?_⟩
  by_cases h1 : n = 1
  · exact .inl (by rw [show xs = [] from List.eq_nil_of_length_eq_zero (by omega)]; rfl)
  · obtain ⟨b', off', e, hb, hcell⟩ := h.form (by omega)
    simp only [Option.some.injEq, Addr.mk.injEq, and_true] at e
    obtain ⟨rfl, rfl⟩ := e
    refine .inr ⟨b, off + 3, ?_, hb, fun j u hu => ?_⟩
    · rw [tailA, if_neg (by omega)]
    · rw [Nat.add_assoc]
      exact hcell (3 + j) u (by rw [Nat.add_comm 3 j]; simpa [lnCells] using hu)
theorem lnlen_of_own {w : World} {lo hi n c : Nat} {A : Option Addr} {ls : List Ln} (h : OwnL w lo hi A n c ls) : ls.length = n := by have := Own.len h; rw [lnCells_len] at this; omega
theorem lnCells_snoc (os : List Ln) (x0 x1 x2 : Int) : lnCells os ++ [.int .i64 x0, .int .i64 x1, .int .i64 x2] = lnCells (os ++ [⟨x0, x1, x2⟩]) := by simp [lnCells]
/-- What is left of both lists, what has come out, at a round's head. -/
def MRel (T : Nat) (us vs : List Ln) (W : World) (va vb vo : Value) (wr : World) : Prop :=
  ∃ Aa na ca xs Ab nb cb ys Ao no co os, va = .slice Aa na ca ∧ vb = .slice Ab nb cb ∧ vo = .slice Ao no co ∧ (na ≤ ca ∧ ca ≤ maxLen) ∧ (nb ≤ cb ∧ cb ≤ maxLen) ∧ Rd wr W.heap.size 3 Aa na (lnCells xs) ∧ Rd wr W.heap.size 3 Ab nb (lnCells ys) ∧
    OwnL wr W.heap.size wr.heap.size Ao no co os ∧ Hid (mrg us vs = (mrg xs ys).map (os ++ ·)) ∧ Hid ((∀ x ∈ xs, rngA x.a = true) ∧ (∀ y ∈ ys, rngA y.a = true)) ∧ no + na + nb ≤ T ∧ Below W.heap.size W wr
/-- What merging leaves. -/
def MergR (us vs : List Ln) (w : World) (e : Ending) (w' : World) : Prop :=
  (∃ os A c, mrg us vs = some os ∧ e = .returned (.tuple #[.slice A os.length c, .bool true]) ∧ OwnL w' w.heap.size w'.heap.size A os.length c os ∧ Below w.heap.size w w') ∨
  (mrg us vs = none ∧ e = .returned (.tuple #[.slice none 0 0, .bool false]) ∧ Below w.heap.size w w')
theorem mrg_lt {x y : Ln} {xs ys : List Ln} (h : ltA x y = true) : mrg (x :: xs) (y :: ys) = (mrg xs (y :: ys)).map (x :: ·) := by rw [mrg]; simp [h]
theorem mrg_gt {x y : Ln} {xs ys : List Ln} (h : ltA x y = false) (h' : ltA y x = true) : mrg (x :: xs) (y :: ys) = (mrg (x :: xs) ys).map (y :: ·) := by rw [mrg]; simp [h, h']
theorem mrg_out {x y : Ln} {xs ys : List Ln} (h : ltA x y = false) (h' : ltA y x = false) (h2 : rngA (x.a + y.a) = false) : mrg (x :: xs) (y :: ys) = none := by rw [mrg]; simp [h, h', h2]
theorem mrg_zero {x y : Ln} {xs ys : List Ln} (h : ltA x y = false) (h' : ltA y x = false) (h2 : x.a + y.a = 0) : mrg (x :: xs) (y :: ys) = mrg xs ys := by rw [mrg]; simp [h, h', h2, rngA, inB]
theorem mrg_sum {x y : Ln} {xs ys : List Ln} (h : ltA x y = false) (h' : ltA y x = false) (h1 : rngA (x.a + y.a) = true) (h2 : x.a + y.a ≠ 0) : mrg (x :: xs) (y :: ys) = (mrg xs ys).map (⟨x.k, x.c, x.a + y.a⟩ :: ·) := by rw [mrg]; simp [h, h', h2, h1]
theorem mrg_nilr (xs : List Ln) : mrg xs [] = some xs := by cases xs <;> simp [mrg]
theorem mrg_nill (ys : List Ln) : mrg [] ys = some ys := by cases ys <;> simp [mrg]
theorem map_app {o : Option (List Ln)} {os : List Ln} {z : Ln} : (o.map (z :: ·)).map (os ++ ·) = o.map ((os ++ [z]) ++ ·) := by cases o <;> simp
set_option maxHeartbeats 8000000 in
set_option maxRecDepth 100000 in
theorem impl_merged (A : Option Addr) (n c : Nat) (us : List Ln) (A' : Option Addr) (n' c' : Nat) (vs : List Ln) (W : World) (hr : Rd W W.heap.size 3 A n (lnCells us)) (hr' : Rd W W.heap.size 3 A' n' (lnCells vs)) (hc : n ≤ c ∧ c ≤ maxLen) (hc' : n' ≤ c' ∧ c' ≤ maxLen) (hn : n ≤ 1099511627776) (hn' : n' ≤ 1099511627776)
    (hR : (∀ x ∈ us, rngA x.a = true) ∧ (∀ y ∈ vs, rngA y.a = true)) : Calls Try.prog 55 #[.slice A n c, .slice A' n' c'] W (MergR us vs W) := by
  obtain ⟨i0, hi0, hj0, hj1, hj2⟩ := info_parts info_Line
  have hRR := Lib.hid hR
  clear hR
  go_enter Try.func55, Try.ntmps55
  go_wp2
  go_loopw [0, 1, 6] (fun va vb vo wr => MRel (n + n') us vs W va vb vo wr) (fun va vb _ _ => lenS va + lenS vb)
  case atStart => exact ⟨_, _, _, us, _, _, _, vs, _, _, _, [], rfl, rfl, rfl, hc, hc', hr, hr', Own.nil _ _ _ _ _ (Nat.le_refl _), Lib.hid (by cases mrg us vs <;> simp), hRR, by omega, Below.refl _ _⟩
  case round =>
    obtain ⟨Aa, na, ca, xs, Ab, nb, cb, ys, Ao, no, co, os, rfl, rfl, rfl, hca, hcb, hra, hrb, hO, HM, HR, hT, hb⟩ := hrel
    unfold maxLen at hca hcb
    have hz := hb.size
    rcases xs with _ | ⟨⟨x0, x1, x2⟩, xs⟩
    · obtain rfl : na = 0 := by have := hra.1; simp [lnCells] at this; omega
      rcases ys with _ | ⟨⟨y0, y1, y2⟩, ys⟩
      · obtain rfl : nb = 0 := by have := hrb.1; simp [lnCells] at this; omega
        go_wp2
        go_ret2
        refine .inl ⟨os, Ao, co, by rw [HM.out, mrg_nilr]; simp, ?_, ?_, hb⟩
        · rw [lnlen_of_own hO]; rfl
        · rw [lnlen_of_own hO]; exact hO
      · skip
        obtain ⟨bb, offb, rfl, hbb, hcellB⟩ := hrb.form (by have := hrb.1; rw [lnCells_len] at this; simp at this; omega)
        have b0 := hcellB 0 (.int .i64 y0) rfl
        have b1 := hcellB 1 (.int .i64 y1) rfl
        have b2 := hcellB 2 (.int .i64 y2) rfl
        rw [Nat.add_zero] at b0
        have hnb : 0 < nb := by have := hrb.1; rw [lnCells_len] at this; simp at this; omega
        have nb0 : ((nb : Int) == 0) = false := by simp; omega
        clear hcellB
        have hslb : ∀ w, (Instr.slice 25 (.slice (some ⟨bb, offb, none⟩) nb cb) (some (.int .i64 1)) none none).run Try.prog w = .ok (.slice (tailA bb offb cb) (nb - 1) (cb - 1)) w := fun w => run_tail w bb offb (by omega)
        go_wp2_with fail
        refine wp_region_held_drew (S := fun w' => True) (by kernel_rfl) ?rg1 (fun hHeld => ?_)
        case rg1 => ((try dsimp only); (try trivial))
        refine wpAnyH_take (i := 0) (oi := { dst := some 44, op := Go.Op.move (Go.Operand.tmp 1), type := 25, pos := "l02_ledger.go:107", after := #[], guard := none }) (v := ?v2) rfl (by kernel_rfl) (by kernel_rfl) (by kernel_rfl) (fun _ _ _ h => h) (Or.inl ⟨by rfl, ?y2⟩) (by assumption) ?_
        case y2 => (intro w hSw; (try dsimp only at hSw); go_simp; first | done | with_reducible rfl)
        try simp only [Act.put, List.setIfInBounds_toArray, List.set_cons_zero, List.set_cons_succ]
        refine wpAnyH_take (i := 1) (oi := { dst := some 45, op := Go.Op.call { callee := Go.Callee.builtin Go.Builtin.len, args := #[Go.Operand.tmp 44], argTypes := #[25] }, type := 3, pos := "l02_ledger.go:107", after := #[{ on := 0, ground := Go.Ground.data }], guard := none }) (v := ?v3) rfl (by kernel_rfl) (by kernel_rfl) (by kernel_rfl) (fun _ _ _ h => h) (Or.inl ⟨by rfl, ?y3⟩) (by assumption) ?_
        case y3 => (intro w hSw; (try dsimp only at hSw); go_simp; first | done | with_reducible rfl)
        try simp only [Act.put, List.setIfInBounds_toArray, List.set_cons_zero, List.set_cons_succ]
        refine wpAnyH_take (i := 2) (oi := { dst := some 46, op := Go.Op.binOp Go.BinOp.eql 3 (Go.Operand.tmp 45) (Go.Operand.const (Go.Value.int Go.IntKind.i64 0)) 3, type := 4, pos := "l02_ledger.go:107", after := #[{ on := 1, ground := Go.Ground.data }], guard := none }) (v := ?v4) rfl (by kernel_rfl) (by kernel_rfl) (by kernel_rfl) (fun _ _ _ h => h) (Or.inl ⟨by rfl, ?y4⟩) (by assumption) ?_
        case y4 => (intro w hSw; (try dsimp only at hSw); go_simp; first | done | with_reducible rfl)
        try simp only [Act.put, List.setIfInBounds_toArray, List.set_cons_zero, List.set_cons_succ]
        refine wpAnyH_take (i := 3) (oi := { dst := some 47, op := Go.Op.move (Go.Operand.tmp 46), type := 4, pos := "l02_ledger.go:107", after := #[{ on := 2, ground := Go.Ground.data }], guard := none }) (v := ?v5) rfl (by kernel_rfl) (by kernel_rfl) (by kernel_rfl) (fun _ _ _ h => h) (Or.inl ⟨by rfl, ?y5⟩) (by assumption) ?_
        case y5 => (intro w hSw; (try dsimp only at hSw); go_simp; first | done | with_reducible rfl)
        try simp only [Act.put, List.setIfInBounds_toArray, List.set_cons_zero, List.set_cons_succ]
        refine wpAnyH_take (i := 4) (oi := { dst := some 48, op := Go.Op.move (Go.Operand.tmp 0), type := 25, pos := "l02_ledger.go:107", after := #[{ on := 3, ground := Go.Ground.guard }], guard := some (3, false) }) (v := ?v6) rfl (by kernel_rfl) (by kernel_rfl) (by kernel_rfl) (fun _ _ _ h => h) (Or.inl ⟨by rfl, ?y6⟩) (by assumption) ?_
        case y6 => (intro w hSw; (try dsimp only at hSw); go_simp; first | done | with_reducible rfl)
        try simp only [Act.put, List.setIfInBounds_toArray, List.set_cons_zero, List.set_cons_succ]
        refine wpAnyH_take (i := 5) (oi := { dst := some 49, op := Go.Op.call { callee := Go.Callee.builtin Go.Builtin.len, args := #[Go.Operand.tmp 48], argTypes := #[25] }, type := 3, pos := "l02_ledger.go:107", after := #[{ on := 4, ground := Go.Ground.data }, { on := 3, ground := Go.Ground.guard }], guard := some (3, false) }) (v := ?v7) rfl (by kernel_rfl) (by kernel_rfl) (by kernel_rfl) (fun _ _ _ h => h) (Or.inl ⟨by rfl, ?y7⟩) (by assumption) ?_
        case y7 => (intro w hSw; (try dsimp only at hSw); go_simp; first | done | with_reducible rfl)
        try simp only [Act.put, List.setIfInBounds_toArray, List.set_cons_zero, List.set_cons_succ]
        refine wpAnyH_take (i := 6) (oi := { dst := some 50, op := Go.Op.binOp Go.BinOp.gtr 3 (Go.Operand.tmp 49) (Go.Operand.const (Go.Value.int Go.IntKind.i64 0)) 3, type := 4, pos := "l02_ledger.go:107", after := #[{ on := 5, ground := Go.Ground.data }, { on := 3, ground := Go.Ground.guard }], guard := some (3, false) }) (v := ?v8) rfl (by kernel_rfl) (by kernel_rfl) (by kernel_rfl) (fun _ _ _ h => h) (Or.inl ⟨by rfl, ?y8⟩) (by assumption) ?_
        case y8 => (intro w hSw; (try dsimp only at hSw); go_simp; first | done | with_reducible rfl)
        try simp only [Act.put, List.setIfInBounds_toArray, List.set_cons_zero, List.set_cons_succ]
        refine wpAnyH_take (i := 7) (oi := { dst := some 51, op := Go.Op.move (Go.Operand.tmp 50), type := 4, pos := "l02_ledger.go:107", after := #[{ on := 6, ground := Go.Ground.data }, { on := 3, ground := Go.Ground.chain }, { on := 3, ground := Go.Ground.guard }], guard := some (3, false) }) (v := ?v9) rfl (by kernel_rfl) (by kernel_rfl) (by kernel_rfl) (fun _ _ _ h => h) (Or.inl ⟨by rfl, ?y9⟩) (by assumption) ?_
        case y9 => (intro w hSw; (try dsimp only at hSw); go_simp; first | done | with_reducible rfl)
        try simp only [Act.put, List.setIfInBounds_toArray, List.set_cons_zero, List.set_cons_succ]
        refine wpAnyH_take (i := 8) (oi := { dst := some 52, op := Go.Op.move (Go.Operand.tmp 0), type := 25, pos := "l02_ledger.go:107", after := #[{ on := 7, ground := Go.Ground.guard }], guard := some (7, true) }) (v := undef) rfl (by kernel_rfl) (by kernel_rfl) (by kernel_rfl) (fun _ _ _ h => h) (Or.inr ⟨by rfl, rfl⟩) (by assumption) ?_
        try simp only [Act.put, List.setIfInBounds_toArray, List.set_cons_zero, List.set_cons_succ]
        refine wpAnyH_take (i := 9) (oi := { dst := some 53, op := Go.Op.indexAddr 25 (Go.Operand.tmp 52) (Go.Operand.const (Go.Value.int Go.IntKind.i64 0)), type := 0, pos := "l02_ledger.go:107", after := #[{ on := 8, ground := Go.Ground.data }, { on := 7, ground := Go.Ground.guard }], guard := some (7, true) }) (v := undef) rfl (by kernel_rfl) (by kernel_rfl) (by kernel_rfl) (fun _ _ _ h => h) (Or.inr ⟨by rfl, rfl⟩) (by assumption) ?_
        try simp only [Act.put, List.setIfInBounds_toArray, List.set_cons_zero, List.set_cons_succ]
        refine wpAnyH_take (i := 10) (oi := { dst := some 54, op := Go.Op.fieldAddr 63 (Go.Operand.tmp 53) 0, type := 0, pos := "l02_ledger.go:107", after := #[{ on := 9, ground := Go.Ground.data }, { on := 7, ground := Go.Ground.guard }], guard := some (7, true) }) (v := undef) rfl (by kernel_rfl) (by kernel_rfl) (by kernel_rfl) (fun _ _ _ h => h) (Or.inr ⟨by rfl, rfl⟩) (by assumption) ?_
        try simp only [Act.put, List.setIfInBounds_toArray, List.set_cons_zero, List.set_cons_succ]
        refine wpAnyH_take (i := 11) (oi := { dst := some 55, op := Go.Op.load 50 (Go.Operand.tmp 54), type := 50, pos := "l02_ledger.go:107", after := #[{ on := 10, ground := Go.Ground.data }, { on := 7, ground := Go.Ground.guard }], guard := some (7, true) }) (v := undef) rfl (by kernel_rfl) (by kernel_rfl) (by kernel_rfl) (fun _ _ _ h => h) (Or.inr ⟨by rfl, rfl⟩) (by assumption) ?_
        try simp only [Act.put, List.setIfInBounds_toArray, List.set_cons_zero, List.set_cons_succ]
        refine wpAnyH_take (i := 12) (oi := { dst := some 56, op := Go.Op.move (Go.Operand.tmp 1), type := 25, pos := "l02_ledger.go:107", after := #[{ on := 7, ground := Go.Ground.guard }], guard := some (7, true) }) (v := undef) rfl (by kernel_rfl) (by kernel_rfl) (by kernel_rfl) (fun _ _ _ h => h) (Or.inr ⟨by rfl, rfl⟩) (by assumption) ?_
        try simp only [Act.put, List.setIfInBounds_toArray, List.set_cons_zero, List.set_cons_succ]
        refine wpAnyH_take (i := 13) (oi := { dst := some 57, op := Go.Op.indexAddr 25 (Go.Operand.tmp 56) (Go.Operand.const (Go.Value.int Go.IntKind.i64 0)), type := 0, pos := "l02_ledger.go:107", after := #[{ on := 12, ground := Go.Ground.data }, { on := 7, ground := Go.Ground.guard }], guard := some (7, true) }) (v := undef) rfl (by kernel_rfl) (by kernel_rfl) (by kernel_rfl) (fun _ _ _ h => h) (Or.inr ⟨by rfl, rfl⟩) (by assumption) ?_
        try simp only [Act.put, List.setIfInBounds_toArray, List.set_cons_zero, List.set_cons_succ]
        refine wpAnyH_take (i := 14) (oi := { dst := some 58, op := Go.Op.fieldAddr 63 (Go.Operand.tmp 57) 0, type := 0, pos := "l02_ledger.go:107", after := #[{ on := 13, ground := Go.Ground.data }, { on := 7, ground := Go.Ground.guard }], guard := some (7, true) }) (v := undef) rfl (by kernel_rfl) (by kernel_rfl) (by kernel_rfl) (fun _ _ _ h => h) (Or.inr ⟨by rfl, rfl⟩) (by assumption) ?_
        try simp only [Act.put, List.setIfInBounds_toArray, List.set_cons_zero, List.set_cons_succ]
        refine wpAnyH_take (i := 15) (oi := { dst := some 59, op := Go.Op.load 50 (Go.Operand.tmp 58), type := 50, pos := "l02_ledger.go:107", after := #[{ on := 14, ground := Go.Ground.data }, { on := 7, ground := Go.Ground.guard }], guard := some (7, true) }) (v := undef) rfl (by kernel_rfl) (by kernel_rfl) (by kernel_rfl) (fun _ _ _ h => h) (Or.inr ⟨by rfl, rfl⟩) (by assumption) ?_
        try simp only [Act.put, List.setIfInBounds_toArray, List.set_cons_zero, List.set_cons_succ]
        refine wpAnyH_take (i := 16) (oi := { dst := some 60, op := Go.Op.call { callee := Go.Callee.value (Go.Operand.func 51), args := #[Go.Operand.tmp 55, Go.Operand.tmp 59], argTypes := #[50, 50] }, type := 4, pos := "l02_ledger.go:107", after := #[{ on := 11, ground := Go.Ground.data }, { on := 15, ground := Go.Ground.data }, { on := 7, ground := Go.Ground.chain }, { on := 7, ground := Go.Ground.guard }], guard := some (7, true) }) (v := undef) rfl (by kernel_rfl) (by kernel_rfl) (by kernel_rfl) (fun _ _ _ h => h) (Or.inr ⟨by rfl, rfl⟩) (by assumption) ?_
        try simp only [Act.put, List.setIfInBounds_toArray, List.set_cons_zero, List.set_cons_succ]
        refine wpAnyH_take (i := 17) (oi := { dst := some 61, op := Go.Op.pick (Go.Operand.tmp 51) (Go.Operand.tmp 60) (Go.Operand.const (Go.Value.bool false)), type := 4, pos := "l02_ledger.go:107", after := #[{ on := 7, ground := Go.Ground.data }, { on := 16, ground := Go.Ground.data }, { on := 3, ground := Go.Ground.guard }], guard := some (3, false) }) (v := ?v10) rfl (by kernel_rfl) (by kernel_rfl) (by kernel_rfl) (fun _ _ _ h => h) (Or.inl ⟨by rfl, ?y10⟩) (by assumption) ?_
        case y10 => (intro w hSw; (try dsimp only at hSw); go_simp; first | done | with_reducible rfl)
        try simp only [Act.put, List.setIfInBounds_toArray, List.set_cons_zero, List.set_cons_succ]
        refine wpAnyH_take (i := 18) (oi := { dst := some 62, op := Go.Op.pick (Go.Operand.tmp 47) (Go.Operand.const (Go.Value.bool true)) (Go.Operand.tmp 61), type := 4, pos := "l02_ledger.go:107", after := #[{ on := 3, ground := Go.Ground.data }, { on := 17, ground := Go.Ground.data }], guard := none }) (v := ?v11) rfl (by kernel_rfl) (by kernel_rfl) (by kernel_rfl) (fun _ _ _ h => h) (Or.inl ⟨by rfl, ?y11⟩) (by assumption) ?_
        case y11 => (intro w hSw; (try dsimp only at hSw); go_simp; first | done | with_reducible rfl)
        try simp only [Act.put, List.setIfInBounds_toArray, List.set_cons_zero, List.set_cons_succ]
        refine wpAnyH_take (i := 19) (oi := { dst := some 43, op := Go.Op.assign (Go.Operand.tmp 62), type := 4, pos := "l02_ledger.go:107", after := #[{ on := 18, ground := Go.Ground.data }, { on := 16, ground := Go.Ground.chain }], guard := none }) (v := ?v12) rfl (by kernel_rfl) (by kernel_rfl) (by kernel_rfl) (fun _ _ _ h => h) (Or.inl ⟨by rfl, ?y12⟩) (by assumption) ?_
        case y12 => (intro w hSw; (try dsimp only at hSw); go_simp; first | done | with_reducible rfl)
        try simp only [Act.put, List.setIfInBounds_toArray, List.set_cons_zero, List.set_cons_succ]
        refine wpAnyH_done (by kernel_rfl) ?_ _
        go_wp2_with fail
        refine wp_region_held_drew (S := fun w' => True) (by kernel_rfl) ?rg13 (fun hHeld => ?_)
        case rg13 => ((try dsimp only); (try trivial))
        refine wpAnyH_take (i := 0) (oi := { dst := some 72, op := Go.Op.move (Go.Operand.tmp 0), type := 25, pos := "l02_ledger.go:110", after := #[], guard := none }) (v := ?v14) rfl (by kernel_rfl) (by kernel_rfl) (by kernel_rfl) (fun _ _ _ h => h) (Or.inl ⟨by rfl, ?y14⟩) (by assumption) ?_
        case y14 => (intro w hSw; (try dsimp only at hSw); go_simp; first | done | with_reducible rfl)
        try simp only [Act.put, List.setIfInBounds_toArray, List.set_cons_zero, List.set_cons_succ]
        refine wpAnyH_take (i := 1) (oi := { dst := some 73, op := Go.Op.call { callee := Go.Callee.builtin Go.Builtin.len, args := #[Go.Operand.tmp 72], argTypes := #[25] }, type := 3, pos := "l02_ledger.go:110", after := #[{ on := 0, ground := Go.Ground.data }], guard := none }) (v := ?v15) rfl (by kernel_rfl) (by kernel_rfl) (by kernel_rfl) (fun _ _ _ h => h) (Or.inl ⟨by rfl, ?y15⟩) (by assumption) ?_
        case y15 => (intro w hSw; (try dsimp only at hSw); go_simp; first | done | with_reducible rfl)
        try simp only [Act.put, List.setIfInBounds_toArray, List.set_cons_zero, List.set_cons_succ]
        refine wpAnyH_take (i := 2) (oi := { dst := some 74, op := Go.Op.binOp Go.BinOp.eql 3 (Go.Operand.tmp 73) (Go.Operand.const (Go.Value.int Go.IntKind.i64 0)) 3, type := 4, pos := "l02_ledger.go:110", after := #[{ on := 1, ground := Go.Ground.data }], guard := none }) (v := ?v16) rfl (by kernel_rfl) (by kernel_rfl) (by kernel_rfl) (fun _ _ _ h => h) (Or.inl ⟨by rfl, ?y16⟩) (by assumption) ?_
        case y16 => (intro w hSw; (try dsimp only at hSw); go_simp; first | done | with_reducible rfl)
        try simp only [Act.put, List.setIfInBounds_toArray, List.set_cons_zero, List.set_cons_succ]
        refine wpAnyH_take (i := 3) (oi := { dst := some 75, op := Go.Op.move (Go.Operand.tmp 74), type := 4, pos := "l02_ledger.go:110", after := #[{ on := 2, ground := Go.Ground.data }], guard := none }) (v := ?v17) rfl (by kernel_rfl) (by kernel_rfl) (by kernel_rfl) (fun _ _ _ h => h) (Or.inl ⟨by rfl, ?y17⟩) (by assumption) ?_
        case y17 => (intro w hSw; (try dsimp only at hSw); go_simp; first | done | with_reducible rfl)
        try simp only [Act.put, List.setIfInBounds_toArray, List.set_cons_zero, List.set_cons_succ]
        refine wpAnyH_take (i := 4) (oi := { dst := some 76, op := Go.Op.move (Go.Operand.tmp 1), type := 25, pos := "l02_ledger.go:110", after := #[{ on := 3, ground := Go.Ground.guard }], guard := some (3, false) }) (v := undef) rfl (by kernel_rfl) (by kernel_rfl) (by kernel_rfl) (fun _ _ _ h => h) (Or.inr ⟨by rfl, rfl⟩) (by assumption) ?_
        try simp only [Act.put, List.setIfInBounds_toArray, List.set_cons_zero, List.set_cons_succ]
        refine wpAnyH_take (i := 5) (oi := { dst := some 77, op := Go.Op.indexAddr 25 (Go.Operand.tmp 76) (Go.Operand.const (Go.Value.int Go.IntKind.i64 0)), type := 0, pos := "l02_ledger.go:110", after := #[{ on := 4, ground := Go.Ground.data }, { on := 3, ground := Go.Ground.guard }], guard := some (3, false) }) (v := undef) rfl (by kernel_rfl) (by kernel_rfl) (by kernel_rfl) (fun _ _ _ h => h) (Or.inr ⟨by rfl, rfl⟩) (by assumption) ?_
        try simp only [Act.put, List.setIfInBounds_toArray, List.set_cons_zero, List.set_cons_succ]
        refine wpAnyH_take (i := 6) (oi := { dst := some 78, op := Go.Op.fieldAddr 63 (Go.Operand.tmp 77) 0, type := 0, pos := "l02_ledger.go:110", after := #[{ on := 5, ground := Go.Ground.data }, { on := 3, ground := Go.Ground.guard }], guard := some (3, false) }) (v := undef) rfl (by kernel_rfl) (by kernel_rfl) (by kernel_rfl) (fun _ _ _ h => h) (Or.inr ⟨by rfl, rfl⟩) (by assumption) ?_
        try simp only [Act.put, List.setIfInBounds_toArray, List.set_cons_zero, List.set_cons_succ]
        refine wpAnyH_take (i := 7) (oi := { dst := some 79, op := Go.Op.load 50 (Go.Operand.tmp 78), type := 50, pos := "l02_ledger.go:110", after := #[{ on := 6, ground := Go.Ground.data }, { on := 3, ground := Go.Ground.guard }], guard := some (3, false) }) (v := undef) rfl (by kernel_rfl) (by kernel_rfl) (by kernel_rfl) (fun _ _ _ h => h) (Or.inr ⟨by rfl, rfl⟩) (by assumption) ?_
        try simp only [Act.put, List.setIfInBounds_toArray, List.set_cons_zero, List.set_cons_succ]
        refine wpAnyH_take (i := 8) (oi := { dst := some 80, op := Go.Op.move (Go.Operand.tmp 0), type := 25, pos := "l02_ledger.go:110", after := #[{ on := 3, ground := Go.Ground.guard }], guard := some (3, false) }) (v := undef) rfl (by kernel_rfl) (by kernel_rfl) (by kernel_rfl) (fun _ _ _ h => h) (Or.inr ⟨by rfl, rfl⟩) (by assumption) ?_
        try simp only [Act.put, List.setIfInBounds_toArray, List.set_cons_zero, List.set_cons_succ]
        refine wpAnyH_take (i := 9) (oi := { dst := some 81, op := Go.Op.indexAddr 25 (Go.Operand.tmp 80) (Go.Operand.const (Go.Value.int Go.IntKind.i64 0)), type := 0, pos := "l02_ledger.go:110", after := #[{ on := 8, ground := Go.Ground.data }, { on := 3, ground := Go.Ground.guard }], guard := some (3, false) }) (v := undef) rfl (by kernel_rfl) (by kernel_rfl) (by kernel_rfl) (fun _ _ _ h => h) (Or.inr ⟨by rfl, rfl⟩) (by assumption) ?_
        try simp only [Act.put, List.setIfInBounds_toArray, List.set_cons_zero, List.set_cons_succ]
        refine wpAnyH_take (i := 10) (oi := { dst := some 82, op := Go.Op.fieldAddr 63 (Go.Operand.tmp 81) 0, type := 0, pos := "l02_ledger.go:110", after := #[{ on := 9, ground := Go.Ground.data }, { on := 3, ground := Go.Ground.guard }], guard := some (3, false) }) (v := undef) rfl (by kernel_rfl) (by kernel_rfl) (by kernel_rfl) (fun _ _ _ h => h) (Or.inr ⟨by rfl, rfl⟩) (by assumption) ?_
        try simp only [Act.put, List.setIfInBounds_toArray, List.set_cons_zero, List.set_cons_succ]
        refine wpAnyH_take (i := 11) (oi := { dst := some 83, op := Go.Op.load 50 (Go.Operand.tmp 82), type := 50, pos := "l02_ledger.go:110", after := #[{ on := 10, ground := Go.Ground.data }, { on := 3, ground := Go.Ground.guard }], guard := some (3, false) }) (v := undef) rfl (by kernel_rfl) (by kernel_rfl) (by kernel_rfl) (fun _ _ _ h => h) (Or.inr ⟨by rfl, rfl⟩) (by assumption) ?_
        try simp only [Act.put, List.setIfInBounds_toArray, List.set_cons_zero, List.set_cons_succ]
        refine wpAnyH_take (i := 12) (oi := { dst := some 84, op := Go.Op.call { callee := Go.Callee.value (Go.Operand.func 51), args := #[Go.Operand.tmp 79, Go.Operand.tmp 83], argTypes := #[50, 50] }, type := 4, pos := "l02_ledger.go:110", after := #[{ on := 7, ground := Go.Ground.data }, { on := 11, ground := Go.Ground.data }, { on := 3, ground := Go.Ground.chain }, { on := 3, ground := Go.Ground.guard }], guard := some (3, false) }) (v := undef) rfl (by kernel_rfl) (by kernel_rfl) (by kernel_rfl) (fun _ _ _ h => h) (Or.inr ⟨by rfl, rfl⟩) (by assumption) ?_
        try simp only [Act.put, List.setIfInBounds_toArray, List.set_cons_zero, List.set_cons_succ]
        refine wpAnyH_take (i := 13) (oi := { dst := some 85, op := Go.Op.pick (Go.Operand.tmp 75) (Go.Operand.const (Go.Value.bool true)) (Go.Operand.tmp 84), type := 4, pos := "l02_ledger.go:110", after := #[{ on := 3, ground := Go.Ground.data }, { on := 12, ground := Go.Ground.data }], guard := none }) (v := ?v18) rfl (by kernel_rfl) (by kernel_rfl) (by kernel_rfl) (fun _ _ _ h => h) (Or.inl ⟨by rfl, ?y18⟩) (by assumption) ?_
        case y18 => (intro w hSw; (try dsimp only at hSw); go_simp; first | done | with_reducible rfl)
        try simp only [Act.put, List.setIfInBounds_toArray, List.set_cons_zero, List.set_cons_succ]
        refine wpAnyH_take (i := 14) (oi := { dst := some 71, op := Go.Op.assign (Go.Operand.tmp 85), type := 4, pos := "l02_ledger.go:110", after := #[{ on := 13, ground := Go.Ground.data }, { on := 12, ground := Go.Ground.chain }], guard := none }) (v := ?v19) rfl (by kernel_rfl) (by kernel_rfl) (by kernel_rfl) (fun _ _ _ h => h) (Or.inl ⟨by rfl, ?y19⟩) (by assumption) ?_
        case y19 => (intro w hSw; (try dsimp only at hSw); go_simp; first | done | with_reducible rfl)
        try simp only [Act.put, List.setIfInBounds_toArray, List.set_cons_zero, List.set_cons_succ]
        refine wpAnyH_done (by kernel_rfl) ?_ _
        have hbW : Below W.heap.size W (wr.drew.drew) := hb.drew.drew
        have hOW : OwnL (wr.drew.drew) W.heap.size wr.heap.size Ao no co os := Own.drew (Own.drew (hO))
        have hzW : wr.heap.size ≤ (wr.drew.drew).heap.size := Nat.le_refl _
        have b0w : (wr.drew.drew).cell? _ = _ := b0
        have b1w : (wr.drew.drew).cell? _ = _ := b1
        have b2w : (wr.drew.drew).cell? _ = _ := b2
        generalize wr.drew.drew = wz at hbW hOW hzW b0w b1w b2w ⊢
        go_wp2_with (at_builtin; refine wpList_app _ rfl _ _ 25 rfl 63 i0 (.agg #[.int .i64 0, .int .i64 0, .int .i64 0]) 3 24 Try.underlying25 hi0 hj0 hj1 hj2 rfl (by omega) rfl (Own.alloc hOW _) 1 rfl (rd_new3 _ (.int .i64 y0) (.int .i64 y1) (.int .i64 y2) 63) (one3 _ _ _) (by unfold maxLen; omega) (by omega) (by first | (simp; done) | (simp; omega)) ?_; intro A2 c2 w8 hO2 hE2 _)
        have hb8 : Below W.heap.size W w8 := (hbW.alloc (by omega) _).trans (hE2.below (by first | (simp; done) | (simp; omega)) (.inl (Nat.le_refl _)))
        have HC : ∀ p : Addr, p.block < W.heap.size → w8.cell? p = wr.cell? p := fun p hp => (hb8.cell hp).trans (hb.cell hp).symm
        have HO : OwnL w8 W.heap.size w8.heap.size A2 (no + 1) c2 _ := lnCells_snoc os (y0) (y1) (y2) ▸ hO2
        clear hO2
        have HCH := Lib.hid HC
        clear HC
        go_wp2
        go_roundw
        case rel => exact ⟨_, _, _, _, _, _, _, _, _, _, _, _, rfl, rfl, rfl, ⟨by omega, by unfold maxLen; omega⟩, ⟨by omega, by unfold maxLen; omega⟩, Rd.keep (hra) HCH.out, Rd.keep (rd_tail hrb (by omega)) HCH.out, HO, Lib.hid (by rw [HM.out, mrg_nill, mrg_nill]; simp), Lib.hid ⟨HR.out.1, fun z hz => HR.out.2 z (List.mem_cons_of_mem _ hz)⟩, by omega, hb8⟩
        case measure => simp [lenS]; omega
    · rcases ys with _ | ⟨⟨y0, y1, y2⟩, ys⟩
      · obtain rfl : nb = 0 := by have := hrb.1; simp [lnCells] at this; omega
        obtain ⟨ba, offa, rfl, hba, hcellA⟩ := hra.form (by have := hra.1; rw [lnCells_len] at this; simp at this; omega)
        have a0 := hcellA 0 (.int .i64 x0) rfl
        have a1 := hcellA 1 (.int .i64 x1) rfl
        have a2 := hcellA 2 (.int .i64 x2) rfl
        rw [Nat.add_zero] at a0
        have hna : 0 < na := by have := hra.1; rw [lnCells_len] at this; simp at this; omega
        have na0 : ((na : Int) == 0) = false := by simp; omega
        clear hcellA
        have hsla : ∀ w, (Instr.slice 25 (.slice (some ⟨ba, offa, none⟩) na ca) (some (.int .i64 1)) none none).run Try.prog w = .ok (.slice (tailA ba offa ca) (na - 1) (ca - 1)) w := fun w => run_tail w ba offa (by omega)
        go_wp2_with fail
        refine wp_region_held_drew (S := fun w' => True) (by kernel_rfl) ?rg20 (fun hHeld => ?_)
        case rg20 => ((try dsimp only); (try trivial))
        refine wpAnyH_take (i := 0) (oi := { dst := some 44, op := Go.Op.move (Go.Operand.tmp 1), type := 25, pos := "l02_ledger.go:107", after := #[], guard := none }) (v := ?v21) rfl (by kernel_rfl) (by kernel_rfl) (by kernel_rfl) (fun _ _ _ h => h) (Or.inl ⟨by rfl, ?y21⟩) (by assumption) ?_
        case y21 => (intro w hSw; (try dsimp only at hSw); go_simp; first | done | with_reducible rfl)
        try simp only [Act.put, List.setIfInBounds_toArray, List.set_cons_zero, List.set_cons_succ]
        refine wpAnyH_take (i := 1) (oi := { dst := some 45, op := Go.Op.call { callee := Go.Callee.builtin Go.Builtin.len, args := #[Go.Operand.tmp 44], argTypes := #[25] }, type := 3, pos := "l02_ledger.go:107", after := #[{ on := 0, ground := Go.Ground.data }], guard := none }) (v := ?v22) rfl (by kernel_rfl) (by kernel_rfl) (by kernel_rfl) (fun _ _ _ h => h) (Or.inl ⟨by rfl, ?y22⟩) (by assumption) ?_
        case y22 => (intro w hSw; (try dsimp only at hSw); go_simp; first | done | with_reducible rfl)
        try simp only [Act.put, List.setIfInBounds_toArray, List.set_cons_zero, List.set_cons_succ]
        refine wpAnyH_take (i := 2) (oi := { dst := some 46, op := Go.Op.binOp Go.BinOp.eql 3 (Go.Operand.tmp 45) (Go.Operand.const (Go.Value.int Go.IntKind.i64 0)) 3, type := 4, pos := "l02_ledger.go:107", after := #[{ on := 1, ground := Go.Ground.data }], guard := none }) (v := ?v23) rfl (by kernel_rfl) (by kernel_rfl) (by kernel_rfl) (fun _ _ _ h => h) (Or.inl ⟨by rfl, ?y23⟩) (by assumption) ?_
        case y23 => (intro w hSw; (try dsimp only at hSw); go_simp; first | done | with_reducible rfl)
        try simp only [Act.put, List.setIfInBounds_toArray, List.set_cons_zero, List.set_cons_succ]
        refine wpAnyH_take (i := 3) (oi := { dst := some 47, op := Go.Op.move (Go.Operand.tmp 46), type := 4, pos := "l02_ledger.go:107", after := #[{ on := 2, ground := Go.Ground.data }], guard := none }) (v := ?v24) rfl (by kernel_rfl) (by kernel_rfl) (by kernel_rfl) (fun _ _ _ h => h) (Or.inl ⟨by rfl, ?y24⟩) (by assumption) ?_
        case y24 => (intro w hSw; (try dsimp only at hSw); go_simp; first | done | with_reducible rfl)
        try simp only [Act.put, List.setIfInBounds_toArray, List.set_cons_zero, List.set_cons_succ]
        refine wpAnyH_take (i := 4) (oi := { dst := some 48, op := Go.Op.move (Go.Operand.tmp 0), type := 25, pos := "l02_ledger.go:107", after := #[{ on := 3, ground := Go.Ground.guard }], guard := some (3, false) }) (v := undef) rfl (by kernel_rfl) (by kernel_rfl) (by kernel_rfl) (fun _ _ _ h => h) (Or.inr ⟨by rfl, rfl⟩) (by assumption) ?_
        try simp only [Act.put, List.setIfInBounds_toArray, List.set_cons_zero, List.set_cons_succ]
        refine wpAnyH_take (i := 5) (oi := { dst := some 49, op := Go.Op.call { callee := Go.Callee.builtin Go.Builtin.len, args := #[Go.Operand.tmp 48], argTypes := #[25] }, type := 3, pos := "l02_ledger.go:107", after := #[{ on := 4, ground := Go.Ground.data }, { on := 3, ground := Go.Ground.guard }], guard := some (3, false) }) (v := undef) rfl (by kernel_rfl) (by kernel_rfl) (by kernel_rfl) (fun _ _ _ h => h) (Or.inr ⟨by rfl, rfl⟩) (by assumption) ?_
        try simp only [Act.put, List.setIfInBounds_toArray, List.set_cons_zero, List.set_cons_succ]
        refine wpAnyH_take (i := 6) (oi := { dst := some 50, op := Go.Op.binOp Go.BinOp.gtr 3 (Go.Operand.tmp 49) (Go.Operand.const (Go.Value.int Go.IntKind.i64 0)) 3, type := 4, pos := "l02_ledger.go:107", after := #[{ on := 5, ground := Go.Ground.data }, { on := 3, ground := Go.Ground.guard }], guard := some (3, false) }) (v := undef) rfl (by kernel_rfl) (by kernel_rfl) (by kernel_rfl) (fun _ _ _ h => h) (Or.inr ⟨by rfl, rfl⟩) (by assumption) ?_
        try simp only [Act.put, List.setIfInBounds_toArray, List.set_cons_zero, List.set_cons_succ]
        refine wpAnyH_take (i := 7) (oi := { dst := some 51, op := Go.Op.move (Go.Operand.tmp 50), type := 4, pos := "l02_ledger.go:107", after := #[{ on := 6, ground := Go.Ground.data }, { on := 3, ground := Go.Ground.chain }, { on := 3, ground := Go.Ground.guard }], guard := some (3, false) }) (v := undef) rfl (by kernel_rfl) (by kernel_rfl) (by kernel_rfl) (fun _ _ _ h => h) (Or.inr ⟨by rfl, rfl⟩) (by assumption) ?_
        try simp only [Act.put, List.setIfInBounds_toArray, List.set_cons_zero, List.set_cons_succ]
        refine wpAnyH_take (i := 8) (oi := { dst := some 52, op := Go.Op.move (Go.Operand.tmp 0), type := 25, pos := "l02_ledger.go:107", after := #[{ on := 7, ground := Go.Ground.guard }], guard := some (7, true) }) (v := undef) rfl (by kernel_rfl) (by kernel_rfl) (by kernel_rfl) (fun _ _ _ h => h) (Or.inr ⟨by rfl, rfl⟩) (by assumption) ?_
        try simp only [Act.put, List.setIfInBounds_toArray, List.set_cons_zero, List.set_cons_succ]
        refine wpAnyH_take (i := 9) (oi := { dst := some 53, op := Go.Op.indexAddr 25 (Go.Operand.tmp 52) (Go.Operand.const (Go.Value.int Go.IntKind.i64 0)), type := 0, pos := "l02_ledger.go:107", after := #[{ on := 8, ground := Go.Ground.data }, { on := 7, ground := Go.Ground.guard }], guard := some (7, true) }) (v := undef) rfl (by kernel_rfl) (by kernel_rfl) (by kernel_rfl) (fun _ _ _ h => h) (Or.inr ⟨by rfl, rfl⟩) (by assumption) ?_
        try simp only [Act.put, List.setIfInBounds_toArray, List.set_cons_zero, List.set_cons_succ]
        refine wpAnyH_take (i := 10) (oi := { dst := some 54, op := Go.Op.fieldAddr 63 (Go.Operand.tmp 53) 0, type := 0, pos := "l02_ledger.go:107", after := #[{ on := 9, ground := Go.Ground.data }, { on := 7, ground := Go.Ground.guard }], guard := some (7, true) }) (v := undef) rfl (by kernel_rfl) (by kernel_rfl) (by kernel_rfl) (fun _ _ _ h => h) (Or.inr ⟨by rfl, rfl⟩) (by assumption) ?_
        try simp only [Act.put, List.setIfInBounds_toArray, List.set_cons_zero, List.set_cons_succ]
        refine wpAnyH_take (i := 11) (oi := { dst := some 55, op := Go.Op.load 50 (Go.Operand.tmp 54), type := 50, pos := "l02_ledger.go:107", after := #[{ on := 10, ground := Go.Ground.data }, { on := 7, ground := Go.Ground.guard }], guard := some (7, true) }) (v := undef) rfl (by kernel_rfl) (by kernel_rfl) (by kernel_rfl) (fun _ _ _ h => h) (Or.inr ⟨by rfl, rfl⟩) (by assumption) ?_
        try simp only [Act.put, List.setIfInBounds_toArray, List.set_cons_zero, List.set_cons_succ]
        refine wpAnyH_take (i := 12) (oi := { dst := some 56, op := Go.Op.move (Go.Operand.tmp 1), type := 25, pos := "l02_ledger.go:107", after := #[{ on := 7, ground := Go.Ground.guard }], guard := some (7, true) }) (v := undef) rfl (by kernel_rfl) (by kernel_rfl) (by kernel_rfl) (fun _ _ _ h => h) (Or.inr ⟨by rfl, rfl⟩) (by assumption) ?_
        try simp only [Act.put, List.setIfInBounds_toArray, List.set_cons_zero, List.set_cons_succ]
        refine wpAnyH_take (i := 13) (oi := { dst := some 57, op := Go.Op.indexAddr 25 (Go.Operand.tmp 56) (Go.Operand.const (Go.Value.int Go.IntKind.i64 0)), type := 0, pos := "l02_ledger.go:107", after := #[{ on := 12, ground := Go.Ground.data }, { on := 7, ground := Go.Ground.guard }], guard := some (7, true) }) (v := undef) rfl (by kernel_rfl) (by kernel_rfl) (by kernel_rfl) (fun _ _ _ h => h) (Or.inr ⟨by rfl, rfl⟩) (by assumption) ?_
        try simp only [Act.put, List.setIfInBounds_toArray, List.set_cons_zero, List.set_cons_succ]
        refine wpAnyH_take (i := 14) (oi := { dst := some 58, op := Go.Op.fieldAddr 63 (Go.Operand.tmp 57) 0, type := 0, pos := "l02_ledger.go:107", after := #[{ on := 13, ground := Go.Ground.data }, { on := 7, ground := Go.Ground.guard }], guard := some (7, true) }) (v := undef) rfl (by kernel_rfl) (by kernel_rfl) (by kernel_rfl) (fun _ _ _ h => h) (Or.inr ⟨by rfl, rfl⟩) (by assumption) ?_
        try simp only [Act.put, List.setIfInBounds_toArray, List.set_cons_zero, List.set_cons_succ]
        refine wpAnyH_take (i := 15) (oi := { dst := some 59, op := Go.Op.load 50 (Go.Operand.tmp 58), type := 50, pos := "l02_ledger.go:107", after := #[{ on := 14, ground := Go.Ground.data }, { on := 7, ground := Go.Ground.guard }], guard := some (7, true) }) (v := undef) rfl (by kernel_rfl) (by kernel_rfl) (by kernel_rfl) (fun _ _ _ h => h) (Or.inr ⟨by rfl, rfl⟩) (by assumption) ?_
        try simp only [Act.put, List.setIfInBounds_toArray, List.set_cons_zero, List.set_cons_succ]
        refine wpAnyH_take (i := 16) (oi := { dst := some 60, op := Go.Op.call { callee := Go.Callee.value (Go.Operand.func 51), args := #[Go.Operand.tmp 55, Go.Operand.tmp 59], argTypes := #[50, 50] }, type := 4, pos := "l02_ledger.go:107", after := #[{ on := 11, ground := Go.Ground.data }, { on := 15, ground := Go.Ground.data }, { on := 7, ground := Go.Ground.chain }, { on := 7, ground := Go.Ground.guard }], guard := some (7, true) }) (v := undef) rfl (by kernel_rfl) (by kernel_rfl) (by kernel_rfl) (fun _ _ _ h => h) (Or.inr ⟨by rfl, rfl⟩) (by assumption) ?_
        try simp only [Act.put, List.setIfInBounds_toArray, List.set_cons_zero, List.set_cons_succ]
        refine wpAnyH_take (i := 17) (oi := { dst := some 61, op := Go.Op.pick (Go.Operand.tmp 51) (Go.Operand.tmp 60) (Go.Operand.const (Go.Value.bool false)), type := 4, pos := "l02_ledger.go:107", after := #[{ on := 7, ground := Go.Ground.data }, { on := 16, ground := Go.Ground.data }, { on := 3, ground := Go.Ground.guard }], guard := some (3, false) }) (v := undef) rfl (by kernel_rfl) (by kernel_rfl) (by kernel_rfl) (fun _ _ _ h => h) (Or.inr ⟨by rfl, rfl⟩) (by assumption) ?_
        try simp only [Act.put, List.setIfInBounds_toArray, List.set_cons_zero, List.set_cons_succ]
        refine wpAnyH_take (i := 18) (oi := { dst := some 62, op := Go.Op.pick (Go.Operand.tmp 47) (Go.Operand.const (Go.Value.bool true)) (Go.Operand.tmp 61), type := 4, pos := "l02_ledger.go:107", after := #[{ on := 3, ground := Go.Ground.data }, { on := 17, ground := Go.Ground.data }], guard := none }) (v := ?v25) rfl (by kernel_rfl) (by kernel_rfl) (by kernel_rfl) (fun _ _ _ h => h) (Or.inl ⟨by rfl, ?y25⟩) (by assumption) ?_
        case y25 => (intro w hSw; (try dsimp only at hSw); go_simp; first | done | with_reducible rfl)
        try simp only [Act.put, List.setIfInBounds_toArray, List.set_cons_zero, List.set_cons_succ]
        refine wpAnyH_take (i := 19) (oi := { dst := some 43, op := Go.Op.assign (Go.Operand.tmp 62), type := 4, pos := "l02_ledger.go:107", after := #[{ on := 18, ground := Go.Ground.data }, { on := 16, ground := Go.Ground.chain }], guard := none }) (v := ?v26) rfl (by kernel_rfl) (by kernel_rfl) (by kernel_rfl) (fun _ _ _ h => h) (Or.inl ⟨by rfl, ?y26⟩) (by assumption) ?_
        case y26 => (intro w hSw; (try dsimp only at hSw); go_simp; first | done | with_reducible rfl)
        try simp only [Act.put, List.setIfInBounds_toArray, List.set_cons_zero, List.set_cons_succ]
        refine wpAnyH_done (by kernel_rfl) ?_ _
        have hbW : Below W.heap.size W (wr.drew) := hb.drew
        have hOW : OwnL (wr.drew) W.heap.size wr.heap.size Ao no co os := Own.drew (hO)
        have hzW : wr.heap.size ≤ (wr.drew).heap.size := Nat.le_refl _
        have a0w : (wr.drew).cell? _ = _ := a0
        have a1w : (wr.drew).cell? _ = _ := a1
        have a2w : (wr.drew).cell? _ = _ := a2
        generalize wr.drew = wz at hbW hOW hzW a0w a1w a2w ⊢
        go_wp2_with (at_builtin; refine wpList_app _ rfl _ _ 25 rfl 63 i0 (.agg #[.int .i64 0, .int .i64 0, .int .i64 0]) 3 24 Try.underlying25 hi0 hj0 hj1 hj2 rfl (by omega) rfl (Own.alloc hOW _) 1 rfl (rd_new3 _ (.int .i64 x0) (.int .i64 x1) (.int .i64 x2) 63) (one3 _ _ _) (by unfold maxLen; omega) (by omega) (by first | (simp; done) | (simp; omega)) ?_; intro A2 c2 w8 hO2 hE2 _)
        have hb8 : Below W.heap.size W w8 := (hbW.alloc (by omega) _).trans (hE2.below (by first | (simp; done) | (simp; omega)) (.inl (Nat.le_refl _)))
        have HC : ∀ p : Addr, p.block < W.heap.size → w8.cell? p = wr.cell? p := fun p hp => (hb8.cell hp).trans (hb.cell hp).symm
        have HO : OwnL w8 W.heap.size w8.heap.size A2 (no + 1) c2 _ := lnCells_snoc os (x0) (x1) (x2) ▸ hO2
        clear hO2
        have HCH := Lib.hid HC
        clear HC
        go_wp2
        go_roundw
        case rel => exact ⟨_, _, _, _, _, _, _, _, _, _, _, _, rfl, rfl, rfl, ⟨by omega, by unfold maxLen; omega⟩, ⟨by omega, by unfold maxLen; omega⟩, Rd.keep (rd_tail hra (by omega)) HCH.out, Rd.keep (hrb) HCH.out, HO, Lib.hid (by rw [HM.out, mrg_nilr, mrg_nilr]; simp), Lib.hid ⟨fun z hz => HR.out.1 z (List.mem_cons_of_mem _ hz), HR.out.2⟩, by omega, hb8⟩
        case measure => simp [lenS]; omega
      · skip
        obtain ⟨ba, offa, rfl, hba, hcellA⟩ := hra.form (by have := hra.1; rw [lnCells_len] at this; simp at this; omega)
        have a0 := hcellA 0 (.int .i64 x0) rfl
        have a1 := hcellA 1 (.int .i64 x1) rfl
        have a2 := hcellA 2 (.int .i64 x2) rfl
        rw [Nat.add_zero] at a0
        have hna : 0 < na := by have := hra.1; rw [lnCells_len] at this; simp at this; omega
        have na0 : ((na : Int) == 0) = false := by simp; omega
        clear hcellA
        have hsla : ∀ w, (Instr.slice 25 (.slice (some ⟨ba, offa, none⟩) na ca) (some (.int .i64 1)) none none).run Try.prog w = .ok (.slice (tailA ba offa ca) (na - 1) (ca - 1)) w := fun w => run_tail w ba offa (by omega)
        obtain ⟨bb, offb, rfl, hbb, hcellB⟩ := hrb.form (by have := hrb.1; rw [lnCells_len] at this; simp at this; omega)
        have b0 := hcellB 0 (.int .i64 y0) rfl
        have b1 := hcellB 1 (.int .i64 y1) rfl
        have b2 := hcellB 2 (.int .i64 y2) rfl
        rw [Nat.add_zero] at b0
        have hnb : 0 < nb := by have := hrb.1; rw [lnCells_len] at this; simp at this; omega
        have nb0 : ((nb : Int) == 0) = false := by simp; omega
        clear hcellB
        have hslb : ∀ w, (Instr.slice 25 (.slice (some ⟨bb, offb, none⟩) nb cb) (some (.int .i64 1)) none none).run Try.prog w = .ok (.slice (tailA bb offb cb) (nb - 1) (cb - 1)) w := fun w => run_tail w bb offb (by omega)
        have hxr := rngA_iff.1 (HR.out.1 ⟨x0, x1, x2⟩ (by simp))
        have hyr := rngA_iff.1 (HR.out.2 ⟨y0, y1, y2⟩ (by simp))
        simp only at hxr hyr
        rcases hL2 : ltK x0 x1 y0 y1 with _ | _
        · skip
          have HLT : Hid (ltA ⟨x0, x1, x2⟩ ⟨y0, y1, y2⟩ = false) := Lib.hid hL2
          rcases hL3 : ltK y0 y1 x0 x1 with _ | _
          · skip
            have HGT : Hid (ltA ⟨y0, y1, y2⟩ ⟨x0, x1, x2⟩ = false) := Lib.hid hL3
            rcases hS : rngA (x2 + y2) with _ | _
            · skip
              have HSR : Hid (rngA (x2 + y2) = false) := Lib.hid hS
              go_wp2_with fail
              refine wp_region_held_drew (S := fun w' => w'.cell? ⟨ba, offa, none⟩ = some (.int .i64 x0) ∧ w'.cell? ⟨ba, offa + 1, none⟩ = some (.int .i64 x1) ∧ w'.cell? ⟨ba, offa + 2, none⟩ = some (.int .i64 x2) ∧ w'.cell? ⟨bb, offb, none⟩ = some (.int .i64 y0) ∧ w'.cell? ⟨bb, offb + 1, none⟩ = some (.int .i64 y1) ∧ w'.cell? ⟨bb, offb + 2, none⟩ = some (.int .i64 y2)) (by kernel_rfl) ?rg85 (fun hHeld => ?_)
              case rg85 => ((try dsimp only); (go_split_ands; (repeat' apply And.intro) <;> (first | assumption | exact cell_kept (by assumption) (by assumption) (by first | omega | (simp; done) | (simp; omega)))))
              refine wpAnyH_take (i := 0) (oi := { dst := some 44, op := Go.Op.move (Go.Operand.tmp 1), type := 25, pos := "l02_ledger.go:107", after := #[], guard := none }) (v := ?v86) rfl (by kernel_rfl) (by kernel_rfl) (by kernel_rfl) (fun _ _ _ h => h) (Or.inl ⟨by rfl, ?y86⟩) (by assumption) ?_
              case y86 => (intro w hSw; (try dsimp only at hSw); go_simp; first | done | with_reducible rfl)
              try simp only [Act.put, List.setIfInBounds_toArray, List.set_cons_zero, List.set_cons_succ]
              refine wpAnyH_take (i := 1) (oi := { dst := some 45, op := Go.Op.call { callee := Go.Callee.builtin Go.Builtin.len, args := #[Go.Operand.tmp 44], argTypes := #[25] }, type := 3, pos := "l02_ledger.go:107", after := #[{ on := 0, ground := Go.Ground.data }], guard := none }) (v := ?v87) rfl (by kernel_rfl) (by kernel_rfl) (by kernel_rfl) (fun _ _ _ h => h) (Or.inl ⟨by rfl, ?y87⟩) (by assumption) ?_
              case y87 => (intro w hSw; (try dsimp only at hSw); go_simp; first | done | with_reducible rfl)
              try simp only [Act.put, List.setIfInBounds_toArray, List.set_cons_zero, List.set_cons_succ]
              refine wpAnyH_take (i := 2) (oi := { dst := some 46, op := Go.Op.binOp Go.BinOp.eql 3 (Go.Operand.tmp 45) (Go.Operand.const (Go.Value.int Go.IntKind.i64 0)) 3, type := 4, pos := "l02_ledger.go:107", after := #[{ on := 1, ground := Go.Ground.data }], guard := none }) (v := ?v88) rfl (by kernel_rfl) (by kernel_rfl) (by kernel_rfl) (fun _ _ _ h => h) (Or.inl ⟨by rfl, ?y88⟩) (by assumption) ?_
              case y88 => (intro w hSw; (try dsimp only at hSw); go_simp; first | done | with_reducible rfl)
              try simp only [Act.put, List.setIfInBounds_toArray, List.set_cons_zero, List.set_cons_succ]
              refine wpAnyH_take (i := 3) (oi := { dst := some 47, op := Go.Op.move (Go.Operand.tmp 46), type := 4, pos := "l02_ledger.go:107", after := #[{ on := 2, ground := Go.Ground.data }], guard := none }) (v := ?v89) rfl (by kernel_rfl) (by kernel_rfl) (by kernel_rfl) (fun _ _ _ h => h) (Or.inl ⟨by rfl, ?y89⟩) (by assumption) ?_
              case y89 => (intro w hSw; (try dsimp only at hSw); go_simp; first | done | with_reducible rfl)
              try simp only [Act.put, List.setIfInBounds_toArray, List.set_cons_zero, List.set_cons_succ]
              refine wpAnyH_take (i := 4) (oi := { dst := some 48, op := Go.Op.move (Go.Operand.tmp 0), type := 25, pos := "l02_ledger.go:107", after := #[{ on := 3, ground := Go.Ground.guard }], guard := some (3, false) }) (v := ?v90) rfl (by kernel_rfl) (by kernel_rfl) (by kernel_rfl) (fun _ _ _ h => h) (Or.inl ⟨by rfl, ?y90⟩) (by assumption) ?_
              case y90 => (intro w hSw; (try dsimp only at hSw); go_simp; first | done | with_reducible rfl)
              try simp only [Act.put, List.setIfInBounds_toArray, List.set_cons_zero, List.set_cons_succ]
              refine wpAnyH_take (i := 5) (oi := { dst := some 49, op := Go.Op.call { callee := Go.Callee.builtin Go.Builtin.len, args := #[Go.Operand.tmp 48], argTypes := #[25] }, type := 3, pos := "l02_ledger.go:107", after := #[{ on := 4, ground := Go.Ground.data }, { on := 3, ground := Go.Ground.guard }], guard := some (3, false) }) (v := ?v91) rfl (by kernel_rfl) (by kernel_rfl) (by kernel_rfl) (fun _ _ _ h => h) (Or.inl ⟨by rfl, ?y91⟩) (by assumption) ?_
              case y91 => (intro w hSw; (try dsimp only at hSw); go_simp; first | done | with_reducible rfl)
              try simp only [Act.put, List.setIfInBounds_toArray, List.set_cons_zero, List.set_cons_succ]
              refine wpAnyH_take (i := 6) (oi := { dst := some 50, op := Go.Op.binOp Go.BinOp.gtr 3 (Go.Operand.tmp 49) (Go.Operand.const (Go.Value.int Go.IntKind.i64 0)) 3, type := 4, pos := "l02_ledger.go:107", after := #[{ on := 5, ground := Go.Ground.data }, { on := 3, ground := Go.Ground.guard }], guard := some (3, false) }) (v := ?v92) rfl (by kernel_rfl) (by kernel_rfl) (by kernel_rfl) (fun _ _ _ h => h) (Or.inl ⟨by rfl, ?y92⟩) (by assumption) ?_
              case y92 => (intro w hSw; (try dsimp only at hSw); go_simp; first | done | with_reducible rfl)
              try simp only [Act.put, List.setIfInBounds_toArray, List.set_cons_zero, List.set_cons_succ]
              refine wpAnyH_take (i := 7) (oi := { dst := some 51, op := Go.Op.move (Go.Operand.tmp 50), type := 4, pos := "l02_ledger.go:107", after := #[{ on := 6, ground := Go.Ground.data }, { on := 3, ground := Go.Ground.chain }, { on := 3, ground := Go.Ground.guard }], guard := some (3, false) }) (v := ?v93) rfl (by kernel_rfl) (by kernel_rfl) (by kernel_rfl) (fun _ _ _ h => h) (Or.inl ⟨by rfl, ?y93⟩) (by assumption) ?_
              case y93 => (intro w hSw; (try dsimp only at hSw); go_simp; first | done | with_reducible rfl)
              try simp only [Act.put, List.setIfInBounds_toArray, List.set_cons_zero, List.set_cons_succ]
              refine wpAnyH_take (i := 8) (oi := { dst := some 52, op := Go.Op.move (Go.Operand.tmp 0), type := 25, pos := "l02_ledger.go:107", after := #[{ on := 7, ground := Go.Ground.guard }], guard := some (7, true) }) (v := ?v94) rfl (by kernel_rfl) (by kernel_rfl) (by kernel_rfl) (fun _ _ _ h => h) (Or.inl ⟨by rfl, ?y94⟩) (by assumption) ?_
              case y94 => (intro w hSw; (try dsimp only at hSw); go_simp; first | done | with_reducible rfl)
              try simp only [Act.put, List.setIfInBounds_toArray, List.set_cons_zero, List.set_cons_succ]
              refine wpAnyH_take (i := 9) (oi := { dst := some 53, op := Go.Op.indexAddr 25 (Go.Operand.tmp 52) (Go.Operand.const (Go.Value.int Go.IntKind.i64 0)), type := 0, pos := "l02_ledger.go:107", after := #[{ on := 8, ground := Go.Ground.data }, { on := 7, ground := Go.Ground.guard }], guard := some (7, true) }) (v := ?v95) rfl (by kernel_rfl) (by kernel_rfl) (by kernel_rfl) (fun _ _ _ h => h) (Or.inl ⟨by rfl, ?y95⟩) (by assumption) ?_
              case y95 => (intro w hSw; (try dsimp only at hSw); go_simp; first | done | with_reducible rfl)
              try simp only [Act.put, List.setIfInBounds_toArray, List.set_cons_zero, List.set_cons_succ]
              refine wpAnyH_take (i := 10) (oi := { dst := some 54, op := Go.Op.fieldAddr 63 (Go.Operand.tmp 53) 0, type := 0, pos := "l02_ledger.go:107", after := #[{ on := 9, ground := Go.Ground.data }, { on := 7, ground := Go.Ground.guard }], guard := some (7, true) }) (v := ?v96) rfl (by kernel_rfl) (by kernel_rfl) (by kernel_rfl) (fun _ _ _ h => h) (Or.inl ⟨by rfl, ?y96⟩) (by assumption) ?_
              case y96 => (intro w hSw; (try dsimp only at hSw); go_simp; first | done | with_reducible rfl)
              try simp only [Act.put, List.setIfInBounds_toArray, List.set_cons_zero, List.set_cons_succ]
              refine wpAnyH_take (i := 11) (oi := { dst := some 55, op := Go.Op.load 50 (Go.Operand.tmp 54), type := 50, pos := "l02_ledger.go:107", after := #[{ on := 10, ground := Go.Ground.data }, { on := 7, ground := Go.Ground.guard }], guard := some (7, true) }) (v := ?v97) rfl (by kernel_rfl) (by kernel_rfl) (by kernel_rfl) (fun _ _ _ h => h) (Or.inl ⟨by rfl, ?y97⟩) (by assumption) ?_
              case y97 => (intro w hSw; (try dsimp only at hSw); go_simp; first | done | with_reducible rfl)
              try simp only [Act.put, List.setIfInBounds_toArray, List.set_cons_zero, List.set_cons_succ]
              refine wpAnyH_take (i := 12) (oi := { dst := some 56, op := Go.Op.move (Go.Operand.tmp 1), type := 25, pos := "l02_ledger.go:107", after := #[{ on := 7, ground := Go.Ground.guard }], guard := some (7, true) }) (v := ?v98) rfl (by kernel_rfl) (by kernel_rfl) (by kernel_rfl) (fun _ _ _ h => h) (Or.inl ⟨by rfl, ?y98⟩) (by assumption) ?_
              case y98 => (intro w hSw; (try dsimp only at hSw); go_simp; first | done | with_reducible rfl)
              try simp only [Act.put, List.setIfInBounds_toArray, List.set_cons_zero, List.set_cons_succ]
              refine wpAnyH_take (i := 13) (oi := { dst := some 57, op := Go.Op.indexAddr 25 (Go.Operand.tmp 56) (Go.Operand.const (Go.Value.int Go.IntKind.i64 0)), type := 0, pos := "l02_ledger.go:107", after := #[{ on := 12, ground := Go.Ground.data }, { on := 7, ground := Go.Ground.guard }], guard := some (7, true) }) (v := ?v99) rfl (by kernel_rfl) (by kernel_rfl) (by kernel_rfl) (fun _ _ _ h => h) (Or.inl ⟨by rfl, ?y99⟩) (by assumption) ?_
              case y99 => (intro w hSw; (try dsimp only at hSw); go_simp; first | done | with_reducible rfl)
              try simp only [Act.put, List.setIfInBounds_toArray, List.set_cons_zero, List.set_cons_succ]
              refine wpAnyH_take (i := 14) (oi := { dst := some 58, op := Go.Op.fieldAddr 63 (Go.Operand.tmp 57) 0, type := 0, pos := "l02_ledger.go:107", after := #[{ on := 13, ground := Go.Ground.data }, { on := 7, ground := Go.Ground.guard }], guard := some (7, true) }) (v := ?v100) rfl (by kernel_rfl) (by kernel_rfl) (by kernel_rfl) (fun _ _ _ h => h) (Or.inl ⟨by rfl, ?y100⟩) (by assumption) ?_
              case y100 => (intro w hSw; (try dsimp only at hSw); go_simp; first | done | with_reducible rfl)
              try simp only [Act.put, List.setIfInBounds_toArray, List.set_cons_zero, List.set_cons_succ]
              refine wpAnyH_take (i := 15) (oi := { dst := some 59, op := Go.Op.load 50 (Go.Operand.tmp 58), type := 50, pos := "l02_ledger.go:107", after := #[{ on := 14, ground := Go.Ground.data }, { on := 7, ground := Go.Ground.guard }], guard := some (7, true) }) (v := ?v101) rfl (by kernel_rfl) (by kernel_rfl) (by kernel_rfl) (fun _ _ _ h => h) (Or.inl ⟨by rfl, ?y101⟩) (by assumption) ?_
              case y101 => (intro w hSw; (try dsimp only at hSw); go_simp; first | done | with_reducible rfl)
              try simp only [Act.put, List.setIfInBounds_toArray, List.set_cons_zero, List.set_cons_succ]
              refine wpAnyH_ready (rs := [16]) (by kernel_rfl) (by simp) ?_
              refine AllReadyH.cons (o := { dst := some 60, op := Go.Op.call { callee := Go.Callee.value (Go.Operand.func 51), args := #[Go.Operand.tmp 55, Go.Operand.tmp 59], argTypes := #[50, 50] }, type := 4, pos := "l02_ledger.go:107", after := #[{ on := 11, ground := Go.Ground.data }, { on := 15, ground := Go.Ground.data }, { on := 7, ground := Go.Ground.chain }, { on := 7, ground := Go.Ground.guard }], guard := some (7, true) }) rfl (fun K hK => ?k102) AllReadyH.nil
              go_simp
              go_at_call 51
              refine (impl_lessAcc x0 x1 y0 y1 _).mono ?_
              rintro e w2 ⟨rfl, hb2⟩
              rw [hL2]
              refine hK.out _ _ ?s102 (fun hHeld => ?_)
              case s102 => ((try dsimp only); (go_split_ands; (repeat' apply And.intro) <;> (first | assumption | exact cell_kept (by assumption) (by assumption) (by first | omega | (simp; done) | (simp; omega)))))
              clear hK K
              try simp only [Act.put, List.setIfInBounds_toArray, List.set_cons_zero, List.set_cons_succ]
              refine wpAnyH_take (i := 17) (oi := { dst := some 61, op := Go.Op.pick (Go.Operand.tmp 51) (Go.Operand.tmp 60) (Go.Operand.const (Go.Value.bool false)), type := 4, pos := "l02_ledger.go:107", after := #[{ on := 7, ground := Go.Ground.data }, { on := 16, ground := Go.Ground.data }, { on := 3, ground := Go.Ground.guard }], guard := some (3, false) }) (v := ?v103) rfl (by kernel_rfl) (by kernel_rfl) (by kernel_rfl) (fun _ _ _ h => h) (Or.inl ⟨by rfl, ?y103⟩) (by assumption) ?_
              case y103 => (intro w hSw; (try dsimp only at hSw); go_simp; first | done | with_reducible rfl)
              try simp only [Act.put, List.setIfInBounds_toArray, List.set_cons_zero, List.set_cons_succ]
              refine wpAnyH_take (i := 18) (oi := { dst := some 62, op := Go.Op.pick (Go.Operand.tmp 47) (Go.Operand.const (Go.Value.bool true)) (Go.Operand.tmp 61), type := 4, pos := "l02_ledger.go:107", after := #[{ on := 3, ground := Go.Ground.data }, { on := 17, ground := Go.Ground.data }], guard := none }) (v := ?v104) rfl (by kernel_rfl) (by kernel_rfl) (by kernel_rfl) (fun _ _ _ h => h) (Or.inl ⟨by rfl, ?y104⟩) (by assumption) ?_
              case y104 => (intro w hSw; (try dsimp only at hSw); go_simp; first | done | with_reducible rfl)
              try simp only [Act.put, List.setIfInBounds_toArray, List.set_cons_zero, List.set_cons_succ]
              refine wpAnyH_take (i := 19) (oi := { dst := some 43, op := Go.Op.assign (Go.Operand.tmp 62), type := 4, pos := "l02_ledger.go:107", after := #[{ on := 18, ground := Go.Ground.data }, { on := 16, ground := Go.Ground.chain }], guard := none }) (v := ?v105) rfl (by kernel_rfl) (by kernel_rfl) (by kernel_rfl) (fun _ _ _ h => h) (Or.inl ⟨by rfl, ?y105⟩) (by assumption) ?_
              case y105 => (intro w hSw; (try dsimp only at hSw); go_simp; first | done | with_reducible rfl)
              try simp only [Act.put, List.setIfInBounds_toArray, List.set_cons_zero, List.set_cons_succ]
              refine wpAnyH_done (by kernel_rfl) ?_ _
              have hzW2 : wr.heap.size ≤ w2.heap.size := hb2.size
              go_wp2_with fail
              refine wp_region_held_drew (S := fun w' => w'.cell? ⟨ba, offa, none⟩ = some (.int .i64 x0) ∧ w'.cell? ⟨ba, offa + 1, none⟩ = some (.int .i64 x1) ∧ w'.cell? ⟨ba, offa + 2, none⟩ = some (.int .i64 x2) ∧ w'.cell? ⟨bb, offb, none⟩ = some (.int .i64 y0) ∧ w'.cell? ⟨bb, offb + 1, none⟩ = some (.int .i64 y1) ∧ w'.cell? ⟨bb, offb + 2, none⟩ = some (.int .i64 y2)) (by kernel_rfl) ?rg106 (fun hHeld => ?_)
              case rg106 => ((try dsimp only); (go_split_ands; (repeat' apply And.intro) <;> (first | assumption | exact cell_kept (by assumption) (by assumption) (by first | omega | (simp; done) | (simp; omega)))))
              refine wpAnyH_take (i := 0) (oi := { dst := some 72, op := Go.Op.move (Go.Operand.tmp 0), type := 25, pos := "l02_ledger.go:110", after := #[], guard := none }) (v := ?v107) rfl (by kernel_rfl) (by kernel_rfl) (by kernel_rfl) (fun _ _ _ h => h) (Or.inl ⟨by rfl, ?y107⟩) (by assumption) ?_
              case y107 => (intro w hSw; (try dsimp only at hSw); go_simp; first | done | with_reducible rfl)
              try simp only [Act.put, List.setIfInBounds_toArray, List.set_cons_zero, List.set_cons_succ]
              refine wpAnyH_take (i := 1) (oi := { dst := some 73, op := Go.Op.call { callee := Go.Callee.builtin Go.Builtin.len, args := #[Go.Operand.tmp 72], argTypes := #[25] }, type := 3, pos := "l02_ledger.go:110", after := #[{ on := 0, ground := Go.Ground.data }], guard := none }) (v := ?v108) rfl (by kernel_rfl) (by kernel_rfl) (by kernel_rfl) (fun _ _ _ h => h) (Or.inl ⟨by rfl, ?y108⟩) (by assumption) ?_
              case y108 => (intro w hSw; (try dsimp only at hSw); go_simp; first | done | with_reducible rfl)
              try simp only [Act.put, List.setIfInBounds_toArray, List.set_cons_zero, List.set_cons_succ]
              refine wpAnyH_take (i := 2) (oi := { dst := some 74, op := Go.Op.binOp Go.BinOp.eql 3 (Go.Operand.tmp 73) (Go.Operand.const (Go.Value.int Go.IntKind.i64 0)) 3, type := 4, pos := "l02_ledger.go:110", after := #[{ on := 1, ground := Go.Ground.data }], guard := none }) (v := ?v109) rfl (by kernel_rfl) (by kernel_rfl) (by kernel_rfl) (fun _ _ _ h => h) (Or.inl ⟨by rfl, ?y109⟩) (by assumption) ?_
              case y109 => (intro w hSw; (try dsimp only at hSw); go_simp; first | done | with_reducible rfl)
              try simp only [Act.put, List.setIfInBounds_toArray, List.set_cons_zero, List.set_cons_succ]
              refine wpAnyH_take (i := 3) (oi := { dst := some 75, op := Go.Op.move (Go.Operand.tmp 74), type := 4, pos := "l02_ledger.go:110", after := #[{ on := 2, ground := Go.Ground.data }], guard := none }) (v := ?v110) rfl (by kernel_rfl) (by kernel_rfl) (by kernel_rfl) (fun _ _ _ h => h) (Or.inl ⟨by rfl, ?y110⟩) (by assumption) ?_
              case y110 => (intro w hSw; (try dsimp only at hSw); go_simp; first | done | with_reducible rfl)
              try simp only [Act.put, List.setIfInBounds_toArray, List.set_cons_zero, List.set_cons_succ]
              refine wpAnyH_take (i := 4) (oi := { dst := some 76, op := Go.Op.move (Go.Operand.tmp 1), type := 25, pos := "l02_ledger.go:110", after := #[{ on := 3, ground := Go.Ground.guard }], guard := some (3, false) }) (v := ?v111) rfl (by kernel_rfl) (by kernel_rfl) (by kernel_rfl) (fun _ _ _ h => h) (Or.inl ⟨by rfl, ?y111⟩) (by assumption) ?_
              case y111 => (intro w hSw; (try dsimp only at hSw); go_simp; first | done | with_reducible rfl)
              try simp only [Act.put, List.setIfInBounds_toArray, List.set_cons_zero, List.set_cons_succ]
              refine wpAnyH_take (i := 5) (oi := { dst := some 77, op := Go.Op.indexAddr 25 (Go.Operand.tmp 76) (Go.Operand.const (Go.Value.int Go.IntKind.i64 0)), type := 0, pos := "l02_ledger.go:110", after := #[{ on := 4, ground := Go.Ground.data }, { on := 3, ground := Go.Ground.guard }], guard := some (3, false) }) (v := ?v112) rfl (by kernel_rfl) (by kernel_rfl) (by kernel_rfl) (fun _ _ _ h => h) (Or.inl ⟨by rfl, ?y112⟩) (by assumption) ?_
              case y112 => (intro w hSw; (try dsimp only at hSw); go_simp; first | done | with_reducible rfl)
              try simp only [Act.put, List.setIfInBounds_toArray, List.set_cons_zero, List.set_cons_succ]
              refine wpAnyH_take (i := 6) (oi := { dst := some 78, op := Go.Op.fieldAddr 63 (Go.Operand.tmp 77) 0, type := 0, pos := "l02_ledger.go:110", after := #[{ on := 5, ground := Go.Ground.data }, { on := 3, ground := Go.Ground.guard }], guard := some (3, false) }) (v := ?v113) rfl (by kernel_rfl) (by kernel_rfl) (by kernel_rfl) (fun _ _ _ h => h) (Or.inl ⟨by rfl, ?y113⟩) (by assumption) ?_
              case y113 => (intro w hSw; (try dsimp only at hSw); go_simp; first | done | with_reducible rfl)
              try simp only [Act.put, List.setIfInBounds_toArray, List.set_cons_zero, List.set_cons_succ]
              refine wpAnyH_take (i := 7) (oi := { dst := some 79, op := Go.Op.load 50 (Go.Operand.tmp 78), type := 50, pos := "l02_ledger.go:110", after := #[{ on := 6, ground := Go.Ground.data }, { on := 3, ground := Go.Ground.guard }], guard := some (3, false) }) (v := ?v114) rfl (by kernel_rfl) (by kernel_rfl) (by kernel_rfl) (fun _ _ _ h => h) (Or.inl ⟨by rfl, ?y114⟩) (by assumption) ?_
              case y114 => (intro w hSw; (try dsimp only at hSw); go_simp; first | done | with_reducible rfl)
              try simp only [Act.put, List.setIfInBounds_toArray, List.set_cons_zero, List.set_cons_succ]
              refine wpAnyH_take (i := 8) (oi := { dst := some 80, op := Go.Op.move (Go.Operand.tmp 0), type := 25, pos := "l02_ledger.go:110", after := #[{ on := 3, ground := Go.Ground.guard }], guard := some (3, false) }) (v := ?v115) rfl (by kernel_rfl) (by kernel_rfl) (by kernel_rfl) (fun _ _ _ h => h) (Or.inl ⟨by rfl, ?y115⟩) (by assumption) ?_
              case y115 => (intro w hSw; (try dsimp only at hSw); go_simp; first | done | with_reducible rfl)
              try simp only [Act.put, List.setIfInBounds_toArray, List.set_cons_zero, List.set_cons_succ]
              refine wpAnyH_take (i := 9) (oi := { dst := some 81, op := Go.Op.indexAddr 25 (Go.Operand.tmp 80) (Go.Operand.const (Go.Value.int Go.IntKind.i64 0)), type := 0, pos := "l02_ledger.go:110", after := #[{ on := 8, ground := Go.Ground.data }, { on := 3, ground := Go.Ground.guard }], guard := some (3, false) }) (v := ?v116) rfl (by kernel_rfl) (by kernel_rfl) (by kernel_rfl) (fun _ _ _ h => h) (Or.inl ⟨by rfl, ?y116⟩) (by assumption) ?_
              case y116 => (intro w hSw; (try dsimp only at hSw); go_simp; first | done | with_reducible rfl)
              try simp only [Act.put, List.setIfInBounds_toArray, List.set_cons_zero, List.set_cons_succ]
              refine wpAnyH_take (i := 10) (oi := { dst := some 82, op := Go.Op.fieldAddr 63 (Go.Operand.tmp 81) 0, type := 0, pos := "l02_ledger.go:110", after := #[{ on := 9, ground := Go.Ground.data }, { on := 3, ground := Go.Ground.guard }], guard := some (3, false) }) (v := ?v117) rfl (by kernel_rfl) (by kernel_rfl) (by kernel_rfl) (fun _ _ _ h => h) (Or.inl ⟨by rfl, ?y117⟩) (by assumption) ?_
              case y117 => (intro w hSw; (try dsimp only at hSw); go_simp; first | done | with_reducible rfl)
              try simp only [Act.put, List.setIfInBounds_toArray, List.set_cons_zero, List.set_cons_succ]
              refine wpAnyH_take (i := 11) (oi := { dst := some 83, op := Go.Op.load 50 (Go.Operand.tmp 82), type := 50, pos := "l02_ledger.go:110", after := #[{ on := 10, ground := Go.Ground.data }, { on := 3, ground := Go.Ground.guard }], guard := some (3, false) }) (v := ?v118) rfl (by kernel_rfl) (by kernel_rfl) (by kernel_rfl) (fun _ _ _ h => h) (Or.inl ⟨by rfl, ?y118⟩) (by assumption) ?_
              case y118 => (intro w hSw; (try dsimp only at hSw); go_simp; first | done | with_reducible rfl)
              try simp only [Act.put, List.setIfInBounds_toArray, List.set_cons_zero, List.set_cons_succ]
              refine wpAnyH_ready (rs := [12]) (by kernel_rfl) (by simp) ?_
              refine AllReadyH.cons (o := { dst := some 84, op := Go.Op.call { callee := Go.Callee.value (Go.Operand.func 51), args := #[Go.Operand.tmp 79, Go.Operand.tmp 83], argTypes := #[50, 50] }, type := 4, pos := "l02_ledger.go:110", after := #[{ on := 7, ground := Go.Ground.data }, { on := 11, ground := Go.Ground.data }, { on := 3, ground := Go.Ground.chain }, { on := 3, ground := Go.Ground.guard }], guard := some (3, false) }) rfl (fun K hK => ?k119) AllReadyH.nil
              go_simp
              go_at_call 51
              refine (impl_lessAcc y0 y1 x0 x1 _).mono ?_
              rintro e w3 ⟨rfl, hb3⟩
              rw [hL3]
              refine hK.out _ _ ?s119 (fun hHeld => ?_)
              case s119 => ((try dsimp only); (go_split_ands; (repeat' apply And.intro) <;> (first | assumption | exact cell_kept (by assumption) (by assumption) (by first | omega | (simp; done) | (simp; omega)))))
              clear hK K
              try simp only [Act.put, List.setIfInBounds_toArray, List.set_cons_zero, List.set_cons_succ]
              refine wpAnyH_take (i := 13) (oi := { dst := some 85, op := Go.Op.pick (Go.Operand.tmp 75) (Go.Operand.const (Go.Value.bool true)) (Go.Operand.tmp 84), type := 4, pos := "l02_ledger.go:110", after := #[{ on := 3, ground := Go.Ground.data }, { on := 12, ground := Go.Ground.data }], guard := none }) (v := ?v120) rfl (by kernel_rfl) (by kernel_rfl) (by kernel_rfl) (fun _ _ _ h => h) (Or.inl ⟨by rfl, ?y120⟩) (by assumption) ?_
              case y120 => (intro w hSw; (try dsimp only at hSw); go_simp; first | done | with_reducible rfl)
              try simp only [Act.put, List.setIfInBounds_toArray, List.set_cons_zero, List.set_cons_succ]
              refine wpAnyH_take (i := 14) (oi := { dst := some 71, op := Go.Op.assign (Go.Operand.tmp 85), type := 4, pos := "l02_ledger.go:110", after := #[{ on := 13, ground := Go.Ground.data }, { on := 12, ground := Go.Ground.chain }], guard := none }) (v := ?v121) rfl (by kernel_rfl) (by kernel_rfl) (by kernel_rfl) (fun _ _ _ h => h) (Or.inl ⟨by rfl, ?y121⟩) (by assumption) ?_
              case y121 => (intro w hSw; (try dsimp only at hSw); go_simp; first | done | with_reducible rfl)
              try simp only [Act.put, List.setIfInBounds_toArray, List.set_cons_zero, List.set_cons_succ]
              refine wpAnyH_done (by kernel_rfl) ?_ _
              have hbW : Below W.heap.size W w3 := (hb.drew.trans (hb2.mono hz)).drew.trans (hb3.mono (by show W.heap.size ≤ w2.heap.size; omega))
              have hOW : OwnL w3 W.heap.size wr.heap.size Ao no co os := Own.keep (Own.drew (Own.keep (Own.drew hO) (Eff.of hb2) (.inr (.inr (Nat.le_refl _))))) (Eff.of hb3) (.inr (.inr (Nat.le_refl _)))
              have hzW : wr.heap.size ≤ w3.heap.size := Nat.le_trans hzW2 hb3.size
              go_split_ands
              go_wp2_with fail
              refine wp_region_held_drew (S := fun w' => w'.cell? ⟨ba, offa, none⟩ = some (.int .i64 x0) ∧ w'.cell? ⟨ba, offa + 1, none⟩ = some (.int .i64 x1) ∧ w'.cell? ⟨ba, offa + 2, none⟩ = some (.int .i64 x2) ∧ w'.cell? ⟨bb, offb, none⟩ = some (.int .i64 y0) ∧ w'.cell? ⟨bb, offb + 1, none⟩ = some (.int .i64 y1) ∧ w'.cell? ⟨bb, offb + 2, none⟩ = some (.int .i64 y2)) (by kernel_rfl) ?rg122 (fun hHeld => ?_)
              case rg122 => ((try dsimp only); (go_split_ands; (repeat' apply And.intro) <;> (first | assumption | exact cell_kept (by assumption) (by assumption) (by first | omega | (simp; done) | (simp; omega)))))
              refine wpAnyH_take (i := 0) (oi := { dst := some 16, op := Go.Op.move (Go.Operand.tmp 0), type := 25, pos := "l02_ledger.go:114", after := #[], guard := none }) (v := ?v123) rfl (by kernel_rfl) (by kernel_rfl) (by kernel_rfl) (fun _ _ _ h => h) (Or.inl ⟨by rfl, ?y123⟩) (by assumption) ?_
              case y123 => (intro w hSw; (try dsimp only at hSw); go_simp; first | done | with_reducible rfl)
              try simp only [Act.put, List.setIfInBounds_toArray, List.set_cons_zero, List.set_cons_succ]
              refine wpAnyH_take (i := 1) (oi := { dst := some 17, op := Go.Op.indexAddr 25 (Go.Operand.tmp 16) (Go.Operand.const (Go.Value.int Go.IntKind.i64 0)), type := 0, pos := "l02_ledger.go:114", after := #[{ on := 0, ground := Go.Ground.data }], guard := none }) (v := ?v124) rfl (by kernel_rfl) (by kernel_rfl) (by kernel_rfl) (fun _ _ _ h => h) (Or.inl ⟨by rfl, ?y124⟩) (by assumption) ?_
              case y124 => (intro w hSw; (try dsimp only at hSw); go_simp; first | done | with_reducible rfl)
              try simp only [Act.put, List.setIfInBounds_toArray, List.set_cons_zero, List.set_cons_succ]
              refine wpAnyH_take (i := 2) (oi := { dst := some 18, op := Go.Op.fieldAddr 63 (Go.Operand.tmp 17) 1, type := 0, pos := "l02_ledger.go:114", after := #[{ on := 1, ground := Go.Ground.data }], guard := none }) (v := ?v125) rfl (by kernel_rfl) (by kernel_rfl) (by kernel_rfl) (fun _ _ _ h => h) (Or.inl ⟨by rfl, ?y125⟩) (by assumption) ?_
              case y125 => (intro w hSw; (try dsimp only at hSw); go_simp; first | done | with_reducible rfl)
              try simp only [Act.put, List.setIfInBounds_toArray, List.set_cons_zero, List.set_cons_succ]
              refine wpAnyH_take (i := 3) (oi := { dst := some 19, op := Go.Op.load 3 (Go.Operand.tmp 18), type := 3, pos := "l02_ledger.go:114", after := #[{ on := 2, ground := Go.Ground.data }], guard := none }) (v := ?v126) rfl (by kernel_rfl) (by kernel_rfl) (by kernel_rfl) (fun _ _ _ h => h) (Or.inl ⟨by rfl, ?y126⟩) (by assumption) ?_
              case y126 => (intro w hSw; (try dsimp only at hSw); go_simp; first | done | with_reducible rfl)
              try simp only [Act.put, List.setIfInBounds_toArray, List.set_cons_zero, List.set_cons_succ]
              refine wpAnyH_take (i := 4) (oi := { dst := some 20, op := Go.Op.move (Go.Operand.tmp 1), type := 25, pos := "l02_ledger.go:114", after := #[], guard := none }) (v := ?v127) rfl (by kernel_rfl) (by kernel_rfl) (by kernel_rfl) (fun _ _ _ h => h) (Or.inl ⟨by rfl, ?y127⟩) (by assumption) ?_
              case y127 => (intro w hSw; (try dsimp only at hSw); go_simp; first | done | with_reducible rfl)
              try simp only [Act.put, List.setIfInBounds_toArray, List.set_cons_zero, List.set_cons_succ]
              refine wpAnyH_take (i := 5) (oi := { dst := some 21, op := Go.Op.indexAddr 25 (Go.Operand.tmp 20) (Go.Operand.const (Go.Value.int Go.IntKind.i64 0)), type := 0, pos := "l02_ledger.go:114", after := #[{ on := 4, ground := Go.Ground.data }], guard := none }) (v := ?v128) rfl (by kernel_rfl) (by kernel_rfl) (by kernel_rfl) (fun _ _ _ h => h) (Or.inl ⟨by rfl, ?y128⟩) (by assumption) ?_
              case y128 => (intro w hSw; (try dsimp only at hSw); go_simp; first | done | with_reducible rfl)
              try simp only [Act.put, List.setIfInBounds_toArray, List.set_cons_zero, List.set_cons_succ]
              refine wpAnyH_take (i := 6) (oi := { dst := some 22, op := Go.Op.fieldAddr 63 (Go.Operand.tmp 21) 1, type := 0, pos := "l02_ledger.go:114", after := #[{ on := 5, ground := Go.Ground.data }], guard := none }) (v := ?v129) rfl (by kernel_rfl) (by kernel_rfl) (by kernel_rfl) (fun _ _ _ h => h) (Or.inl ⟨by rfl, ?y129⟩) (by assumption) ?_
              case y129 => (intro w hSw; (try dsimp only at hSw); go_simp; first | done | with_reducible rfl)
              try simp only [Act.put, List.setIfInBounds_toArray, List.set_cons_zero, List.set_cons_succ]
              refine wpAnyH_take (i := 7) (oi := { dst := some 23, op := Go.Op.load 3 (Go.Operand.tmp 22), type := 3, pos := "l02_ledger.go:114", after := #[{ on := 6, ground := Go.Ground.data }], guard := none }) (v := ?v130) rfl (by kernel_rfl) (by kernel_rfl) (by kernel_rfl) (fun _ _ _ h => h) (Or.inl ⟨by rfl, ?y130⟩) (by assumption) ?_
              case y130 => (intro w hSw; (try dsimp only at hSw); go_simp; first | done | with_reducible rfl)
              try simp only [Act.put, List.setIfInBounds_toArray, List.set_cons_zero, List.set_cons_succ]
              refine wpAnyH_take (i := 8) (oi := { dst := some 24, op := Go.Op.binOp Go.BinOp.add 3 (Go.Operand.tmp 19) (Go.Operand.tmp 23) 3, type := 3, pos := "l02_ledger.go:114", after := #[{ on := 3, ground := Go.Ground.data }, { on := 7, ground := Go.Ground.data }], guard := none }) (v := ?v131) rfl (by kernel_rfl) (by kernel_rfl) (by kernel_rfl) (fun _ _ _ h => h) (Or.inl ⟨by rfl, ?y131⟩) (by assumption) ?_
              case y131 => (intro w hSw; (try dsimp only at hSw); go_simp; first | done | with_reducible rfl)
              try simp only [Act.put, List.setIfInBounds_toArray, List.set_cons_zero, List.set_cons_succ]
              refine wpAnyH_take (i := 9) (oi := { dst := some 7, op := Go.Op.assign (Go.Operand.tmp 24), type := 3, pos := "l02_ledger.go:114", after := #[{ on := 8, ground := Go.Ground.data }, { on := 0, ground := Go.Ground.phase }, { on := 1, ground := Go.Ground.phase }, { on := 2, ground := Go.Ground.phase }, { on := 3, ground := Go.Ground.phase }, { on := 4, ground := Go.Ground.phase }, { on := 5, ground := Go.Ground.phase }, { on := 6, ground := Go.Ground.phase }, { on := 7, ground := Go.Ground.phase }, { on := 8, ground := Go.Ground.phase }], guard := none }) (v := ?v132) rfl (by kernel_rfl) (by kernel_rfl) (by kernel_rfl) (fun _ _ _ h => h) (Or.inl ⟨by rfl, ?y132⟩) (by assumption) ?_
              case y132 => (intro w hSw; (try dsimp only at hSw); go_simp; first | done | with_reducible rfl)
              try simp only [Act.put, List.setIfInBounds_toArray, List.set_cons_zero, List.set_cons_succ]
              refine wpAnyH_done (by kernel_rfl) ?_ _
              have hbW3 : Below W.heap.size W w3.drew := hbW.drew
              have hOW3 : OwnL w3.drew W.heap.size wr.heap.size Ao no co os := Own.drew hOW
              have hzW3 : wr.heap.size ≤ w3.drew.heap.size := hzW
              clear hbW hOW hzW
              have hbW := hbW3
              have hOW := hOW3
              have hzW := hzW3
              clear hbW3 hOW3 hzW3
              go_split_ands
              generalize w3.drew = wz at *
              go_wp2_with (first | (go_at_call 50; refine (in_any _ _ _ _).mono ?_; rintro e w9 ⟨rfl, rfl⟩; rw [show inB (x2 + y2) (-1125899906842624) 1125899906842624 = _ from hS]))
              go_ret2
              exact .inr ⟨by rw [HM.out, mrg_out HLT.out HGT.out HSR.out]; rfl, rfl, hbW⟩
            · skip
              have HSR : Hid (rngA (x2 + y2) = true) := Lib.hid hS
              by_cases hS0 : x2 + y2 = 0
              · skip
                have HS0 : Hid (x2 + y2 = 0) := Lib.hid hS0
                have hs1 : (x2 + y2 != 0) = false := by simp; exact hS0
                clear hS0
                go_wp2_with fail
                refine wp_region_held_drew (S := fun w' => w'.cell? ⟨ba, offa, none⟩ = some (.int .i64 x0) ∧ w'.cell? ⟨ba, offa + 1, none⟩ = some (.int .i64 x1) ∧ w'.cell? ⟨ba, offa + 2, none⟩ = some (.int .i64 x2) ∧ w'.cell? ⟨bb, offb, none⟩ = some (.int .i64 y0) ∧ w'.cell? ⟨bb, offb + 1, none⟩ = some (.int .i64 y1) ∧ w'.cell? ⟨bb, offb + 2, none⟩ = some (.int .i64 y2)) (by kernel_rfl) ?rg133 (fun hHeld => ?_)
                case rg133 => ((try dsimp only); (go_split_ands; (repeat' apply And.intro) <;> (first | assumption | exact cell_kept (by assumption) (by assumption) (by first | omega | (simp; done) | (simp; omega)))))
                refine wpAnyH_take (i := 0) (oi := { dst := some 44, op := Go.Op.move (Go.Operand.tmp 1), type := 25, pos := "l02_ledger.go:107", after := #[], guard := none }) (v := ?v134) rfl (by kernel_rfl) (by kernel_rfl) (by kernel_rfl) (fun _ _ _ h => h) (Or.inl ⟨by rfl, ?y134⟩) (by assumption) ?_
                case y134 => (intro w hSw; (try dsimp only at hSw); go_simp; first | done | with_reducible rfl)
                try simp only [Act.put, List.setIfInBounds_toArray, List.set_cons_zero, List.set_cons_succ]
                refine wpAnyH_take (i := 1) (oi := { dst := some 45, op := Go.Op.call { callee := Go.Callee.builtin Go.Builtin.len, args := #[Go.Operand.tmp 44], argTypes := #[25] }, type := 3, pos := "l02_ledger.go:107", after := #[{ on := 0, ground := Go.Ground.data }], guard := none }) (v := ?v135) rfl (by kernel_rfl) (by kernel_rfl) (by kernel_rfl) (fun _ _ _ h => h) (Or.inl ⟨by rfl, ?y135⟩) (by assumption) ?_
                case y135 => (intro w hSw; (try dsimp only at hSw); go_simp; first | done | with_reducible rfl)
                try simp only [Act.put, List.setIfInBounds_toArray, List.set_cons_zero, List.set_cons_succ]
                refine wpAnyH_take (i := 2) (oi := { dst := some 46, op := Go.Op.binOp Go.BinOp.eql 3 (Go.Operand.tmp 45) (Go.Operand.const (Go.Value.int Go.IntKind.i64 0)) 3, type := 4, pos := "l02_ledger.go:107", after := #[{ on := 1, ground := Go.Ground.data }], guard := none }) (v := ?v136) rfl (by kernel_rfl) (by kernel_rfl) (by kernel_rfl) (fun _ _ _ h => h) (Or.inl ⟨by rfl, ?y136⟩) (by assumption) ?_
                case y136 => (intro w hSw; (try dsimp only at hSw); go_simp; first | done | with_reducible rfl)
                try simp only [Act.put, List.setIfInBounds_toArray, List.set_cons_zero, List.set_cons_succ]
                refine wpAnyH_take (i := 3) (oi := { dst := some 47, op := Go.Op.move (Go.Operand.tmp 46), type := 4, pos := "l02_ledger.go:107", after := #[{ on := 2, ground := Go.Ground.data }], guard := none }) (v := ?v137) rfl (by kernel_rfl) (by kernel_rfl) (by kernel_rfl) (fun _ _ _ h => h) (Or.inl ⟨by rfl, ?y137⟩) (by assumption) ?_
                case y137 => (intro w hSw; (try dsimp only at hSw); go_simp; first | done | with_reducible rfl)
                try simp only [Act.put, List.setIfInBounds_toArray, List.set_cons_zero, List.set_cons_succ]
                refine wpAnyH_take (i := 4) (oi := { dst := some 48, op := Go.Op.move (Go.Operand.tmp 0), type := 25, pos := "l02_ledger.go:107", after := #[{ on := 3, ground := Go.Ground.guard }], guard := some (3, false) }) (v := ?v138) rfl (by kernel_rfl) (by kernel_rfl) (by kernel_rfl) (fun _ _ _ h => h) (Or.inl ⟨by rfl, ?y138⟩) (by assumption) ?_
                case y138 => (intro w hSw; (try dsimp only at hSw); go_simp; first | done | with_reducible rfl)
                try simp only [Act.put, List.setIfInBounds_toArray, List.set_cons_zero, List.set_cons_succ]
                refine wpAnyH_take (i := 5) (oi := { dst := some 49, op := Go.Op.call { callee := Go.Callee.builtin Go.Builtin.len, args := #[Go.Operand.tmp 48], argTypes := #[25] }, type := 3, pos := "l02_ledger.go:107", after := #[{ on := 4, ground := Go.Ground.data }, { on := 3, ground := Go.Ground.guard }], guard := some (3, false) }) (v := ?v139) rfl (by kernel_rfl) (by kernel_rfl) (by kernel_rfl) (fun _ _ _ h => h) (Or.inl ⟨by rfl, ?y139⟩) (by assumption) ?_
                case y139 => (intro w hSw; (try dsimp only at hSw); go_simp; first | done | with_reducible rfl)
                try simp only [Act.put, List.setIfInBounds_toArray, List.set_cons_zero, List.set_cons_succ]
                refine wpAnyH_take (i := 6) (oi := { dst := some 50, op := Go.Op.binOp Go.BinOp.gtr 3 (Go.Operand.tmp 49) (Go.Operand.const (Go.Value.int Go.IntKind.i64 0)) 3, type := 4, pos := "l02_ledger.go:107", after := #[{ on := 5, ground := Go.Ground.data }, { on := 3, ground := Go.Ground.guard }], guard := some (3, false) }) (v := ?v140) rfl (by kernel_rfl) (by kernel_rfl) (by kernel_rfl) (fun _ _ _ h => h) (Or.inl ⟨by rfl, ?y140⟩) (by assumption) ?_
                case y140 => (intro w hSw; (try dsimp only at hSw); go_simp; first | done | with_reducible rfl)
                try simp only [Act.put, List.setIfInBounds_toArray, List.set_cons_zero, List.set_cons_succ]
                refine wpAnyH_take (i := 7) (oi := { dst := some 51, op := Go.Op.move (Go.Operand.tmp 50), type := 4, pos := "l02_ledger.go:107", after := #[{ on := 6, ground := Go.Ground.data }, { on := 3, ground := Go.Ground.chain }, { on := 3, ground := Go.Ground.guard }], guard := some (3, false) }) (v := ?v141) rfl (by kernel_rfl) (by kernel_rfl) (by kernel_rfl) (fun _ _ _ h => h) (Or.inl ⟨by rfl, ?y141⟩) (by assumption) ?_
                case y141 => (intro w hSw; (try dsimp only at hSw); go_simp; first | done | with_reducible rfl)
                try simp only [Act.put, List.setIfInBounds_toArray, List.set_cons_zero, List.set_cons_succ]
                refine wpAnyH_take (i := 8) (oi := { dst := some 52, op := Go.Op.move (Go.Operand.tmp 0), type := 25, pos := "l02_ledger.go:107", after := #[{ on := 7, ground := Go.Ground.guard }], guard := some (7, true) }) (v := ?v142) rfl (by kernel_rfl) (by kernel_rfl) (by kernel_rfl) (fun _ _ _ h => h) (Or.inl ⟨by rfl, ?y142⟩) (by assumption) ?_
                case y142 => (intro w hSw; (try dsimp only at hSw); go_simp; first | done | with_reducible rfl)
                try simp only [Act.put, List.setIfInBounds_toArray, List.set_cons_zero, List.set_cons_succ]
                refine wpAnyH_take (i := 9) (oi := { dst := some 53, op := Go.Op.indexAddr 25 (Go.Operand.tmp 52) (Go.Operand.const (Go.Value.int Go.IntKind.i64 0)), type := 0, pos := "l02_ledger.go:107", after := #[{ on := 8, ground := Go.Ground.data }, { on := 7, ground := Go.Ground.guard }], guard := some (7, true) }) (v := ?v143) rfl (by kernel_rfl) (by kernel_rfl) (by kernel_rfl) (fun _ _ _ h => h) (Or.inl ⟨by rfl, ?y143⟩) (by assumption) ?_
                case y143 => (intro w hSw; (try dsimp only at hSw); go_simp; first | done | with_reducible rfl)
                try simp only [Act.put, List.setIfInBounds_toArray, List.set_cons_zero, List.set_cons_succ]
                refine wpAnyH_take (i := 10) (oi := { dst := some 54, op := Go.Op.fieldAddr 63 (Go.Operand.tmp 53) 0, type := 0, pos := "l02_ledger.go:107", after := #[{ on := 9, ground := Go.Ground.data }, { on := 7, ground := Go.Ground.guard }], guard := some (7, true) }) (v := ?v144) rfl (by kernel_rfl) (by kernel_rfl) (by kernel_rfl) (fun _ _ _ h => h) (Or.inl ⟨by rfl, ?y144⟩) (by assumption) ?_
                case y144 => (intro w hSw; (try dsimp only at hSw); go_simp; first | done | with_reducible rfl)
                try simp only [Act.put, List.setIfInBounds_toArray, List.set_cons_zero, List.set_cons_succ]
                refine wpAnyH_take (i := 11) (oi := { dst := some 55, op := Go.Op.load 50 (Go.Operand.tmp 54), type := 50, pos := "l02_ledger.go:107", after := #[{ on := 10, ground := Go.Ground.data }, { on := 7, ground := Go.Ground.guard }], guard := some (7, true) }) (v := ?v145) rfl (by kernel_rfl) (by kernel_rfl) (by kernel_rfl) (fun _ _ _ h => h) (Or.inl ⟨by rfl, ?y145⟩) (by assumption) ?_
                case y145 => (intro w hSw; (try dsimp only at hSw); go_simp; first | done | with_reducible rfl)
                try simp only [Act.put, List.setIfInBounds_toArray, List.set_cons_zero, List.set_cons_succ]
                refine wpAnyH_take (i := 12) (oi := { dst := some 56, op := Go.Op.move (Go.Operand.tmp 1), type := 25, pos := "l02_ledger.go:107", after := #[{ on := 7, ground := Go.Ground.guard }], guard := some (7, true) }) (v := ?v146) rfl (by kernel_rfl) (by kernel_rfl) (by kernel_rfl) (fun _ _ _ h => h) (Or.inl ⟨by rfl, ?y146⟩) (by assumption) ?_
                case y146 => (intro w hSw; (try dsimp only at hSw); go_simp; first | done | with_reducible rfl)
                try simp only [Act.put, List.setIfInBounds_toArray, List.set_cons_zero, List.set_cons_succ]
                refine wpAnyH_take (i := 13) (oi := { dst := some 57, op := Go.Op.indexAddr 25 (Go.Operand.tmp 56) (Go.Operand.const (Go.Value.int Go.IntKind.i64 0)), type := 0, pos := "l02_ledger.go:107", after := #[{ on := 12, ground := Go.Ground.data }, { on := 7, ground := Go.Ground.guard }], guard := some (7, true) }) (v := ?v147) rfl (by kernel_rfl) (by kernel_rfl) (by kernel_rfl) (fun _ _ _ h => h) (Or.inl ⟨by rfl, ?y147⟩) (by assumption) ?_
                case y147 => (intro w hSw; (try dsimp only at hSw); go_simp; first | done | with_reducible rfl)
                try simp only [Act.put, List.setIfInBounds_toArray, List.set_cons_zero, List.set_cons_succ]
                refine wpAnyH_take (i := 14) (oi := { dst := some 58, op := Go.Op.fieldAddr 63 (Go.Operand.tmp 57) 0, type := 0, pos := "l02_ledger.go:107", after := #[{ on := 13, ground := Go.Ground.data }, { on := 7, ground := Go.Ground.guard }], guard := some (7, true) }) (v := ?v148) rfl (by kernel_rfl) (by kernel_rfl) (by kernel_rfl) (fun _ _ _ h => h) (Or.inl ⟨by rfl, ?y148⟩) (by assumption) ?_
                case y148 => (intro w hSw; (try dsimp only at hSw); go_simp; first | done | with_reducible rfl)
                try simp only [Act.put, List.setIfInBounds_toArray, List.set_cons_zero, List.set_cons_succ]
                refine wpAnyH_take (i := 15) (oi := { dst := some 59, op := Go.Op.load 50 (Go.Operand.tmp 58), type := 50, pos := "l02_ledger.go:107", after := #[{ on := 14, ground := Go.Ground.data }, { on := 7, ground := Go.Ground.guard }], guard := some (7, true) }) (v := ?v149) rfl (by kernel_rfl) (by kernel_rfl) (by kernel_rfl) (fun _ _ _ h => h) (Or.inl ⟨by rfl, ?y149⟩) (by assumption) ?_
                case y149 => (intro w hSw; (try dsimp only at hSw); go_simp; first | done | with_reducible rfl)
                try simp only [Act.put, List.setIfInBounds_toArray, List.set_cons_zero, List.set_cons_succ]
                refine wpAnyH_ready (rs := [16]) (by kernel_rfl) (by simp) ?_
                refine AllReadyH.cons (o := { dst := some 60, op := Go.Op.call { callee := Go.Callee.value (Go.Operand.func 51), args := #[Go.Operand.tmp 55, Go.Operand.tmp 59], argTypes := #[50, 50] }, type := 4, pos := "l02_ledger.go:107", after := #[{ on := 11, ground := Go.Ground.data }, { on := 15, ground := Go.Ground.data }, { on := 7, ground := Go.Ground.chain }, { on := 7, ground := Go.Ground.guard }], guard := some (7, true) }) rfl (fun K hK => ?k150) AllReadyH.nil
                go_simp
                go_at_call 51
                refine (impl_lessAcc x0 x1 y0 y1 _).mono ?_
                rintro e w2 ⟨rfl, hb2⟩
                rw [hL2]
                refine hK.out _ _ ?s150 (fun hHeld => ?_)
                case s150 => ((try dsimp only); (go_split_ands; (repeat' apply And.intro) <;> (first | assumption | exact cell_kept (by assumption) (by assumption) (by first | omega | (simp; done) | (simp; omega)))))
                clear hK K
                try simp only [Act.put, List.setIfInBounds_toArray, List.set_cons_zero, List.set_cons_succ]
                refine wpAnyH_take (i := 17) (oi := { dst := some 61, op := Go.Op.pick (Go.Operand.tmp 51) (Go.Operand.tmp 60) (Go.Operand.const (Go.Value.bool false)), type := 4, pos := "l02_ledger.go:107", after := #[{ on := 7, ground := Go.Ground.data }, { on := 16, ground := Go.Ground.data }, { on := 3, ground := Go.Ground.guard }], guard := some (3, false) }) (v := ?v151) rfl (by kernel_rfl) (by kernel_rfl) (by kernel_rfl) (fun _ _ _ h => h) (Or.inl ⟨by rfl, ?y151⟩) (by assumption) ?_
                case y151 => (intro w hSw; (try dsimp only at hSw); go_simp; first | done | with_reducible rfl)
                try simp only [Act.put, List.setIfInBounds_toArray, List.set_cons_zero, List.set_cons_succ]
                refine wpAnyH_take (i := 18) (oi := { dst := some 62, op := Go.Op.pick (Go.Operand.tmp 47) (Go.Operand.const (Go.Value.bool true)) (Go.Operand.tmp 61), type := 4, pos := "l02_ledger.go:107", after := #[{ on := 3, ground := Go.Ground.data }, { on := 17, ground := Go.Ground.data }], guard := none }) (v := ?v152) rfl (by kernel_rfl) (by kernel_rfl) (by kernel_rfl) (fun _ _ _ h => h) (Or.inl ⟨by rfl, ?y152⟩) (by assumption) ?_
                case y152 => (intro w hSw; (try dsimp only at hSw); go_simp; first | done | with_reducible rfl)
                try simp only [Act.put, List.setIfInBounds_toArray, List.set_cons_zero, List.set_cons_succ]
                refine wpAnyH_take (i := 19) (oi := { dst := some 43, op := Go.Op.assign (Go.Operand.tmp 62), type := 4, pos := "l02_ledger.go:107", after := #[{ on := 18, ground := Go.Ground.data }, { on := 16, ground := Go.Ground.chain }], guard := none }) (v := ?v153) rfl (by kernel_rfl) (by kernel_rfl) (by kernel_rfl) (fun _ _ _ h => h) (Or.inl ⟨by rfl, ?y153⟩) (by assumption) ?_
                case y153 => (intro w hSw; (try dsimp only at hSw); go_simp; first | done | with_reducible rfl)
                try simp only [Act.put, List.setIfInBounds_toArray, List.set_cons_zero, List.set_cons_succ]
                refine wpAnyH_done (by kernel_rfl) ?_ _
                have hzW2 : wr.heap.size ≤ w2.heap.size := hb2.size
                go_wp2_with fail
                refine wp_region_held_drew (S := fun w' => w'.cell? ⟨ba, offa, none⟩ = some (.int .i64 x0) ∧ w'.cell? ⟨ba, offa + 1, none⟩ = some (.int .i64 x1) ∧ w'.cell? ⟨ba, offa + 2, none⟩ = some (.int .i64 x2) ∧ w'.cell? ⟨bb, offb, none⟩ = some (.int .i64 y0) ∧ w'.cell? ⟨bb, offb + 1, none⟩ = some (.int .i64 y1) ∧ w'.cell? ⟨bb, offb + 2, none⟩ = some (.int .i64 y2)) (by kernel_rfl) ?rg154 (fun hHeld => ?_)
                case rg154 => ((try dsimp only); (go_split_ands; (repeat' apply And.intro) <;> (first | assumption | exact cell_kept (by assumption) (by assumption) (by first | omega | (simp; done) | (simp; omega)))))
                refine wpAnyH_take (i := 0) (oi := { dst := some 72, op := Go.Op.move (Go.Operand.tmp 0), type := 25, pos := "l02_ledger.go:110", after := #[], guard := none }) (v := ?v155) rfl (by kernel_rfl) (by kernel_rfl) (by kernel_rfl) (fun _ _ _ h => h) (Or.inl ⟨by rfl, ?y155⟩) (by assumption) ?_
                case y155 => (intro w hSw; (try dsimp only at hSw); go_simp; first | done | with_reducible rfl)
                try simp only [Act.put, List.setIfInBounds_toArray, List.set_cons_zero, List.set_cons_succ]
                refine wpAnyH_take (i := 1) (oi := { dst := some 73, op := Go.Op.call { callee := Go.Callee.builtin Go.Builtin.len, args := #[Go.Operand.tmp 72], argTypes := #[25] }, type := 3, pos := "l02_ledger.go:110", after := #[{ on := 0, ground := Go.Ground.data }], guard := none }) (v := ?v156) rfl (by kernel_rfl) (by kernel_rfl) (by kernel_rfl) (fun _ _ _ h => h) (Or.inl ⟨by rfl, ?y156⟩) (by assumption) ?_
                case y156 => (intro w hSw; (try dsimp only at hSw); go_simp; first | done | with_reducible rfl)
                try simp only [Act.put, List.setIfInBounds_toArray, List.set_cons_zero, List.set_cons_succ]
                refine wpAnyH_take (i := 2) (oi := { dst := some 74, op := Go.Op.binOp Go.BinOp.eql 3 (Go.Operand.tmp 73) (Go.Operand.const (Go.Value.int Go.IntKind.i64 0)) 3, type := 4, pos := "l02_ledger.go:110", after := #[{ on := 1, ground := Go.Ground.data }], guard := none }) (v := ?v157) rfl (by kernel_rfl) (by kernel_rfl) (by kernel_rfl) (fun _ _ _ h => h) (Or.inl ⟨by rfl, ?y157⟩) (by assumption) ?_
                case y157 => (intro w hSw; (try dsimp only at hSw); go_simp; first | done | with_reducible rfl)
                try simp only [Act.put, List.setIfInBounds_toArray, List.set_cons_zero, List.set_cons_succ]
                refine wpAnyH_take (i := 3) (oi := { dst := some 75, op := Go.Op.move (Go.Operand.tmp 74), type := 4, pos := "l02_ledger.go:110", after := #[{ on := 2, ground := Go.Ground.data }], guard := none }) (v := ?v158) rfl (by kernel_rfl) (by kernel_rfl) (by kernel_rfl) (fun _ _ _ h => h) (Or.inl ⟨by rfl, ?y158⟩) (by assumption) ?_
                case y158 => (intro w hSw; (try dsimp only at hSw); go_simp; first | done | with_reducible rfl)
                try simp only [Act.put, List.setIfInBounds_toArray, List.set_cons_zero, List.set_cons_succ]
                refine wpAnyH_take (i := 4) (oi := { dst := some 76, op := Go.Op.move (Go.Operand.tmp 1), type := 25, pos := "l02_ledger.go:110", after := #[{ on := 3, ground := Go.Ground.guard }], guard := some (3, false) }) (v := ?v159) rfl (by kernel_rfl) (by kernel_rfl) (by kernel_rfl) (fun _ _ _ h => h) (Or.inl ⟨by rfl, ?y159⟩) (by assumption) ?_
                case y159 => (intro w hSw; (try dsimp only at hSw); go_simp; first | done | with_reducible rfl)
                try simp only [Act.put, List.setIfInBounds_toArray, List.set_cons_zero, List.set_cons_succ]
                refine wpAnyH_take (i := 5) (oi := { dst := some 77, op := Go.Op.indexAddr 25 (Go.Operand.tmp 76) (Go.Operand.const (Go.Value.int Go.IntKind.i64 0)), type := 0, pos := "l02_ledger.go:110", after := #[{ on := 4, ground := Go.Ground.data }, { on := 3, ground := Go.Ground.guard }], guard := some (3, false) }) (v := ?v160) rfl (by kernel_rfl) (by kernel_rfl) (by kernel_rfl) (fun _ _ _ h => h) (Or.inl ⟨by rfl, ?y160⟩) (by assumption) ?_
                case y160 => (intro w hSw; (try dsimp only at hSw); go_simp; first | done | with_reducible rfl)
                try simp only [Act.put, List.setIfInBounds_toArray, List.set_cons_zero, List.set_cons_succ]
                refine wpAnyH_take (i := 6) (oi := { dst := some 78, op := Go.Op.fieldAddr 63 (Go.Operand.tmp 77) 0, type := 0, pos := "l02_ledger.go:110", after := #[{ on := 5, ground := Go.Ground.data }, { on := 3, ground := Go.Ground.guard }], guard := some (3, false) }) (v := ?v161) rfl (by kernel_rfl) (by kernel_rfl) (by kernel_rfl) (fun _ _ _ h => h) (Or.inl ⟨by rfl, ?y161⟩) (by assumption) ?_
                case y161 => (intro w hSw; (try dsimp only at hSw); go_simp; first | done | with_reducible rfl)
                try simp only [Act.put, List.setIfInBounds_toArray, List.set_cons_zero, List.set_cons_succ]
                refine wpAnyH_take (i := 7) (oi := { dst := some 79, op := Go.Op.load 50 (Go.Operand.tmp 78), type := 50, pos := "l02_ledger.go:110", after := #[{ on := 6, ground := Go.Ground.data }, { on := 3, ground := Go.Ground.guard }], guard := some (3, false) }) (v := ?v162) rfl (by kernel_rfl) (by kernel_rfl) (by kernel_rfl) (fun _ _ _ h => h) (Or.inl ⟨by rfl, ?y162⟩) (by assumption) ?_
                case y162 => (intro w hSw; (try dsimp only at hSw); go_simp; first | done | with_reducible rfl)
                try simp only [Act.put, List.setIfInBounds_toArray, List.set_cons_zero, List.set_cons_succ]
                refine wpAnyH_take (i := 8) (oi := { dst := some 80, op := Go.Op.move (Go.Operand.tmp 0), type := 25, pos := "l02_ledger.go:110", after := #[{ on := 3, ground := Go.Ground.guard }], guard := some (3, false) }) (v := ?v163) rfl (by kernel_rfl) (by kernel_rfl) (by kernel_rfl) (fun _ _ _ h => h) (Or.inl ⟨by rfl, ?y163⟩) (by assumption) ?_
                case y163 => (intro w hSw; (try dsimp only at hSw); go_simp; first | done | with_reducible rfl)
                try simp only [Act.put, List.setIfInBounds_toArray, List.set_cons_zero, List.set_cons_succ]
                refine wpAnyH_take (i := 9) (oi := { dst := some 81, op := Go.Op.indexAddr 25 (Go.Operand.tmp 80) (Go.Operand.const (Go.Value.int Go.IntKind.i64 0)), type := 0, pos := "l02_ledger.go:110", after := #[{ on := 8, ground := Go.Ground.data }, { on := 3, ground := Go.Ground.guard }], guard := some (3, false) }) (v := ?v164) rfl (by kernel_rfl) (by kernel_rfl) (by kernel_rfl) (fun _ _ _ h => h) (Or.inl ⟨by rfl, ?y164⟩) (by assumption) ?_
                case y164 => (intro w hSw; (try dsimp only at hSw); go_simp; first | done | with_reducible rfl)
                try simp only [Act.put, List.setIfInBounds_toArray, List.set_cons_zero, List.set_cons_succ]
                refine wpAnyH_take (i := 10) (oi := { dst := some 82, op := Go.Op.fieldAddr 63 (Go.Operand.tmp 81) 0, type := 0, pos := "l02_ledger.go:110", after := #[{ on := 9, ground := Go.Ground.data }, { on := 3, ground := Go.Ground.guard }], guard := some (3, false) }) (v := ?v165) rfl (by kernel_rfl) (by kernel_rfl) (by kernel_rfl) (fun _ _ _ h => h) (Or.inl ⟨by rfl, ?y165⟩) (by assumption) ?_
                case y165 => (intro w hSw; (try dsimp only at hSw); go_simp; first | done | with_reducible rfl)
                try simp only [Act.put, List.setIfInBounds_toArray, List.set_cons_zero, List.set_cons_succ]
                refine wpAnyH_take (i := 11) (oi := { dst := some 83, op := Go.Op.load 50 (Go.Operand.tmp 82), type := 50, pos := "l02_ledger.go:110", after := #[{ on := 10, ground := Go.Ground.data }, { on := 3, ground := Go.Ground.guard }], guard := some (3, false) }) (v := ?v166) rfl (by kernel_rfl) (by kernel_rfl) (by kernel_rfl) (fun _ _ _ h => h) (Or.inl ⟨by rfl, ?y166⟩) (by assumption) ?_
                case y166 => (intro w hSw; (try dsimp only at hSw); go_simp; first | done | with_reducible rfl)
                try simp only [Act.put, List.setIfInBounds_toArray, List.set_cons_zero, List.set_cons_succ]
                refine wpAnyH_ready (rs := [12]) (by kernel_rfl) (by simp) ?_
                refine AllReadyH.cons (o := { dst := some 84, op := Go.Op.call { callee := Go.Callee.value (Go.Operand.func 51), args := #[Go.Operand.tmp 79, Go.Operand.tmp 83], argTypes := #[50, 50] }, type := 4, pos := "l02_ledger.go:110", after := #[{ on := 7, ground := Go.Ground.data }, { on := 11, ground := Go.Ground.data }, { on := 3, ground := Go.Ground.chain }, { on := 3, ground := Go.Ground.guard }], guard := some (3, false) }) rfl (fun K hK => ?k167) AllReadyH.nil
                go_simp
                go_at_call 51
                refine (impl_lessAcc y0 y1 x0 x1 _).mono ?_
                rintro e w3 ⟨rfl, hb3⟩
                rw [hL3]
                refine hK.out _ _ ?s167 (fun hHeld => ?_)
                case s167 => ((try dsimp only); (go_split_ands; (repeat' apply And.intro) <;> (first | assumption | exact cell_kept (by assumption) (by assumption) (by first | omega | (simp; done) | (simp; omega)))))
                clear hK K
                try simp only [Act.put, List.setIfInBounds_toArray, List.set_cons_zero, List.set_cons_succ]
                refine wpAnyH_take (i := 13) (oi := { dst := some 85, op := Go.Op.pick (Go.Operand.tmp 75) (Go.Operand.const (Go.Value.bool true)) (Go.Operand.tmp 84), type := 4, pos := "l02_ledger.go:110", after := #[{ on := 3, ground := Go.Ground.data }, { on := 12, ground := Go.Ground.data }], guard := none }) (v := ?v168) rfl (by kernel_rfl) (by kernel_rfl) (by kernel_rfl) (fun _ _ _ h => h) (Or.inl ⟨by rfl, ?y168⟩) (by assumption) ?_
                case y168 => (intro w hSw; (try dsimp only at hSw); go_simp; first | done | with_reducible rfl)
                try simp only [Act.put, List.setIfInBounds_toArray, List.set_cons_zero, List.set_cons_succ]
                refine wpAnyH_take (i := 14) (oi := { dst := some 71, op := Go.Op.assign (Go.Operand.tmp 85), type := 4, pos := "l02_ledger.go:110", after := #[{ on := 13, ground := Go.Ground.data }, { on := 12, ground := Go.Ground.chain }], guard := none }) (v := ?v169) rfl (by kernel_rfl) (by kernel_rfl) (by kernel_rfl) (fun _ _ _ h => h) (Or.inl ⟨by rfl, ?y169⟩) (by assumption) ?_
                case y169 => (intro w hSw; (try dsimp only at hSw); go_simp; first | done | with_reducible rfl)
                try simp only [Act.put, List.setIfInBounds_toArray, List.set_cons_zero, List.set_cons_succ]
                refine wpAnyH_done (by kernel_rfl) ?_ _
                have hbW : Below W.heap.size W w3 := (hb.drew.trans (hb2.mono hz)).drew.trans (hb3.mono (by show W.heap.size ≤ w2.heap.size; omega))
                have hOW : OwnL w3 W.heap.size wr.heap.size Ao no co os := Own.keep (Own.drew (Own.keep (Own.drew hO) (Eff.of hb2) (.inr (.inr (Nat.le_refl _))))) (Eff.of hb3) (.inr (.inr (Nat.le_refl _)))
                have hzW : wr.heap.size ≤ w3.heap.size := Nat.le_trans hzW2 hb3.size
                go_split_ands
                go_wp2_with fail
                refine wp_region_held_drew (S := fun w' => w'.cell? ⟨ba, offa, none⟩ = some (.int .i64 x0) ∧ w'.cell? ⟨ba, offa + 1, none⟩ = some (.int .i64 x1) ∧ w'.cell? ⟨ba, offa + 2, none⟩ = some (.int .i64 x2) ∧ w'.cell? ⟨bb, offb, none⟩ = some (.int .i64 y0) ∧ w'.cell? ⟨bb, offb + 1, none⟩ = some (.int .i64 y1) ∧ w'.cell? ⟨bb, offb + 2, none⟩ = some (.int .i64 y2)) (by kernel_rfl) ?rg170 (fun hHeld => ?_)
                case rg170 => ((try dsimp only); (go_split_ands; (repeat' apply And.intro) <;> (first | assumption | exact cell_kept (by assumption) (by assumption) (by first | omega | (simp; done) | (simp; omega)))))
                refine wpAnyH_take (i := 0) (oi := { dst := some 16, op := Go.Op.move (Go.Operand.tmp 0), type := 25, pos := "l02_ledger.go:114", after := #[], guard := none }) (v := ?v171) rfl (by kernel_rfl) (by kernel_rfl) (by kernel_rfl) (fun _ _ _ h => h) (Or.inl ⟨by rfl, ?y171⟩) (by assumption) ?_
                case y171 => (intro w hSw; (try dsimp only at hSw); go_simp; first | done | with_reducible rfl)
                try simp only [Act.put, List.setIfInBounds_toArray, List.set_cons_zero, List.set_cons_succ]
                refine wpAnyH_take (i := 1) (oi := { dst := some 17, op := Go.Op.indexAddr 25 (Go.Operand.tmp 16) (Go.Operand.const (Go.Value.int Go.IntKind.i64 0)), type := 0, pos := "l02_ledger.go:114", after := #[{ on := 0, ground := Go.Ground.data }], guard := none }) (v := ?v172) rfl (by kernel_rfl) (by kernel_rfl) (by kernel_rfl) (fun _ _ _ h => h) (Or.inl ⟨by rfl, ?y172⟩) (by assumption) ?_
                case y172 => (intro w hSw; (try dsimp only at hSw); go_simp; first | done | with_reducible rfl)
                try simp only [Act.put, List.setIfInBounds_toArray, List.set_cons_zero, List.set_cons_succ]
                refine wpAnyH_take (i := 2) (oi := { dst := some 18, op := Go.Op.fieldAddr 63 (Go.Operand.tmp 17) 1, type := 0, pos := "l02_ledger.go:114", after := #[{ on := 1, ground := Go.Ground.data }], guard := none }) (v := ?v173) rfl (by kernel_rfl) (by kernel_rfl) (by kernel_rfl) (fun _ _ _ h => h) (Or.inl ⟨by rfl, ?y173⟩) (by assumption) ?_
                case y173 => (intro w hSw; (try dsimp only at hSw); go_simp; first | done | with_reducible rfl)
                try simp only [Act.put, List.setIfInBounds_toArray, List.set_cons_zero, List.set_cons_succ]
                refine wpAnyH_take (i := 3) (oi := { dst := some 19, op := Go.Op.load 3 (Go.Operand.tmp 18), type := 3, pos := "l02_ledger.go:114", after := #[{ on := 2, ground := Go.Ground.data }], guard := none }) (v := ?v174) rfl (by kernel_rfl) (by kernel_rfl) (by kernel_rfl) (fun _ _ _ h => h) (Or.inl ⟨by rfl, ?y174⟩) (by assumption) ?_
                case y174 => (intro w hSw; (try dsimp only at hSw); go_simp; first | done | with_reducible rfl)
                try simp only [Act.put, List.setIfInBounds_toArray, List.set_cons_zero, List.set_cons_succ]
                refine wpAnyH_take (i := 4) (oi := { dst := some 20, op := Go.Op.move (Go.Operand.tmp 1), type := 25, pos := "l02_ledger.go:114", after := #[], guard := none }) (v := ?v175) rfl (by kernel_rfl) (by kernel_rfl) (by kernel_rfl) (fun _ _ _ h => h) (Or.inl ⟨by rfl, ?y175⟩) (by assumption) ?_
                case y175 => (intro w hSw; (try dsimp only at hSw); go_simp; first | done | with_reducible rfl)
                try simp only [Act.put, List.setIfInBounds_toArray, List.set_cons_zero, List.set_cons_succ]
                refine wpAnyH_take (i := 5) (oi := { dst := some 21, op := Go.Op.indexAddr 25 (Go.Operand.tmp 20) (Go.Operand.const (Go.Value.int Go.IntKind.i64 0)), type := 0, pos := "l02_ledger.go:114", after := #[{ on := 4, ground := Go.Ground.data }], guard := none }) (v := ?v176) rfl (by kernel_rfl) (by kernel_rfl) (by kernel_rfl) (fun _ _ _ h => h) (Or.inl ⟨by rfl, ?y176⟩) (by assumption) ?_
                case y176 => (intro w hSw; (try dsimp only at hSw); go_simp; first | done | with_reducible rfl)
                try simp only [Act.put, List.setIfInBounds_toArray, List.set_cons_zero, List.set_cons_succ]
                refine wpAnyH_take (i := 6) (oi := { dst := some 22, op := Go.Op.fieldAddr 63 (Go.Operand.tmp 21) 1, type := 0, pos := "l02_ledger.go:114", after := #[{ on := 5, ground := Go.Ground.data }], guard := none }) (v := ?v177) rfl (by kernel_rfl) (by kernel_rfl) (by kernel_rfl) (fun _ _ _ h => h) (Or.inl ⟨by rfl, ?y177⟩) (by assumption) ?_
                case y177 => (intro w hSw; (try dsimp only at hSw); go_simp; first | done | with_reducible rfl)
                try simp only [Act.put, List.setIfInBounds_toArray, List.set_cons_zero, List.set_cons_succ]
                refine wpAnyH_take (i := 7) (oi := { dst := some 23, op := Go.Op.load 3 (Go.Operand.tmp 22), type := 3, pos := "l02_ledger.go:114", after := #[{ on := 6, ground := Go.Ground.data }], guard := none }) (v := ?v178) rfl (by kernel_rfl) (by kernel_rfl) (by kernel_rfl) (fun _ _ _ h => h) (Or.inl ⟨by rfl, ?y178⟩) (by assumption) ?_
                case y178 => (intro w hSw; (try dsimp only at hSw); go_simp; first | done | with_reducible rfl)
                try simp only [Act.put, List.setIfInBounds_toArray, List.set_cons_zero, List.set_cons_succ]
                refine wpAnyH_take (i := 8) (oi := { dst := some 24, op := Go.Op.binOp Go.BinOp.add 3 (Go.Operand.tmp 19) (Go.Operand.tmp 23) 3, type := 3, pos := "l02_ledger.go:114", after := #[{ on := 3, ground := Go.Ground.data }, { on := 7, ground := Go.Ground.data }], guard := none }) (v := ?v179) rfl (by kernel_rfl) (by kernel_rfl) (by kernel_rfl) (fun _ _ _ h => h) (Or.inl ⟨by rfl, ?y179⟩) (by assumption) ?_
                case y179 => (intro w hSw; (try dsimp only at hSw); go_simp; first | done | with_reducible rfl)
                try simp only [Act.put, List.setIfInBounds_toArray, List.set_cons_zero, List.set_cons_succ]
                refine wpAnyH_take (i := 9) (oi := { dst := some 7, op := Go.Op.assign (Go.Operand.tmp 24), type := 3, pos := "l02_ledger.go:114", after := #[{ on := 8, ground := Go.Ground.data }, { on := 0, ground := Go.Ground.phase }, { on := 1, ground := Go.Ground.phase }, { on := 2, ground := Go.Ground.phase }, { on := 3, ground := Go.Ground.phase }, { on := 4, ground := Go.Ground.phase }, { on := 5, ground := Go.Ground.phase }, { on := 6, ground := Go.Ground.phase }, { on := 7, ground := Go.Ground.phase }, { on := 8, ground := Go.Ground.phase }], guard := none }) (v := ?v180) rfl (by kernel_rfl) (by kernel_rfl) (by kernel_rfl) (fun _ _ _ h => h) (Or.inl ⟨by rfl, ?y180⟩) (by assumption) ?_
                case y180 => (intro w hSw; (try dsimp only at hSw); go_simp; first | done | with_reducible rfl)
                try simp only [Act.put, List.setIfInBounds_toArray, List.set_cons_zero, List.set_cons_succ]
                refine wpAnyH_done (by kernel_rfl) ?_ _
                have hbW3 : Below W.heap.size W w3.drew := hbW.drew
                have hOW3 : OwnL w3.drew W.heap.size wr.heap.size Ao no co os := Own.drew hOW
                have hzW3 : wr.heap.size ≤ w3.drew.heap.size := hzW
                clear hbW hOW hzW
                have hbW := hbW3
                have hOW := hOW3
                have hzW := hzW3
                clear hbW3 hOW3 hzW3
                go_split_ands
                generalize w3.drew = wz at *
                go_wp2_with (first | (go_at_call 50; refine (in_any _ _ _ _).mono ?_; rintro e w9 ⟨rfl, rfl⟩; rw [show inB (x2 + y2) (-1125899906842624) 1125899906842624 = _ from hS]))
                have HC : ∀ p : Addr, p.block < W.heap.size → wz.cell? p = wr.cell? p := fun p hp => ((hbW).cell hp).trans (hb.cell hp).symm
                have HCH := Lib.hid HC
                clear HC
                go_wp2
                refine wp_region_held_drew (S := fun w' => True) (by kernel_rfl) ?rg181 (fun hHeld => ?_)
                case rg181 => ((try dsimp only); (try trivial))
                refine wpAnyH_take (i := 0) (oi := { dst := some 39, op := Go.Op.move (Go.Operand.tmp 0), type := 25, pos := "l02_ledger.go:121", after := #[], guard := none }) (v := ?v182) rfl (by kernel_rfl) (by kernel_rfl) (by kernel_rfl) (fun _ _ _ h => h) (Or.inl ⟨by rfl, ?y182⟩) (by assumption) ?_
                case y182 => (intro w hSw; (try dsimp only at hSw); go_simp; first | done | with_reducible rfl)
                try simp only [Act.put, List.setIfInBounds_toArray, List.set_cons_zero, List.set_cons_succ]
                refine wpAnyH_take (i := 1) (oi := { dst := some 40, op := Go.Op.slice 25 (Go.Operand.tmp 39) (some (Go.Operand.const (Go.Value.int Go.IntKind.i64 1))) none none, type := 25, pos := "l02_ledger.go:121", after := #[{ on := 0, ground := Go.Ground.data }], guard := none }) (v := ?v183) rfl (by kernel_rfl) (by kernel_rfl) (by kernel_rfl) (fun _ _ _ h => h) (Or.inl ⟨by rfl, ?y183⟩) (by assumption) ?_
                case y183 => (intro w hSw; (try dsimp only at hSw); go_simp; first | done | with_reducible rfl)
                try simp only [Act.put, List.setIfInBounds_toArray, List.set_cons_zero, List.set_cons_succ]
                refine wpAnyH_take (i := 2) (oi := { dst := some 41, op := Go.Op.move (Go.Operand.tmp 1), type := 25, pos := "l02_ledger.go:121", after := #[], guard := none }) (v := ?v184) rfl (by kernel_rfl) (by kernel_rfl) (by kernel_rfl) (fun _ _ _ h => h) (Or.inl ⟨by rfl, ?y184⟩) (by assumption) ?_
                case y184 => (intro w hSw; (try dsimp only at hSw); go_simp; first | done | with_reducible rfl)
                try simp only [Act.put, List.setIfInBounds_toArray, List.set_cons_zero, List.set_cons_succ]
                refine wpAnyH_take (i := 3) (oi := { dst := some 42, op := Go.Op.slice 25 (Go.Operand.tmp 41) (some (Go.Operand.const (Go.Value.int Go.IntKind.i64 1))) none none, type := 25, pos := "l02_ledger.go:121", after := #[{ on := 2, ground := Go.Ground.data }], guard := none }) (v := ?v185) rfl (by kernel_rfl) (by kernel_rfl) (by kernel_rfl) (fun _ _ _ h => h) (Or.inl ⟨by rfl, ?y185⟩) (by assumption) ?_
                case y185 => (intro w hSw; (try dsimp only at hSw); go_simp; first | done | with_reducible rfl)
                try simp only [Act.put, List.setIfInBounds_toArray, List.set_cons_zero, List.set_cons_succ]
                refine wpAnyH_take (i := 4) (oi := { dst := some 0, op := Go.Op.assign (Go.Operand.tmp 40), type := 25, pos := "l02_ledger.go:121", after := #[{ on := 1, ground := Go.Ground.data }, { on := 0, ground := Go.Ground.phase }, { on := 1, ground := Go.Ground.phase }, { on := 2, ground := Go.Ground.textOnly Go.Departure.lateStores }, { on := 3, ground := Go.Ground.textOnly Go.Departure.lateStoresUnsure }], guard := none }) (v := ?v186) rfl (by kernel_rfl) (by kernel_rfl) (by kernel_rfl) (fun _ _ _ h => h) (Or.inl ⟨by rfl, ?y186⟩) (by assumption) ?_
                case y186 => (intro w hSw; (try dsimp only at hSw); go_simp; first | done | with_reducible rfl)
                try simp only [Act.put, List.setIfInBounds_toArray, List.set_cons_zero]
                refine wpAnyH_take (i := 5) (oi := { dst := some 1, op := Go.Op.assign (Go.Operand.tmp 42), type := 25, pos := "l02_ledger.go:121", after := #[{ on := 3, ground := Go.Ground.data }, { on := 4, ground := Go.Ground.chain }, { on := 0, ground := Go.Ground.phase }, { on := 1, ground := Go.Ground.phase }, { on := 2, ground := Go.Ground.phase }, { on := 3, ground := Go.Ground.phase }, { on := 4, ground := Go.Ground.phase }], guard := none }) (v := ?v187) rfl (by kernel_rfl) (by kernel_rfl) (by kernel_rfl) (fun _ _ _ h => h) (Or.inl ⟨by rfl, ?y187⟩) (by assumption) ?_
                case y187 => (intro w hSw; (try dsimp only at hSw); go_simp; first | done | with_reducible rfl)
                try simp only [Act.put, List.setIfInBounds_toArray, List.set_cons_zero, List.set_cons_succ]
                refine wpAnyH_done (by kernel_rfl) ?_ _
                go_wp2
                go_roundw
                case rel => exact ⟨_, _, _, _, _, _, _, _, _, _, _, _, rfl, rfl, rfl, ⟨by omega, by unfold maxLen; omega⟩, ⟨by omega, by unfold maxLen; omega⟩, (Rd.keep (rd_tail hra (by omega)) HCH.out).drew, (Rd.keep (rd_tail hrb (by omega)) HCH.out).drew, Own.drew (Own.wide hOW (Nat.le_refl _) hzW (Nat.le_refl _)), Lib.hid (by rw [HM.out, mrg_zero HLT.out HGT.out HS0.out]), Lib.hid ⟨fun z hz => HR.out.1 z (List.mem_cons_of_mem _ hz), fun z hz => HR.out.2 z (List.mem_cons_of_mem _ hz)⟩, by omega, (hbW).drew⟩
                case measure => simp [lenS]; omega
              · skip
                have HS0 : Hid (x2 + y2 ≠ 0) := Lib.hid hS0
                have hs1 : (x2 + y2 != 0) = true := by simp; exact hS0
                clear hS0
                go_wp2_with fail
                refine wp_region_held_drew (S := fun w' => w'.cell? ⟨ba, offa, none⟩ = some (.int .i64 x0) ∧ w'.cell? ⟨ba, offa + 1, none⟩ = some (.int .i64 x1) ∧ w'.cell? ⟨ba, offa + 2, none⟩ = some (.int .i64 x2) ∧ w'.cell? ⟨bb, offb, none⟩ = some (.int .i64 y0) ∧ w'.cell? ⟨bb, offb + 1, none⟩ = some (.int .i64 y1) ∧ w'.cell? ⟨bb, offb + 2, none⟩ = some (.int .i64 y2)) (by kernel_rfl) ?rg188 (fun hHeld => ?_)
                case rg188 => ((try dsimp only); (go_split_ands; (repeat' apply And.intro) <;> (first | assumption | exact cell_kept (by assumption) (by assumption) (by first | omega | (simp; done) | (simp; omega)))))
                refine wpAnyH_take (i := 0) (oi := { dst := some 44, op := Go.Op.move (Go.Operand.tmp 1), type := 25, pos := "l02_ledger.go:107", after := #[], guard := none }) (v := ?v189) rfl (by kernel_rfl) (by kernel_rfl) (by kernel_rfl) (fun _ _ _ h => h) (Or.inl ⟨by rfl, ?y189⟩) (by assumption) ?_
                case y189 => (intro w hSw; (try dsimp only at hSw); go_simp; first | done | with_reducible rfl)
                try simp only [Act.put, List.setIfInBounds_toArray, List.set_cons_zero, List.set_cons_succ]
                refine wpAnyH_take (i := 1) (oi := { dst := some 45, op := Go.Op.call { callee := Go.Callee.builtin Go.Builtin.len, args := #[Go.Operand.tmp 44], argTypes := #[25] }, type := 3, pos := "l02_ledger.go:107", after := #[{ on := 0, ground := Go.Ground.data }], guard := none }) (v := ?v190) rfl (by kernel_rfl) (by kernel_rfl) (by kernel_rfl) (fun _ _ _ h => h) (Or.inl ⟨by rfl, ?y190⟩) (by assumption) ?_
                case y190 => (intro w hSw; (try dsimp only at hSw); go_simp; first | done | with_reducible rfl)
                try simp only [Act.put, List.setIfInBounds_toArray, List.set_cons_zero, List.set_cons_succ]
                refine wpAnyH_take (i := 2) (oi := { dst := some 46, op := Go.Op.binOp Go.BinOp.eql 3 (Go.Operand.tmp 45) (Go.Operand.const (Go.Value.int Go.IntKind.i64 0)) 3, type := 4, pos := "l02_ledger.go:107", after := #[{ on := 1, ground := Go.Ground.data }], guard := none }) (v := ?v191) rfl (by kernel_rfl) (by kernel_rfl) (by kernel_rfl) (fun _ _ _ h => h) (Or.inl ⟨by rfl, ?y191⟩) (by assumption) ?_
                case y191 => (intro w hSw; (try dsimp only at hSw); go_simp; first | done | with_reducible rfl)
                try simp only [Act.put, List.setIfInBounds_toArray, List.set_cons_zero, List.set_cons_succ]
                refine wpAnyH_take (i := 3) (oi := { dst := some 47, op := Go.Op.move (Go.Operand.tmp 46), type := 4, pos := "l02_ledger.go:107", after := #[{ on := 2, ground := Go.Ground.data }], guard := none }) (v := ?v192) rfl (by kernel_rfl) (by kernel_rfl) (by kernel_rfl) (fun _ _ _ h => h) (Or.inl ⟨by rfl, ?y192⟩) (by assumption) ?_
                case y192 => (intro w hSw; (try dsimp only at hSw); go_simp; first | done | with_reducible rfl)
                try simp only [Act.put, List.setIfInBounds_toArray, List.set_cons_zero, List.set_cons_succ]
                refine wpAnyH_take (i := 4) (oi := { dst := some 48, op := Go.Op.move (Go.Operand.tmp 0), type := 25, pos := "l02_ledger.go:107", after := #[{ on := 3, ground := Go.Ground.guard }], guard := some (3, false) }) (v := ?v193) rfl (by kernel_rfl) (by kernel_rfl) (by kernel_rfl) (fun _ _ _ h => h) (Or.inl ⟨by rfl, ?y193⟩) (by assumption) ?_
                case y193 => (intro w hSw; (try dsimp only at hSw); go_simp; first | done | with_reducible rfl)
                try simp only [Act.put, List.setIfInBounds_toArray, List.set_cons_zero, List.set_cons_succ]
                refine wpAnyH_take (i := 5) (oi := { dst := some 49, op := Go.Op.call { callee := Go.Callee.builtin Go.Builtin.len, args := #[Go.Operand.tmp 48], argTypes := #[25] }, type := 3, pos := "l02_ledger.go:107", after := #[{ on := 4, ground := Go.Ground.data }, { on := 3, ground := Go.Ground.guard }], guard := some (3, false) }) (v := ?v194) rfl (by kernel_rfl) (by kernel_rfl) (by kernel_rfl) (fun _ _ _ h => h) (Or.inl ⟨by rfl, ?y194⟩) (by assumption) ?_
                case y194 => (intro w hSw; (try dsimp only at hSw); go_simp; first | done | with_reducible rfl)
                try simp only [Act.put, List.setIfInBounds_toArray, List.set_cons_zero, List.set_cons_succ]
                refine wpAnyH_take (i := 6) (oi := { dst := some 50, op := Go.Op.binOp Go.BinOp.gtr 3 (Go.Operand.tmp 49) (Go.Operand.const (Go.Value.int Go.IntKind.i64 0)) 3, type := 4, pos := "l02_ledger.go:107", after := #[{ on := 5, ground := Go.Ground.data }, { on := 3, ground := Go.Ground.guard }], guard := some (3, false) }) (v := ?v195) rfl (by kernel_rfl) (by kernel_rfl) (by kernel_rfl) (fun _ _ _ h => h) (Or.inl ⟨by rfl, ?y195⟩) (by assumption) ?_
                case y195 => (intro w hSw; (try dsimp only at hSw); go_simp; first | done | with_reducible rfl)
                try simp only [Act.put, List.setIfInBounds_toArray, List.set_cons_zero, List.set_cons_succ]
                refine wpAnyH_take (i := 7) (oi := { dst := some 51, op := Go.Op.move (Go.Operand.tmp 50), type := 4, pos := "l02_ledger.go:107", after := #[{ on := 6, ground := Go.Ground.data }, { on := 3, ground := Go.Ground.chain }, { on := 3, ground := Go.Ground.guard }], guard := some (3, false) }) (v := ?v196) rfl (by kernel_rfl) (by kernel_rfl) (by kernel_rfl) (fun _ _ _ h => h) (Or.inl ⟨by rfl, ?y196⟩) (by assumption) ?_
                case y196 => (intro w hSw; (try dsimp only at hSw); go_simp; first | done | with_reducible rfl)
                try simp only [Act.put, List.setIfInBounds_toArray, List.set_cons_zero, List.set_cons_succ]
                refine wpAnyH_take (i := 8) (oi := { dst := some 52, op := Go.Op.move (Go.Operand.tmp 0), type := 25, pos := "l02_ledger.go:107", after := #[{ on := 7, ground := Go.Ground.guard }], guard := some (7, true) }) (v := ?v197) rfl (by kernel_rfl) (by kernel_rfl) (by kernel_rfl) (fun _ _ _ h => h) (Or.inl ⟨by rfl, ?y197⟩) (by assumption) ?_
                case y197 => (intro w hSw; (try dsimp only at hSw); go_simp; first | done | with_reducible rfl)
                try simp only [Act.put, List.setIfInBounds_toArray, List.set_cons_zero, List.set_cons_succ]
                refine wpAnyH_take (i := 9) (oi := { dst := some 53, op := Go.Op.indexAddr 25 (Go.Operand.tmp 52) (Go.Operand.const (Go.Value.int Go.IntKind.i64 0)), type := 0, pos := "l02_ledger.go:107", after := #[{ on := 8, ground := Go.Ground.data }, { on := 7, ground := Go.Ground.guard }], guard := some (7, true) }) (v := ?v198) rfl (by kernel_rfl) (by kernel_rfl) (by kernel_rfl) (fun _ _ _ h => h) (Or.inl ⟨by rfl, ?y198⟩) (by assumption) ?_
                case y198 => (intro w hSw; (try dsimp only at hSw); go_simp; first | done | with_reducible rfl)
                try simp only [Act.put, List.setIfInBounds_toArray, List.set_cons_zero, List.set_cons_succ]
                refine wpAnyH_take (i := 10) (oi := { dst := some 54, op := Go.Op.fieldAddr 63 (Go.Operand.tmp 53) 0, type := 0, pos := "l02_ledger.go:107", after := #[{ on := 9, ground := Go.Ground.data }, { on := 7, ground := Go.Ground.guard }], guard := some (7, true) }) (v := ?v199) rfl (by kernel_rfl) (by kernel_rfl) (by kernel_rfl) (fun _ _ _ h => h) (Or.inl ⟨by rfl, ?y199⟩) (by assumption) ?_
                case y199 => (intro w hSw; (try dsimp only at hSw); go_simp; first | done | with_reducible rfl)
                try simp only [Act.put, List.setIfInBounds_toArray, List.set_cons_zero, List.set_cons_succ]
                refine wpAnyH_take (i := 11) (oi := { dst := some 55, op := Go.Op.load 50 (Go.Operand.tmp 54), type := 50, pos := "l02_ledger.go:107", after := #[{ on := 10, ground := Go.Ground.data }, { on := 7, ground := Go.Ground.guard }], guard := some (7, true) }) (v := ?v200) rfl (by kernel_rfl) (by kernel_rfl) (by kernel_rfl) (fun _ _ _ h => h) (Or.inl ⟨by rfl, ?y200⟩) (by assumption) ?_
                case y200 => (intro w hSw; (try dsimp only at hSw); go_simp; first | done | with_reducible rfl)
                try simp only [Act.put, List.setIfInBounds_toArray, List.set_cons_zero, List.set_cons_succ]
                refine wpAnyH_take (i := 12) (oi := { dst := some 56, op := Go.Op.move (Go.Operand.tmp 1), type := 25, pos := "l02_ledger.go:107", after := #[{ on := 7, ground := Go.Ground.guard }], guard := some (7, true) }) (v := ?v201) rfl (by kernel_rfl) (by kernel_rfl) (by kernel_rfl) (fun _ _ _ h => h) (Or.inl ⟨by rfl, ?y201⟩) (by assumption) ?_
                case y201 => (intro w hSw; (try dsimp only at hSw); go_simp; first | done | with_reducible rfl)
                try simp only [Act.put, List.setIfInBounds_toArray, List.set_cons_zero, List.set_cons_succ]
                refine wpAnyH_take (i := 13) (oi := { dst := some 57, op := Go.Op.indexAddr 25 (Go.Operand.tmp 56) (Go.Operand.const (Go.Value.int Go.IntKind.i64 0)), type := 0, pos := "l02_ledger.go:107", after := #[{ on := 12, ground := Go.Ground.data }, { on := 7, ground := Go.Ground.guard }], guard := some (7, true) }) (v := ?v202) rfl (by kernel_rfl) (by kernel_rfl) (by kernel_rfl) (fun _ _ _ h => h) (Or.inl ⟨by rfl, ?y202⟩) (by assumption) ?_
                case y202 => (intro w hSw; (try dsimp only at hSw); go_simp; first | done | with_reducible rfl)
                try simp only [Act.put, List.setIfInBounds_toArray, List.set_cons_zero, List.set_cons_succ]
                refine wpAnyH_take (i := 14) (oi := { dst := some 58, op := Go.Op.fieldAddr 63 (Go.Operand.tmp 57) 0, type := 0, pos := "l02_ledger.go:107", after := #[{ on := 13, ground := Go.Ground.data }, { on := 7, ground := Go.Ground.guard }], guard := some (7, true) }) (v := ?v203) rfl (by kernel_rfl) (by kernel_rfl) (by kernel_rfl) (fun _ _ _ h => h) (Or.inl ⟨by rfl, ?y203⟩) (by assumption) ?_
                case y203 => (intro w hSw; (try dsimp only at hSw); go_simp; first | done | with_reducible rfl)
                try simp only [Act.put, List.setIfInBounds_toArray, List.set_cons_zero, List.set_cons_succ]
                refine wpAnyH_take (i := 15) (oi := { dst := some 59, op := Go.Op.load 50 (Go.Operand.tmp 58), type := 50, pos := "l02_ledger.go:107", after := #[{ on := 14, ground := Go.Ground.data }, { on := 7, ground := Go.Ground.guard }], guard := some (7, true) }) (v := ?v204) rfl (by kernel_rfl) (by kernel_rfl) (by kernel_rfl) (fun _ _ _ h => h) (Or.inl ⟨by rfl, ?y204⟩) (by assumption) ?_
                case y204 => (intro w hSw; (try dsimp only at hSw); go_simp; first | done | with_reducible rfl)
                try simp only [Act.put, List.setIfInBounds_toArray, List.set_cons_zero, List.set_cons_succ]
                refine wpAnyH_ready (rs := [16]) (by kernel_rfl) (by simp) ?_
                refine AllReadyH.cons (o := { dst := some 60, op := Go.Op.call { callee := Go.Callee.value (Go.Operand.func 51), args := #[Go.Operand.tmp 55, Go.Operand.tmp 59], argTypes := #[50, 50] }, type := 4, pos := "l02_ledger.go:107", after := #[{ on := 11, ground := Go.Ground.data }, { on := 15, ground := Go.Ground.data }, { on := 7, ground := Go.Ground.chain }, { on := 7, ground := Go.Ground.guard }], guard := some (7, true) }) rfl (fun K hK => ?k205) AllReadyH.nil
                go_simp
                go_at_call 51
                refine (impl_lessAcc x0 x1 y0 y1 _).mono ?_
                rintro e w2 ⟨rfl, hb2⟩
                rw [hL2]
                refine hK.out _ _ ?s205 (fun hHeld => ?_)
                case s205 => ((try dsimp only); (go_split_ands; (repeat' apply And.intro) <;> (first | assumption | exact cell_kept (by assumption) (by assumption) (by first | omega | (simp; done) | (simp; omega)))))
                clear hK K
                try simp only [Act.put, List.setIfInBounds_toArray, List.set_cons_zero, List.set_cons_succ]
                refine wpAnyH_take (i := 17) (oi := { dst := some 61, op := Go.Op.pick (Go.Operand.tmp 51) (Go.Operand.tmp 60) (Go.Operand.const (Go.Value.bool false)), type := 4, pos := "l02_ledger.go:107", after := #[{ on := 7, ground := Go.Ground.data }, { on := 16, ground := Go.Ground.data }, { on := 3, ground := Go.Ground.guard }], guard := some (3, false) }) (v := ?v206) rfl (by kernel_rfl) (by kernel_rfl) (by kernel_rfl) (fun _ _ _ h => h) (Or.inl ⟨by rfl, ?y206⟩) (by assumption) ?_
                case y206 => (intro w hSw; (try dsimp only at hSw); go_simp; first | done | with_reducible rfl)
                try simp only [Act.put, List.setIfInBounds_toArray, List.set_cons_zero, List.set_cons_succ]
                refine wpAnyH_take (i := 18) (oi := { dst := some 62, op := Go.Op.pick (Go.Operand.tmp 47) (Go.Operand.const (Go.Value.bool true)) (Go.Operand.tmp 61), type := 4, pos := "l02_ledger.go:107", after := #[{ on := 3, ground := Go.Ground.data }, { on := 17, ground := Go.Ground.data }], guard := none }) (v := ?v207) rfl (by kernel_rfl) (by kernel_rfl) (by kernel_rfl) (fun _ _ _ h => h) (Or.inl ⟨by rfl, ?y207⟩) (by assumption) ?_
                case y207 => (intro w hSw; (try dsimp only at hSw); go_simp; first | done | with_reducible rfl)
                try simp only [Act.put, List.setIfInBounds_toArray, List.set_cons_zero, List.set_cons_succ]
                refine wpAnyH_take (i := 19) (oi := { dst := some 43, op := Go.Op.assign (Go.Operand.tmp 62), type := 4, pos := "l02_ledger.go:107", after := #[{ on := 18, ground := Go.Ground.data }, { on := 16, ground := Go.Ground.chain }], guard := none }) (v := ?v208) rfl (by kernel_rfl) (by kernel_rfl) (by kernel_rfl) (fun _ _ _ h => h) (Or.inl ⟨by rfl, ?y208⟩) (by assumption) ?_
                case y208 => (intro w hSw; (try dsimp only at hSw); go_simp; first | done | with_reducible rfl)
                try simp only [Act.put, List.setIfInBounds_toArray, List.set_cons_zero, List.set_cons_succ]
                refine wpAnyH_done (by kernel_rfl) ?_ _
                have hzW2 : wr.heap.size ≤ w2.heap.size := hb2.size
                go_wp2_with fail
                refine wp_region_held_drew (S := fun w' => w'.cell? ⟨ba, offa, none⟩ = some (.int .i64 x0) ∧ w'.cell? ⟨ba, offa + 1, none⟩ = some (.int .i64 x1) ∧ w'.cell? ⟨ba, offa + 2, none⟩ = some (.int .i64 x2) ∧ w'.cell? ⟨bb, offb, none⟩ = some (.int .i64 y0) ∧ w'.cell? ⟨bb, offb + 1, none⟩ = some (.int .i64 y1) ∧ w'.cell? ⟨bb, offb + 2, none⟩ = some (.int .i64 y2)) (by kernel_rfl) ?rg209 (fun hHeld => ?_)
                case rg209 => ((try dsimp only); (go_split_ands; (repeat' apply And.intro) <;> (first | assumption | exact cell_kept (by assumption) (by assumption) (by first | omega | (simp; done) | (simp; omega)))))
                refine wpAnyH_take (i := 0) (oi := { dst := some 72, op := Go.Op.move (Go.Operand.tmp 0), type := 25, pos := "l02_ledger.go:110", after := #[], guard := none }) (v := ?v210) rfl (by kernel_rfl) (by kernel_rfl) (by kernel_rfl) (fun _ _ _ h => h) (Or.inl ⟨by rfl, ?y210⟩) (by assumption) ?_
                case y210 => (intro w hSw; (try dsimp only at hSw); go_simp; first | done | with_reducible rfl)
                try simp only [Act.put, List.setIfInBounds_toArray, List.set_cons_zero, List.set_cons_succ]
                refine wpAnyH_take (i := 1) (oi := { dst := some 73, op := Go.Op.call { callee := Go.Callee.builtin Go.Builtin.len, args := #[Go.Operand.tmp 72], argTypes := #[25] }, type := 3, pos := "l02_ledger.go:110", after := #[{ on := 0, ground := Go.Ground.data }], guard := none }) (v := ?v211) rfl (by kernel_rfl) (by kernel_rfl) (by kernel_rfl) (fun _ _ _ h => h) (Or.inl ⟨by rfl, ?y211⟩) (by assumption) ?_
                case y211 => (intro w hSw; (try dsimp only at hSw); go_simp; first | done | with_reducible rfl)
                try simp only [Act.put, List.setIfInBounds_toArray, List.set_cons_zero, List.set_cons_succ]
                refine wpAnyH_take (i := 2) (oi := { dst := some 74, op := Go.Op.binOp Go.BinOp.eql 3 (Go.Operand.tmp 73) (Go.Operand.const (Go.Value.int Go.IntKind.i64 0)) 3, type := 4, pos := "l02_ledger.go:110", after := #[{ on := 1, ground := Go.Ground.data }], guard := none }) (v := ?v212) rfl (by kernel_rfl) (by kernel_rfl) (by kernel_rfl) (fun _ _ _ h => h) (Or.inl ⟨by rfl, ?y212⟩) (by assumption) ?_
                case y212 => (intro w hSw; (try dsimp only at hSw); go_simp; first | done | with_reducible rfl)
                try simp only [Act.put, List.setIfInBounds_toArray, List.set_cons_zero, List.set_cons_succ]
                refine wpAnyH_take (i := 3) (oi := { dst := some 75, op := Go.Op.move (Go.Operand.tmp 74), type := 4, pos := "l02_ledger.go:110", after := #[{ on := 2, ground := Go.Ground.data }], guard := none }) (v := ?v213) rfl (by kernel_rfl) (by kernel_rfl) (by kernel_rfl) (fun _ _ _ h => h) (Or.inl ⟨by rfl, ?y213⟩) (by assumption) ?_
                case y213 => (intro w hSw; (try dsimp only at hSw); go_simp; first | done | with_reducible rfl)
                try simp only [Act.put, List.setIfInBounds_toArray, List.set_cons_zero, List.set_cons_succ]
                refine wpAnyH_take (i := 4) (oi := { dst := some 76, op := Go.Op.move (Go.Operand.tmp 1), type := 25, pos := "l02_ledger.go:110", after := #[{ on := 3, ground := Go.Ground.guard }], guard := some (3, false) }) (v := ?v214) rfl (by kernel_rfl) (by kernel_rfl) (by kernel_rfl) (fun _ _ _ h => h) (Or.inl ⟨by rfl, ?y214⟩) (by assumption) ?_
                case y214 => (intro w hSw; (try dsimp only at hSw); go_simp; first | done | with_reducible rfl)
                try simp only [Act.put, List.setIfInBounds_toArray, List.set_cons_zero, List.set_cons_succ]
                refine wpAnyH_take (i := 5) (oi := { dst := some 77, op := Go.Op.indexAddr 25 (Go.Operand.tmp 76) (Go.Operand.const (Go.Value.int Go.IntKind.i64 0)), type := 0, pos := "l02_ledger.go:110", after := #[{ on := 4, ground := Go.Ground.data }, { on := 3, ground := Go.Ground.guard }], guard := some (3, false) }) (v := ?v215) rfl (by kernel_rfl) (by kernel_rfl) (by kernel_rfl) (fun _ _ _ h => h) (Or.inl ⟨by rfl, ?y215⟩) (by assumption) ?_
                case y215 => (intro w hSw; (try dsimp only at hSw); go_simp; first | done | with_reducible rfl)
                try simp only [Act.put, List.setIfInBounds_toArray, List.set_cons_zero, List.set_cons_succ]
                refine wpAnyH_take (i := 6) (oi := { dst := some 78, op := Go.Op.fieldAddr 63 (Go.Operand.tmp 77) 0, type := 0, pos := "l02_ledger.go:110", after := #[{ on := 5, ground := Go.Ground.data }, { on := 3, ground := Go.Ground.guard }], guard := some (3, false) }) (v := ?v216) rfl (by kernel_rfl) (by kernel_rfl) (by kernel_rfl) (fun _ _ _ h => h) (Or.inl ⟨by rfl, ?y216⟩) (by assumption) ?_
                case y216 => (intro w hSw; (try dsimp only at hSw); go_simp; first | done | with_reducible rfl)
                try simp only [Act.put, List.setIfInBounds_toArray, List.set_cons_zero, List.set_cons_succ]
                refine wpAnyH_take (i := 7) (oi := { dst := some 79, op := Go.Op.load 50 (Go.Operand.tmp 78), type := 50, pos := "l02_ledger.go:110", after := #[{ on := 6, ground := Go.Ground.data }, { on := 3, ground := Go.Ground.guard }], guard := some (3, false) }) (v := ?v217) rfl (by kernel_rfl) (by kernel_rfl) (by kernel_rfl) (fun _ _ _ h => h) (Or.inl ⟨by rfl, ?y217⟩) (by assumption) ?_
                case y217 => (intro w hSw; (try dsimp only at hSw); go_simp; first | done | with_reducible rfl)
                try simp only [Act.put, List.setIfInBounds_toArray, List.set_cons_zero, List.set_cons_succ]
                refine wpAnyH_take (i := 8) (oi := { dst := some 80, op := Go.Op.move (Go.Operand.tmp 0), type := 25, pos := "l02_ledger.go:110", after := #[{ on := 3, ground := Go.Ground.guard }], guard := some (3, false) }) (v := ?v218) rfl (by kernel_rfl) (by kernel_rfl) (by kernel_rfl) (fun _ _ _ h => h) (Or.inl ⟨by rfl, ?y218⟩) (by assumption) ?_
                case y218 => (intro w hSw; (try dsimp only at hSw); go_simp; first | done | with_reducible rfl)
                try simp only [Act.put, List.setIfInBounds_toArray, List.set_cons_zero, List.set_cons_succ]
                refine wpAnyH_take (i := 9) (oi := { dst := some 81, op := Go.Op.indexAddr 25 (Go.Operand.tmp 80) (Go.Operand.const (Go.Value.int Go.IntKind.i64 0)), type := 0, pos := "l02_ledger.go:110", after := #[{ on := 8, ground := Go.Ground.data }, { on := 3, ground := Go.Ground.guard }], guard := some (3, false) }) (v := ?v219) rfl (by kernel_rfl) (by kernel_rfl) (by kernel_rfl) (fun _ _ _ h => h) (Or.inl ⟨by rfl, ?y219⟩) (by assumption) ?_
                case y219 => (intro w hSw; (try dsimp only at hSw); go_simp; first | done | with_reducible rfl)
                try simp only [Act.put, List.setIfInBounds_toArray, List.set_cons_zero, List.set_cons_succ]
                refine wpAnyH_take (i := 10) (oi := { dst := some 82, op := Go.Op.fieldAddr 63 (Go.Operand.tmp 81) 0, type := 0, pos := "l02_ledger.go:110", after := #[{ on := 9, ground := Go.Ground.data }, { on := 3, ground := Go.Ground.guard }], guard := some (3, false) }) (v := ?v220) rfl (by kernel_rfl) (by kernel_rfl) (by kernel_rfl) (fun _ _ _ h => h) (Or.inl ⟨by rfl, ?y220⟩) (by assumption) ?_
                case y220 => (intro w hSw; (try dsimp only at hSw); go_simp; first | done | with_reducible rfl)
                try simp only [Act.put, List.setIfInBounds_toArray, List.set_cons_zero, List.set_cons_succ]
                refine wpAnyH_take (i := 11) (oi := { dst := some 83, op := Go.Op.load 50 (Go.Operand.tmp 82), type := 50, pos := "l02_ledger.go:110", after := #[{ on := 10, ground := Go.Ground.data }, { on := 3, ground := Go.Ground.guard }], guard := some (3, false) }) (v := ?v221) rfl (by kernel_rfl) (by kernel_rfl) (by kernel_rfl) (fun _ _ _ h => h) (Or.inl ⟨by rfl, ?y221⟩) (by assumption) ?_
                case y221 => (intro w hSw; (try dsimp only at hSw); go_simp; first | done | with_reducible rfl)
                try simp only [Act.put, List.setIfInBounds_toArray, List.set_cons_zero, List.set_cons_succ]
                refine wpAnyH_ready (rs := [12]) (by kernel_rfl) (by simp) ?_
                refine AllReadyH.cons (o := { dst := some 84, op := Go.Op.call { callee := Go.Callee.value (Go.Operand.func 51), args := #[Go.Operand.tmp 79, Go.Operand.tmp 83], argTypes := #[50, 50] }, type := 4, pos := "l02_ledger.go:110", after := #[{ on := 7, ground := Go.Ground.data }, { on := 11, ground := Go.Ground.data }, { on := 3, ground := Go.Ground.chain }, { on := 3, ground := Go.Ground.guard }], guard := some (3, false) }) rfl (fun K hK => ?k222) AllReadyH.nil
                go_simp
                go_at_call 51
                refine (impl_lessAcc y0 y1 x0 x1 _).mono ?_
                rintro e w3 ⟨rfl, hb3⟩
                rw [hL3]
                refine hK.out _ _ ?s222 (fun hHeld => ?_)
                case s222 => ((try dsimp only); (go_split_ands; (repeat' apply And.intro) <;> (first | assumption | exact cell_kept (by assumption) (by assumption) (by first | omega | (simp; done) | (simp; omega)))))
                clear hK K
                try simp only [Act.put, List.setIfInBounds_toArray, List.set_cons_zero, List.set_cons_succ]
                refine wpAnyH_take (i := 13) (oi := { dst := some 85, op := Go.Op.pick (Go.Operand.tmp 75) (Go.Operand.const (Go.Value.bool true)) (Go.Operand.tmp 84), type := 4, pos := "l02_ledger.go:110", after := #[{ on := 3, ground := Go.Ground.data }, { on := 12, ground := Go.Ground.data }], guard := none }) (v := ?v223) rfl (by kernel_rfl) (by kernel_rfl) (by kernel_rfl) (fun _ _ _ h => h) (Or.inl ⟨by rfl, ?y223⟩) (by assumption) ?_
                case y223 => (intro w hSw; (try dsimp only at hSw); go_simp; first | done | with_reducible rfl)
                try simp only [Act.put, List.setIfInBounds_toArray, List.set_cons_zero, List.set_cons_succ]
                refine wpAnyH_take (i := 14) (oi := { dst := some 71, op := Go.Op.assign (Go.Operand.tmp 85), type := 4, pos := "l02_ledger.go:110", after := #[{ on := 13, ground := Go.Ground.data }, { on := 12, ground := Go.Ground.chain }], guard := none }) (v := ?v224) rfl (by kernel_rfl) (by kernel_rfl) (by kernel_rfl) (fun _ _ _ h => h) (Or.inl ⟨by rfl, ?y224⟩) (by assumption) ?_
                case y224 => (intro w hSw; (try dsimp only at hSw); go_simp; first | done | with_reducible rfl)
                try simp only [Act.put, List.setIfInBounds_toArray, List.set_cons_zero, List.set_cons_succ]
                refine wpAnyH_done (by kernel_rfl) ?_ _
                have hbW : Below W.heap.size W w3 := (hb.drew.trans (hb2.mono hz)).drew.trans (hb3.mono (by show W.heap.size ≤ w2.heap.size; omega))
                have hOW : OwnL w3 W.heap.size wr.heap.size Ao no co os := Own.keep (Own.drew (Own.keep (Own.drew hO) (Eff.of hb2) (.inr (.inr (Nat.le_refl _))))) (Eff.of hb3) (.inr (.inr (Nat.le_refl _)))
                have hzW : wr.heap.size ≤ w3.heap.size := Nat.le_trans hzW2 hb3.size
                go_split_ands
                go_wp2_with fail
                refine wp_region_held_drew (S := fun w' => w'.cell? ⟨ba, offa, none⟩ = some (.int .i64 x0) ∧ w'.cell? ⟨ba, offa + 1, none⟩ = some (.int .i64 x1) ∧ w'.cell? ⟨ba, offa + 2, none⟩ = some (.int .i64 x2) ∧ w'.cell? ⟨bb, offb, none⟩ = some (.int .i64 y0) ∧ w'.cell? ⟨bb, offb + 1, none⟩ = some (.int .i64 y1) ∧ w'.cell? ⟨bb, offb + 2, none⟩ = some (.int .i64 y2)) (by kernel_rfl) ?rg225 (fun hHeld => ?_)
                case rg225 => ((try dsimp only); (go_split_ands; (repeat' apply And.intro) <;> (first | assumption | exact cell_kept (by assumption) (by assumption) (by first | omega | (simp; done) | (simp; omega)))))
                refine wpAnyH_take (i := 0) (oi := { dst := some 16, op := Go.Op.move (Go.Operand.tmp 0), type := 25, pos := "l02_ledger.go:114", after := #[], guard := none }) (v := ?v226) rfl (by kernel_rfl) (by kernel_rfl) (by kernel_rfl) (fun _ _ _ h => h) (Or.inl ⟨by rfl, ?y226⟩) (by assumption) ?_
                case y226 => (intro w hSw; (try dsimp only at hSw); go_simp; first | done | with_reducible rfl)
                try simp only [Act.put, List.setIfInBounds_toArray, List.set_cons_zero, List.set_cons_succ]
                refine wpAnyH_take (i := 1) (oi := { dst := some 17, op := Go.Op.indexAddr 25 (Go.Operand.tmp 16) (Go.Operand.const (Go.Value.int Go.IntKind.i64 0)), type := 0, pos := "l02_ledger.go:114", after := #[{ on := 0, ground := Go.Ground.data }], guard := none }) (v := ?v227) rfl (by kernel_rfl) (by kernel_rfl) (by kernel_rfl) (fun _ _ _ h => h) (Or.inl ⟨by rfl, ?y227⟩) (by assumption) ?_
                case y227 => (intro w hSw; (try dsimp only at hSw); go_simp; first | done | with_reducible rfl)
                try simp only [Act.put, List.setIfInBounds_toArray, List.set_cons_zero, List.set_cons_succ]
                refine wpAnyH_take (i := 2) (oi := { dst := some 18, op := Go.Op.fieldAddr 63 (Go.Operand.tmp 17) 1, type := 0, pos := "l02_ledger.go:114", after := #[{ on := 1, ground := Go.Ground.data }], guard := none }) (v := ?v228) rfl (by kernel_rfl) (by kernel_rfl) (by kernel_rfl) (fun _ _ _ h => h) (Or.inl ⟨by rfl, ?y228⟩) (by assumption) ?_
                case y228 => (intro w hSw; (try dsimp only at hSw); go_simp; first | done | with_reducible rfl)
                try simp only [Act.put, List.setIfInBounds_toArray, List.set_cons_zero, List.set_cons_succ]
                refine wpAnyH_take (i := 3) (oi := { dst := some 19, op := Go.Op.load 3 (Go.Operand.tmp 18), type := 3, pos := "l02_ledger.go:114", after := #[{ on := 2, ground := Go.Ground.data }], guard := none }) (v := ?v229) rfl (by kernel_rfl) (by kernel_rfl) (by kernel_rfl) (fun _ _ _ h => h) (Or.inl ⟨by rfl, ?y229⟩) (by assumption) ?_
                case y229 => (intro w hSw; (try dsimp only at hSw); go_simp; first | done | with_reducible rfl)
                try simp only [Act.put, List.setIfInBounds_toArray, List.set_cons_zero, List.set_cons_succ]
                refine wpAnyH_take (i := 4) (oi := { dst := some 20, op := Go.Op.move (Go.Operand.tmp 1), type := 25, pos := "l02_ledger.go:114", after := #[], guard := none }) (v := ?v230) rfl (by kernel_rfl) (by kernel_rfl) (by kernel_rfl) (fun _ _ _ h => h) (Or.inl ⟨by rfl, ?y230⟩) (by assumption) ?_
                case y230 => (intro w hSw; (try dsimp only at hSw); go_simp; first | done | with_reducible rfl)
                try simp only [Act.put, List.setIfInBounds_toArray, List.set_cons_zero, List.set_cons_succ]
                refine wpAnyH_take (i := 5) (oi := { dst := some 21, op := Go.Op.indexAddr 25 (Go.Operand.tmp 20) (Go.Operand.const (Go.Value.int Go.IntKind.i64 0)), type := 0, pos := "l02_ledger.go:114", after := #[{ on := 4, ground := Go.Ground.data }], guard := none }) (v := ?v231) rfl (by kernel_rfl) (by kernel_rfl) (by kernel_rfl) (fun _ _ _ h => h) (Or.inl ⟨by rfl, ?y231⟩) (by assumption) ?_
                case y231 => (intro w hSw; (try dsimp only at hSw); go_simp; first | done | with_reducible rfl)
                try simp only [Act.put, List.setIfInBounds_toArray, List.set_cons_zero, List.set_cons_succ]
                refine wpAnyH_take (i := 6) (oi := { dst := some 22, op := Go.Op.fieldAddr 63 (Go.Operand.tmp 21) 1, type := 0, pos := "l02_ledger.go:114", after := #[{ on := 5, ground := Go.Ground.data }], guard := none }) (v := ?v232) rfl (by kernel_rfl) (by kernel_rfl) (by kernel_rfl) (fun _ _ _ h => h) (Or.inl ⟨by rfl, ?y232⟩) (by assumption) ?_
                case y232 => (intro w hSw; (try dsimp only at hSw); go_simp; first | done | with_reducible rfl)
                try simp only [Act.put, List.setIfInBounds_toArray, List.set_cons_zero, List.set_cons_succ]
                refine wpAnyH_take (i := 7) (oi := { dst := some 23, op := Go.Op.load 3 (Go.Operand.tmp 22), type := 3, pos := "l02_ledger.go:114", after := #[{ on := 6, ground := Go.Ground.data }], guard := none }) (v := ?v233) rfl (by kernel_rfl) (by kernel_rfl) (by kernel_rfl) (fun _ _ _ h => h) (Or.inl ⟨by rfl, ?y233⟩) (by assumption) ?_
                case y233 => (intro w hSw; (try dsimp only at hSw); go_simp; first | done | with_reducible rfl)
                try simp only [Act.put, List.setIfInBounds_toArray, List.set_cons_zero, List.set_cons_succ]
                refine wpAnyH_take (i := 8) (oi := { dst := some 24, op := Go.Op.binOp Go.BinOp.add 3 (Go.Operand.tmp 19) (Go.Operand.tmp 23) 3, type := 3, pos := "l02_ledger.go:114", after := #[{ on := 3, ground := Go.Ground.data }, { on := 7, ground := Go.Ground.data }], guard := none }) (v := ?v234) rfl (by kernel_rfl) (by kernel_rfl) (by kernel_rfl) (fun _ _ _ h => h) (Or.inl ⟨by rfl, ?y234⟩) (by assumption) ?_
                case y234 => (intro w hSw; (try dsimp only at hSw); go_simp; first | done | with_reducible rfl)
                try simp only [Act.put, List.setIfInBounds_toArray, List.set_cons_zero, List.set_cons_succ]
                refine wpAnyH_take (i := 9) (oi := { dst := some 7, op := Go.Op.assign (Go.Operand.tmp 24), type := 3, pos := "l02_ledger.go:114", after := #[{ on := 8, ground := Go.Ground.data }, { on := 0, ground := Go.Ground.phase }, { on := 1, ground := Go.Ground.phase }, { on := 2, ground := Go.Ground.phase }, { on := 3, ground := Go.Ground.phase }, { on := 4, ground := Go.Ground.phase }, { on := 5, ground := Go.Ground.phase }, { on := 6, ground := Go.Ground.phase }, { on := 7, ground := Go.Ground.phase }, { on := 8, ground := Go.Ground.phase }], guard := none }) (v := ?v235) rfl (by kernel_rfl) (by kernel_rfl) (by kernel_rfl) (fun _ _ _ h => h) (Or.inl ⟨by rfl, ?y235⟩) (by assumption) ?_
                case y235 => (intro w hSw; (try dsimp only at hSw); go_simp; first | done | with_reducible rfl)
                try simp only [Act.put, List.setIfInBounds_toArray, List.set_cons_zero, List.set_cons_succ]
                refine wpAnyH_done (by kernel_rfl) ?_ _
                have hbW3 : Below W.heap.size W w3.drew := hbW.drew
                have hOW3 : OwnL w3.drew W.heap.size wr.heap.size Ao no co os := Own.drew hOW
                have hzW3 : wr.heap.size ≤ w3.drew.heap.size := hzW
                clear hbW hOW hzW
                have hbW := hbW3
                have hOW := hOW3
                have hzW := hzW3
                clear hbW3 hOW3 hzW3
                go_split_ands
                generalize w3.drew = wz at *
                go_wp2_with (first | (go_at_call 50; refine (in_any _ _ _ _).mono ?_; rintro e w9 ⟨rfl, rfl⟩; rw [show inB (x2 + y2) (-1125899906842624) 1125899906842624 = _ from hS]) | (at_builtin; refine wpList_app _ rfl _ _ 25 rfl 63 i0 (.agg #[.int .i64 0, .int .i64 0, .int .i64 0]) 3 24 Try.underlying25 hi0 hj0 hj1 hj2 rfl (by omega) rfl (Own.alloc hOW _) 1 rfl (rd_new3 _ (.int .i64 x0) (.int .i64 x1) (.int .i64 (x2 + y2)) 63) (one3 _ _ _) (by unfold maxLen; omega) (by omega) (by first | (simp; done) | (simp; omega)) ?_; intro A2 c2 w8 hO2 hE2 _))
                have hb8 : Below W.heap.size W w8 := (hbW.alloc (by omega) _).trans (hE2.below (by first | (simp; done) | (simp; omega)) (.inl (Nat.le_refl _)))
                have HC : ∀ p : Addr, p.block < W.heap.size → w8.cell? p = wr.cell? p := fun p hp => (hb8.cell hp).trans (hb.cell hp).symm
                have HO : OwnL w8 W.heap.size w8.heap.size A2 (no + 1) c2 _ := lnCells_snoc os (x0) (x1) (x2 + y2) ▸ hO2
                clear hO2
                have HCH := Lib.hid HC
                clear HC
                go_wp2
                refine wp_region_held_drew (S := fun w' => True) (by kernel_rfl) ?rg236 (fun hHeld => ?_)
                case rg236 => ((try dsimp only); (try trivial))
                refine wpAnyH_take (i := 0) (oi := { dst := some 39, op := Go.Op.move (Go.Operand.tmp 0), type := 25, pos := "l02_ledger.go:121", after := #[], guard := none }) (v := ?v237) rfl (by kernel_rfl) (by kernel_rfl) (by kernel_rfl) (fun _ _ _ h => h) (Or.inl ⟨by rfl, ?y237⟩) (by assumption) ?_
                case y237 => (intro w hSw; (try dsimp only at hSw); go_simp; first | done | with_reducible rfl)
                try simp only [Act.put, List.setIfInBounds_toArray, List.set_cons_zero, List.set_cons_succ]
                refine wpAnyH_take (i := 1) (oi := { dst := some 40, op := Go.Op.slice 25 (Go.Operand.tmp 39) (some (Go.Operand.const (Go.Value.int Go.IntKind.i64 1))) none none, type := 25, pos := "l02_ledger.go:121", after := #[{ on := 0, ground := Go.Ground.data }], guard := none }) (v := ?v238) rfl (by kernel_rfl) (by kernel_rfl) (by kernel_rfl) (fun _ _ _ h => h) (Or.inl ⟨by rfl, ?y238⟩) (by assumption) ?_
                case y238 => (intro w hSw; (try dsimp only at hSw); go_simp; first | done | with_reducible rfl)
                try simp only [Act.put, List.setIfInBounds_toArray, List.set_cons_zero, List.set_cons_succ]
                refine wpAnyH_take (i := 2) (oi := { dst := some 41, op := Go.Op.move (Go.Operand.tmp 1), type := 25, pos := "l02_ledger.go:121", after := #[], guard := none }) (v := ?v239) rfl (by kernel_rfl) (by kernel_rfl) (by kernel_rfl) (fun _ _ _ h => h) (Or.inl ⟨by rfl, ?y239⟩) (by assumption) ?_
                case y239 => (intro w hSw; (try dsimp only at hSw); go_simp; first | done | with_reducible rfl)
                try simp only [Act.put, List.setIfInBounds_toArray, List.set_cons_zero, List.set_cons_succ]
                refine wpAnyH_take (i := 3) (oi := { dst := some 42, op := Go.Op.slice 25 (Go.Operand.tmp 41) (some (Go.Operand.const (Go.Value.int Go.IntKind.i64 1))) none none, type := 25, pos := "l02_ledger.go:121", after := #[{ on := 2, ground := Go.Ground.data }], guard := none }) (v := ?v240) rfl (by kernel_rfl) (by kernel_rfl) (by kernel_rfl) (fun _ _ _ h => h) (Or.inl ⟨by rfl, ?y240⟩) (by assumption) ?_
                case y240 => (intro w hSw; (try dsimp only at hSw); go_simp; first | done | with_reducible rfl)
                try simp only [Act.put, List.setIfInBounds_toArray, List.set_cons_zero, List.set_cons_succ]
                refine wpAnyH_take (i := 4) (oi := { dst := some 0, op := Go.Op.assign (Go.Operand.tmp 40), type := 25, pos := "l02_ledger.go:121", after := #[{ on := 1, ground := Go.Ground.data }, { on := 0, ground := Go.Ground.phase }, { on := 1, ground := Go.Ground.phase }, { on := 2, ground := Go.Ground.textOnly Go.Departure.lateStores }, { on := 3, ground := Go.Ground.textOnly Go.Departure.lateStoresUnsure }], guard := none }) (v := ?v241) rfl (by kernel_rfl) (by kernel_rfl) (by kernel_rfl) (fun _ _ _ h => h) (Or.inl ⟨by rfl, ?y241⟩) (by assumption) ?_
                case y241 => (intro w hSw; (try dsimp only at hSw); go_simp; first | done | with_reducible rfl)
                try simp only [Act.put, List.setIfInBounds_toArray, List.set_cons_zero]
                refine wpAnyH_take (i := 5) (oi := { dst := some 1, op := Go.Op.assign (Go.Operand.tmp 42), type := 25, pos := "l02_ledger.go:121", after := #[{ on := 3, ground := Go.Ground.data }, { on := 4, ground := Go.Ground.chain }, { on := 0, ground := Go.Ground.phase }, { on := 1, ground := Go.Ground.phase }, { on := 2, ground := Go.Ground.phase }, { on := 3, ground := Go.Ground.phase }, { on := 4, ground := Go.Ground.phase }], guard := none }) (v := ?v242) rfl (by kernel_rfl) (by kernel_rfl) (by kernel_rfl) (fun _ _ _ h => h) (Or.inl ⟨by rfl, ?y242⟩) (by assumption) ?_
                case y242 => (intro w hSw; (try dsimp only at hSw); go_simp; first | done | with_reducible rfl)
                try simp only [Act.put, List.setIfInBounds_toArray, List.set_cons_zero, List.set_cons_succ]
                refine wpAnyH_done (by kernel_rfl) ?_ _
                go_wp2
                go_roundw
                case rel => exact ⟨_, _, _, _, _, _, _, _, _, _, _, _, rfl, rfl, rfl, ⟨by omega, by unfold maxLen; omega⟩, ⟨by omega, by unfold maxLen; omega⟩, (Rd.keep (rd_tail hra (by omega)) HCH.out).drew, (Rd.keep (rd_tail hrb (by omega)) HCH.out).drew, Own.drew (HO), Lib.hid (by rw [HM.out, mrg_sum HLT.out HGT.out HSR.out HS0.out]; exact map_app), Lib.hid ⟨fun z hz => HR.out.1 z (List.mem_cons_of_mem _ hz), fun z hz => HR.out.2 z (List.mem_cons_of_mem _ hz)⟩, by omega, (hb8).drew⟩
                case measure => simp [lenS]; omega
          · skip
            have HGT : Hid (ltA ⟨y0, y1, y2⟩ ⟨x0, x1, x2⟩ = true) := Lib.hid hL3
            go_wp2_with fail
            refine wp_region_held_drew (S := fun w' => w'.cell? ⟨ba, offa, none⟩ = some (.int .i64 x0) ∧ w'.cell? ⟨ba, offa + 1, none⟩ = some (.int .i64 x1) ∧ w'.cell? ⟨ba, offa + 2, none⟩ = some (.int .i64 x2) ∧ w'.cell? ⟨bb, offb, none⟩ = some (.int .i64 y0) ∧ w'.cell? ⟨bb, offb + 1, none⟩ = some (.int .i64 y1) ∧ w'.cell? ⟨bb, offb + 2, none⟩ = some (.int .i64 y2)) (by kernel_rfl) ?rg48 (fun hHeld => ?_)
            case rg48 => ((try dsimp only); (go_split_ands; (repeat' apply And.intro) <;> (first | assumption | exact cell_kept (by assumption) (by assumption) (by first | omega | (simp; done) | (simp; omega)))))
            refine wpAnyH_take (i := 0) (oi := { dst := some 44, op := Go.Op.move (Go.Operand.tmp 1), type := 25, pos := "l02_ledger.go:107", after := #[], guard := none }) (v := ?v49) rfl (by kernel_rfl) (by kernel_rfl) (by kernel_rfl) (fun _ _ _ h => h) (Or.inl ⟨by rfl, ?y49⟩) (by assumption) ?_
            case y49 => (intro w hSw; (try dsimp only at hSw); go_simp; first | done | with_reducible rfl)
            try simp only [Act.put, List.setIfInBounds_toArray, List.set_cons_zero, List.set_cons_succ]
            refine wpAnyH_take (i := 1) (oi := { dst := some 45, op := Go.Op.call { callee := Go.Callee.builtin Go.Builtin.len, args := #[Go.Operand.tmp 44], argTypes := #[25] }, type := 3, pos := "l02_ledger.go:107", after := #[{ on := 0, ground := Go.Ground.data }], guard := none }) (v := ?v50) rfl (by kernel_rfl) (by kernel_rfl) (by kernel_rfl) (fun _ _ _ h => h) (Or.inl ⟨by rfl, ?y50⟩) (by assumption) ?_
            case y50 => (intro w hSw; (try dsimp only at hSw); go_simp; first | done | with_reducible rfl)
            try simp only [Act.put, List.setIfInBounds_toArray, List.set_cons_zero, List.set_cons_succ]
            refine wpAnyH_take (i := 2) (oi := { dst := some 46, op := Go.Op.binOp Go.BinOp.eql 3 (Go.Operand.tmp 45) (Go.Operand.const (Go.Value.int Go.IntKind.i64 0)) 3, type := 4, pos := "l02_ledger.go:107", after := #[{ on := 1, ground := Go.Ground.data }], guard := none }) (v := ?v51) rfl (by kernel_rfl) (by kernel_rfl) (by kernel_rfl) (fun _ _ _ h => h) (Or.inl ⟨by rfl, ?y51⟩) (by assumption) ?_
            case y51 => (intro w hSw; (try dsimp only at hSw); go_simp; first | done | with_reducible rfl)
            try simp only [Act.put, List.setIfInBounds_toArray, List.set_cons_zero, List.set_cons_succ]
            refine wpAnyH_take (i := 3) (oi := { dst := some 47, op := Go.Op.move (Go.Operand.tmp 46), type := 4, pos := "l02_ledger.go:107", after := #[{ on := 2, ground := Go.Ground.data }], guard := none }) (v := ?v52) rfl (by kernel_rfl) (by kernel_rfl) (by kernel_rfl) (fun _ _ _ h => h) (Or.inl ⟨by rfl, ?y52⟩) (by assumption) ?_
            case y52 => (intro w hSw; (try dsimp only at hSw); go_simp; first | done | with_reducible rfl)
            try simp only [Act.put, List.setIfInBounds_toArray, List.set_cons_zero, List.set_cons_succ]
            refine wpAnyH_take (i := 4) (oi := { dst := some 48, op := Go.Op.move (Go.Operand.tmp 0), type := 25, pos := "l02_ledger.go:107", after := #[{ on := 3, ground := Go.Ground.guard }], guard := some (3, false) }) (v := ?v53) rfl (by kernel_rfl) (by kernel_rfl) (by kernel_rfl) (fun _ _ _ h => h) (Or.inl ⟨by rfl, ?y53⟩) (by assumption) ?_
            case y53 => (intro w hSw; (try dsimp only at hSw); go_simp; first | done | with_reducible rfl)
            try simp only [Act.put, List.setIfInBounds_toArray, List.set_cons_zero, List.set_cons_succ]
            refine wpAnyH_take (i := 5) (oi := { dst := some 49, op := Go.Op.call { callee := Go.Callee.builtin Go.Builtin.len, args := #[Go.Operand.tmp 48], argTypes := #[25] }, type := 3, pos := "l02_ledger.go:107", after := #[{ on := 4, ground := Go.Ground.data }, { on := 3, ground := Go.Ground.guard }], guard := some (3, false) }) (v := ?v54) rfl (by kernel_rfl) (by kernel_rfl) (by kernel_rfl) (fun _ _ _ h => h) (Or.inl ⟨by rfl, ?y54⟩) (by assumption) ?_
            case y54 => (intro w hSw; (try dsimp only at hSw); go_simp; first | done | with_reducible rfl)
            try simp only [Act.put, List.setIfInBounds_toArray, List.set_cons_zero, List.set_cons_succ]
            refine wpAnyH_take (i := 6) (oi := { dst := some 50, op := Go.Op.binOp Go.BinOp.gtr 3 (Go.Operand.tmp 49) (Go.Operand.const (Go.Value.int Go.IntKind.i64 0)) 3, type := 4, pos := "l02_ledger.go:107", after := #[{ on := 5, ground := Go.Ground.data }, { on := 3, ground := Go.Ground.guard }], guard := some (3, false) }) (v := ?v55) rfl (by kernel_rfl) (by kernel_rfl) (by kernel_rfl) (fun _ _ _ h => h) (Or.inl ⟨by rfl, ?y55⟩) (by assumption) ?_
            case y55 => (intro w hSw; (try dsimp only at hSw); go_simp; first | done | with_reducible rfl)
            try simp only [Act.put, List.setIfInBounds_toArray, List.set_cons_zero, List.set_cons_succ]
            refine wpAnyH_take (i := 7) (oi := { dst := some 51, op := Go.Op.move (Go.Operand.tmp 50), type := 4, pos := "l02_ledger.go:107", after := #[{ on := 6, ground := Go.Ground.data }, { on := 3, ground := Go.Ground.chain }, { on := 3, ground := Go.Ground.guard }], guard := some (3, false) }) (v := ?v56) rfl (by kernel_rfl) (by kernel_rfl) (by kernel_rfl) (fun _ _ _ h => h) (Or.inl ⟨by rfl, ?y56⟩) (by assumption) ?_
            case y56 => (intro w hSw; (try dsimp only at hSw); go_simp; first | done | with_reducible rfl)
            try simp only [Act.put, List.setIfInBounds_toArray, List.set_cons_zero, List.set_cons_succ]
            refine wpAnyH_take (i := 8) (oi := { dst := some 52, op := Go.Op.move (Go.Operand.tmp 0), type := 25, pos := "l02_ledger.go:107", after := #[{ on := 7, ground := Go.Ground.guard }], guard := some (7, true) }) (v := ?v57) rfl (by kernel_rfl) (by kernel_rfl) (by kernel_rfl) (fun _ _ _ h => h) (Or.inl ⟨by rfl, ?y57⟩) (by assumption) ?_
            case y57 => (intro w hSw; (try dsimp only at hSw); go_simp; first | done | with_reducible rfl)
            try simp only [Act.put, List.setIfInBounds_toArray, List.set_cons_zero, List.set_cons_succ]
            refine wpAnyH_take (i := 9) (oi := { dst := some 53, op := Go.Op.indexAddr 25 (Go.Operand.tmp 52) (Go.Operand.const (Go.Value.int Go.IntKind.i64 0)), type := 0, pos := "l02_ledger.go:107", after := #[{ on := 8, ground := Go.Ground.data }, { on := 7, ground := Go.Ground.guard }], guard := some (7, true) }) (v := ?v58) rfl (by kernel_rfl) (by kernel_rfl) (by kernel_rfl) (fun _ _ _ h => h) (Or.inl ⟨by rfl, ?y58⟩) (by assumption) ?_
            case y58 => (intro w hSw; (try dsimp only at hSw); go_simp; first | done | with_reducible rfl)
            try simp only [Act.put, List.setIfInBounds_toArray, List.set_cons_zero, List.set_cons_succ]
            refine wpAnyH_take (i := 10) (oi := { dst := some 54, op := Go.Op.fieldAddr 63 (Go.Operand.tmp 53) 0, type := 0, pos := "l02_ledger.go:107", after := #[{ on := 9, ground := Go.Ground.data }, { on := 7, ground := Go.Ground.guard }], guard := some (7, true) }) (v := ?v59) rfl (by kernel_rfl) (by kernel_rfl) (by kernel_rfl) (fun _ _ _ h => h) (Or.inl ⟨by rfl, ?y59⟩) (by assumption) ?_
            case y59 => (intro w hSw; (try dsimp only at hSw); go_simp; first | done | with_reducible rfl)
            try simp only [Act.put, List.setIfInBounds_toArray, List.set_cons_zero, List.set_cons_succ]
            refine wpAnyH_take (i := 11) (oi := { dst := some 55, op := Go.Op.load 50 (Go.Operand.tmp 54), type := 50, pos := "l02_ledger.go:107", after := #[{ on := 10, ground := Go.Ground.data }, { on := 7, ground := Go.Ground.guard }], guard := some (7, true) }) (v := ?v60) rfl (by kernel_rfl) (by kernel_rfl) (by kernel_rfl) (fun _ _ _ h => h) (Or.inl ⟨by rfl, ?y60⟩) (by assumption) ?_
            case y60 => (intro w hSw; (try dsimp only at hSw); go_simp; first | done | with_reducible rfl)
            try simp only [Act.put, List.setIfInBounds_toArray, List.set_cons_zero, List.set_cons_succ]
            refine wpAnyH_take (i := 12) (oi := { dst := some 56, op := Go.Op.move (Go.Operand.tmp 1), type := 25, pos := "l02_ledger.go:107", after := #[{ on := 7, ground := Go.Ground.guard }], guard := some (7, true) }) (v := ?v61) rfl (by kernel_rfl) (by kernel_rfl) (by kernel_rfl) (fun _ _ _ h => h) (Or.inl ⟨by rfl, ?y61⟩) (by assumption) ?_
            case y61 => (intro w hSw; (try dsimp only at hSw); go_simp; first | done | with_reducible rfl)
            try simp only [Act.put, List.setIfInBounds_toArray, List.set_cons_zero, List.set_cons_succ]
            refine wpAnyH_take (i := 13) (oi := { dst := some 57, op := Go.Op.indexAddr 25 (Go.Operand.tmp 56) (Go.Operand.const (Go.Value.int Go.IntKind.i64 0)), type := 0, pos := "l02_ledger.go:107", after := #[{ on := 12, ground := Go.Ground.data }, { on := 7, ground := Go.Ground.guard }], guard := some (7, true) }) (v := ?v62) rfl (by kernel_rfl) (by kernel_rfl) (by kernel_rfl) (fun _ _ _ h => h) (Or.inl ⟨by rfl, ?y62⟩) (by assumption) ?_
            case y62 => (intro w hSw; (try dsimp only at hSw); go_simp; first | done | with_reducible rfl)
            try simp only [Act.put, List.setIfInBounds_toArray, List.set_cons_zero, List.set_cons_succ]
            refine wpAnyH_take (i := 14) (oi := { dst := some 58, op := Go.Op.fieldAddr 63 (Go.Operand.tmp 57) 0, type := 0, pos := "l02_ledger.go:107", after := #[{ on := 13, ground := Go.Ground.data }, { on := 7, ground := Go.Ground.guard }], guard := some (7, true) }) (v := ?v63) rfl (by kernel_rfl) (by kernel_rfl) (by kernel_rfl) (fun _ _ _ h => h) (Or.inl ⟨by rfl, ?y63⟩) (by assumption) ?_
            case y63 => (intro w hSw; (try dsimp only at hSw); go_simp; first | done | with_reducible rfl)
            try simp only [Act.put, List.setIfInBounds_toArray, List.set_cons_zero, List.set_cons_succ]
            refine wpAnyH_take (i := 15) (oi := { dst := some 59, op := Go.Op.load 50 (Go.Operand.tmp 58), type := 50, pos := "l02_ledger.go:107", after := #[{ on := 14, ground := Go.Ground.data }, { on := 7, ground := Go.Ground.guard }], guard := some (7, true) }) (v := ?v64) rfl (by kernel_rfl) (by kernel_rfl) (by kernel_rfl) (fun _ _ _ h => h) (Or.inl ⟨by rfl, ?y64⟩) (by assumption) ?_
            case y64 => (intro w hSw; (try dsimp only at hSw); go_simp; first | done | with_reducible rfl)
            try simp only [Act.put, List.setIfInBounds_toArray, List.set_cons_zero, List.set_cons_succ]
            refine wpAnyH_ready (rs := [16]) (by kernel_rfl) (by simp) ?_
            refine AllReadyH.cons (o := { dst := some 60, op := Go.Op.call { callee := Go.Callee.value (Go.Operand.func 51), args := #[Go.Operand.tmp 55, Go.Operand.tmp 59], argTypes := #[50, 50] }, type := 4, pos := "l02_ledger.go:107", after := #[{ on := 11, ground := Go.Ground.data }, { on := 15, ground := Go.Ground.data }, { on := 7, ground := Go.Ground.chain }, { on := 7, ground := Go.Ground.guard }], guard := some (7, true) }) rfl (fun K hK => ?k65) AllReadyH.nil
            go_simp
            go_at_call 51
            refine (impl_lessAcc x0 x1 y0 y1 _).mono ?_
            rintro e w2 ⟨rfl, hb2⟩
            rw [hL2]
            refine hK.out _ _ ?s65 (fun hHeld => ?_)
            case s65 => ((try dsimp only); (go_split_ands; (repeat' apply And.intro) <;> (first | assumption | exact cell_kept (by assumption) (by assumption) (by first | omega | (simp; done) | (simp; omega)))))
            clear hK K
            try simp only [Act.put, List.setIfInBounds_toArray, List.set_cons_zero, List.set_cons_succ]
            refine wpAnyH_take (i := 17) (oi := { dst := some 61, op := Go.Op.pick (Go.Operand.tmp 51) (Go.Operand.tmp 60) (Go.Operand.const (Go.Value.bool false)), type := 4, pos := "l02_ledger.go:107", after := #[{ on := 7, ground := Go.Ground.data }, { on := 16, ground := Go.Ground.data }, { on := 3, ground := Go.Ground.guard }], guard := some (3, false) }) (v := ?v66) rfl (by kernel_rfl) (by kernel_rfl) (by kernel_rfl) (fun _ _ _ h => h) (Or.inl ⟨by rfl, ?y66⟩) (by assumption) ?_
            case y66 => (intro w hSw; (try dsimp only at hSw); go_simp; first | done | with_reducible rfl)
            try simp only [Act.put, List.setIfInBounds_toArray, List.set_cons_zero, List.set_cons_succ]
            refine wpAnyH_take (i := 18) (oi := { dst := some 62, op := Go.Op.pick (Go.Operand.tmp 47) (Go.Operand.const (Go.Value.bool true)) (Go.Operand.tmp 61), type := 4, pos := "l02_ledger.go:107", after := #[{ on := 3, ground := Go.Ground.data }, { on := 17, ground := Go.Ground.data }], guard := none }) (v := ?v67) rfl (by kernel_rfl) (by kernel_rfl) (by kernel_rfl) (fun _ _ _ h => h) (Or.inl ⟨by rfl, ?y67⟩) (by assumption) ?_
            case y67 => (intro w hSw; (try dsimp only at hSw); go_simp; first | done | with_reducible rfl)
            try simp only [Act.put, List.setIfInBounds_toArray, List.set_cons_zero, List.set_cons_succ]
            refine wpAnyH_take (i := 19) (oi := { dst := some 43, op := Go.Op.assign (Go.Operand.tmp 62), type := 4, pos := "l02_ledger.go:107", after := #[{ on := 18, ground := Go.Ground.data }, { on := 16, ground := Go.Ground.chain }], guard := none }) (v := ?v68) rfl (by kernel_rfl) (by kernel_rfl) (by kernel_rfl) (fun _ _ _ h => h) (Or.inl ⟨by rfl, ?y68⟩) (by assumption) ?_
            case y68 => (intro w hSw; (try dsimp only at hSw); go_simp; first | done | with_reducible rfl)
            try simp only [Act.put, List.setIfInBounds_toArray, List.set_cons_zero, List.set_cons_succ]
            refine wpAnyH_done (by kernel_rfl) ?_ _
            have hzW2 : wr.heap.size ≤ w2.heap.size := hb2.size
            go_wp2_with fail
            refine wp_region_held_drew (S := fun w' => w'.cell? ⟨ba, offa, none⟩ = some (.int .i64 x0) ∧ w'.cell? ⟨ba, offa + 1, none⟩ = some (.int .i64 x1) ∧ w'.cell? ⟨ba, offa + 2, none⟩ = some (.int .i64 x2) ∧ w'.cell? ⟨bb, offb, none⟩ = some (.int .i64 y0) ∧ w'.cell? ⟨bb, offb + 1, none⟩ = some (.int .i64 y1) ∧ w'.cell? ⟨bb, offb + 2, none⟩ = some (.int .i64 y2)) (by kernel_rfl) ?rg69 (fun hHeld => ?_)
            case rg69 => ((try dsimp only); (go_split_ands; (repeat' apply And.intro) <;> (first | assumption | exact cell_kept (by assumption) (by assumption) (by first | omega | (simp; done) | (simp; omega)))))
            refine wpAnyH_take (i := 0) (oi := { dst := some 72, op := Go.Op.move (Go.Operand.tmp 0), type := 25, pos := "l02_ledger.go:110", after := #[], guard := none }) (v := ?v70) rfl (by kernel_rfl) (by kernel_rfl) (by kernel_rfl) (fun _ _ _ h => h) (Or.inl ⟨by rfl, ?y70⟩) (by assumption) ?_
            case y70 => (intro w hSw; (try dsimp only at hSw); go_simp; first | done | with_reducible rfl)
            try simp only [Act.put, List.setIfInBounds_toArray, List.set_cons_zero, List.set_cons_succ]
            refine wpAnyH_take (i := 1) (oi := { dst := some 73, op := Go.Op.call { callee := Go.Callee.builtin Go.Builtin.len, args := #[Go.Operand.tmp 72], argTypes := #[25] }, type := 3, pos := "l02_ledger.go:110", after := #[{ on := 0, ground := Go.Ground.data }], guard := none }) (v := ?v71) rfl (by kernel_rfl) (by kernel_rfl) (by kernel_rfl) (fun _ _ _ h => h) (Or.inl ⟨by rfl, ?y71⟩) (by assumption) ?_
            case y71 => (intro w hSw; (try dsimp only at hSw); go_simp; first | done | with_reducible rfl)
            try simp only [Act.put, List.setIfInBounds_toArray, List.set_cons_zero, List.set_cons_succ]
            refine wpAnyH_take (i := 2) (oi := { dst := some 74, op := Go.Op.binOp Go.BinOp.eql 3 (Go.Operand.tmp 73) (Go.Operand.const (Go.Value.int Go.IntKind.i64 0)) 3, type := 4, pos := "l02_ledger.go:110", after := #[{ on := 1, ground := Go.Ground.data }], guard := none }) (v := ?v72) rfl (by kernel_rfl) (by kernel_rfl) (by kernel_rfl) (fun _ _ _ h => h) (Or.inl ⟨by rfl, ?y72⟩) (by assumption) ?_
            case y72 => (intro w hSw; (try dsimp only at hSw); go_simp; first | done | with_reducible rfl)
            try simp only [Act.put, List.setIfInBounds_toArray, List.set_cons_zero, List.set_cons_succ]
            refine wpAnyH_take (i := 3) (oi := { dst := some 75, op := Go.Op.move (Go.Operand.tmp 74), type := 4, pos := "l02_ledger.go:110", after := #[{ on := 2, ground := Go.Ground.data }], guard := none }) (v := ?v73) rfl (by kernel_rfl) (by kernel_rfl) (by kernel_rfl) (fun _ _ _ h => h) (Or.inl ⟨by rfl, ?y73⟩) (by assumption) ?_
            case y73 => (intro w hSw; (try dsimp only at hSw); go_simp; first | done | with_reducible rfl)
            try simp only [Act.put, List.setIfInBounds_toArray, List.set_cons_zero, List.set_cons_succ]
            refine wpAnyH_take (i := 4) (oi := { dst := some 76, op := Go.Op.move (Go.Operand.tmp 1), type := 25, pos := "l02_ledger.go:110", after := #[{ on := 3, ground := Go.Ground.guard }], guard := some (3, false) }) (v := ?v74) rfl (by kernel_rfl) (by kernel_rfl) (by kernel_rfl) (fun _ _ _ h => h) (Or.inl ⟨by rfl, ?y74⟩) (by assumption) ?_
            case y74 => (intro w hSw; (try dsimp only at hSw); go_simp; first | done | with_reducible rfl)
            try simp only [Act.put, List.setIfInBounds_toArray, List.set_cons_zero, List.set_cons_succ]
            refine wpAnyH_take (i := 5) (oi := { dst := some 77, op := Go.Op.indexAddr 25 (Go.Operand.tmp 76) (Go.Operand.const (Go.Value.int Go.IntKind.i64 0)), type := 0, pos := "l02_ledger.go:110", after := #[{ on := 4, ground := Go.Ground.data }, { on := 3, ground := Go.Ground.guard }], guard := some (3, false) }) (v := ?v75) rfl (by kernel_rfl) (by kernel_rfl) (by kernel_rfl) (fun _ _ _ h => h) (Or.inl ⟨by rfl, ?y75⟩) (by assumption) ?_
            case y75 => (intro w hSw; (try dsimp only at hSw); go_simp; first | done | with_reducible rfl)
            try simp only [Act.put, List.setIfInBounds_toArray, List.set_cons_zero, List.set_cons_succ]
            refine wpAnyH_take (i := 6) (oi := { dst := some 78, op := Go.Op.fieldAddr 63 (Go.Operand.tmp 77) 0, type := 0, pos := "l02_ledger.go:110", after := #[{ on := 5, ground := Go.Ground.data }, { on := 3, ground := Go.Ground.guard }], guard := some (3, false) }) (v := ?v76) rfl (by kernel_rfl) (by kernel_rfl) (by kernel_rfl) (fun _ _ _ h => h) (Or.inl ⟨by rfl, ?y76⟩) (by assumption) ?_
            case y76 => (intro w hSw; (try dsimp only at hSw); go_simp; first | done | with_reducible rfl)
            try simp only [Act.put, List.setIfInBounds_toArray, List.set_cons_zero, List.set_cons_succ]
            refine wpAnyH_take (i := 7) (oi := { dst := some 79, op := Go.Op.load 50 (Go.Operand.tmp 78), type := 50, pos := "l02_ledger.go:110", after := #[{ on := 6, ground := Go.Ground.data }, { on := 3, ground := Go.Ground.guard }], guard := some (3, false) }) (v := ?v77) rfl (by kernel_rfl) (by kernel_rfl) (by kernel_rfl) (fun _ _ _ h => h) (Or.inl ⟨by rfl, ?y77⟩) (by assumption) ?_
            case y77 => (intro w hSw; (try dsimp only at hSw); go_simp; first | done | with_reducible rfl)
            try simp only [Act.put, List.setIfInBounds_toArray, List.set_cons_zero, List.set_cons_succ]
            refine wpAnyH_take (i := 8) (oi := { dst := some 80, op := Go.Op.move (Go.Operand.tmp 0), type := 25, pos := "l02_ledger.go:110", after := #[{ on := 3, ground := Go.Ground.guard }], guard := some (3, false) }) (v := ?v78) rfl (by kernel_rfl) (by kernel_rfl) (by kernel_rfl) (fun _ _ _ h => h) (Or.inl ⟨by rfl, ?y78⟩) (by assumption) ?_
            case y78 => (intro w hSw; (try dsimp only at hSw); go_simp; first | done | with_reducible rfl)
            try simp only [Act.put, List.setIfInBounds_toArray, List.set_cons_zero, List.set_cons_succ]
            refine wpAnyH_take (i := 9) (oi := { dst := some 81, op := Go.Op.indexAddr 25 (Go.Operand.tmp 80) (Go.Operand.const (Go.Value.int Go.IntKind.i64 0)), type := 0, pos := "l02_ledger.go:110", after := #[{ on := 8, ground := Go.Ground.data }, { on := 3, ground := Go.Ground.guard }], guard := some (3, false) }) (v := ?v79) rfl (by kernel_rfl) (by kernel_rfl) (by kernel_rfl) (fun _ _ _ h => h) (Or.inl ⟨by rfl, ?y79⟩) (by assumption) ?_
            case y79 => (intro w hSw; (try dsimp only at hSw); go_simp; first | done | with_reducible rfl)
            try simp only [Act.put, List.setIfInBounds_toArray, List.set_cons_zero, List.set_cons_succ]
            refine wpAnyH_take (i := 10) (oi := { dst := some 82, op := Go.Op.fieldAddr 63 (Go.Operand.tmp 81) 0, type := 0, pos := "l02_ledger.go:110", after := #[{ on := 9, ground := Go.Ground.data }, { on := 3, ground := Go.Ground.guard }], guard := some (3, false) }) (v := ?v80) rfl (by kernel_rfl) (by kernel_rfl) (by kernel_rfl) (fun _ _ _ h => h) (Or.inl ⟨by rfl, ?y80⟩) (by assumption) ?_
            case y80 => (intro w hSw; (try dsimp only at hSw); go_simp; first | done | with_reducible rfl)
            try simp only [Act.put, List.setIfInBounds_toArray, List.set_cons_zero, List.set_cons_succ]
            refine wpAnyH_take (i := 11) (oi := { dst := some 83, op := Go.Op.load 50 (Go.Operand.tmp 82), type := 50, pos := "l02_ledger.go:110", after := #[{ on := 10, ground := Go.Ground.data }, { on := 3, ground := Go.Ground.guard }], guard := some (3, false) }) (v := ?v81) rfl (by kernel_rfl) (by kernel_rfl) (by kernel_rfl) (fun _ _ _ h => h) (Or.inl ⟨by rfl, ?y81⟩) (by assumption) ?_
            case y81 => (intro w hSw; (try dsimp only at hSw); go_simp; first | done | with_reducible rfl)
            try simp only [Act.put, List.setIfInBounds_toArray, List.set_cons_zero, List.set_cons_succ]
            refine wpAnyH_ready (rs := [12]) (by kernel_rfl) (by simp) ?_
            refine AllReadyH.cons (o := { dst := some 84, op := Go.Op.call { callee := Go.Callee.value (Go.Operand.func 51), args := #[Go.Operand.tmp 79, Go.Operand.tmp 83], argTypes := #[50, 50] }, type := 4, pos := "l02_ledger.go:110", after := #[{ on := 7, ground := Go.Ground.data }, { on := 11, ground := Go.Ground.data }, { on := 3, ground := Go.Ground.chain }, { on := 3, ground := Go.Ground.guard }], guard := some (3, false) }) rfl (fun K hK => ?k82) AllReadyH.nil
            go_simp
            go_at_call 51
            refine (impl_lessAcc y0 y1 x0 x1 _).mono ?_
            rintro e w3 ⟨rfl, hb3⟩
            rw [hL3]
            refine hK.out _ _ ?s82 (fun hHeld => ?_)
            case s82 => ((try dsimp only); (go_split_ands; (repeat' apply And.intro) <;> (first | assumption | exact cell_kept (by assumption) (by assumption) (by first | omega | (simp; done) | (simp; omega)))))
            clear hK K
            try simp only [Act.put, List.setIfInBounds_toArray, List.set_cons_zero, List.set_cons_succ]
            refine wpAnyH_take (i := 13) (oi := { dst := some 85, op := Go.Op.pick (Go.Operand.tmp 75) (Go.Operand.const (Go.Value.bool true)) (Go.Operand.tmp 84), type := 4, pos := "l02_ledger.go:110", after := #[{ on := 3, ground := Go.Ground.data }, { on := 12, ground := Go.Ground.data }], guard := none }) (v := ?v83) rfl (by kernel_rfl) (by kernel_rfl) (by kernel_rfl) (fun _ _ _ h => h) (Or.inl ⟨by rfl, ?y83⟩) (by assumption) ?_
            case y83 => (intro w hSw; (try dsimp only at hSw); go_simp; first | done | with_reducible rfl)
            try simp only [Act.put, List.setIfInBounds_toArray, List.set_cons_zero, List.set_cons_succ]
            refine wpAnyH_take (i := 14) (oi := { dst := some 71, op := Go.Op.assign (Go.Operand.tmp 85), type := 4, pos := "l02_ledger.go:110", after := #[{ on := 13, ground := Go.Ground.data }, { on := 12, ground := Go.Ground.chain }], guard := none }) (v := ?v84) rfl (by kernel_rfl) (by kernel_rfl) (by kernel_rfl) (fun _ _ _ h => h) (Or.inl ⟨by rfl, ?y84⟩) (by assumption) ?_
            case y84 => (intro w hSw; (try dsimp only at hSw); go_simp; first | done | with_reducible rfl)
            try simp only [Act.put, List.setIfInBounds_toArray, List.set_cons_zero, List.set_cons_succ]
            refine wpAnyH_done (by kernel_rfl) ?_ _
            have hbW : Below W.heap.size W w3 := (hb.drew.trans (hb2.mono hz)).drew.trans (hb3.mono (by show W.heap.size ≤ w2.heap.size; omega))
            have hOW : OwnL w3 W.heap.size wr.heap.size Ao no co os := Own.keep (Own.drew (Own.keep (Own.drew hO) (Eff.of hb2) (.inr (.inr (Nat.le_refl _))))) (Eff.of hb3) (.inr (.inr (Nat.le_refl _)))
            have hzW : wr.heap.size ≤ w3.heap.size := Nat.le_trans hzW2 hb3.size
            go_split_ands
            go_wp2_with (at_builtin; refine wpList_app _ rfl _ _ 25 rfl 63 i0 (.agg #[.int .i64 0, .int .i64 0, .int .i64 0]) 3 24 Try.underlying25 hi0 hj0 hj1 hj2 rfl (by omega) rfl (Own.alloc hOW _) 1 rfl (rd_new3 _ (.int .i64 y0) (.int .i64 y1) (.int .i64 y2) 63) (one3 _ _ _) (by unfold maxLen; omega) (by omega) (by first | (simp; done) | (simp; omega)) ?_; intro A2 c2 w8 hO2 hE2 _)
            have hb8 : Below W.heap.size W w8 := (hbW.alloc (by omega) _).trans (hE2.below (by first | (simp; done) | (simp; omega)) (.inl (Nat.le_refl _)))
            have HC : ∀ p : Addr, p.block < W.heap.size → w8.cell? p = wr.cell? p := fun p hp => (hb8.cell hp).trans (hb.cell hp).symm
            have HO : OwnL w8 W.heap.size w8.heap.size A2 (no + 1) c2 _ := lnCells_snoc os (y0) (y1) (y2) ▸ hO2
            clear hO2
            have HCH := Lib.hid HC
            clear HC
            go_wp2
            go_roundw
            case rel => exact ⟨_, _, _, _, _, _, _, _, _, _, _, _, rfl, rfl, rfl, ⟨by omega, by unfold maxLen; omega⟩, ⟨by omega, by unfold maxLen; omega⟩, Rd.keep (hra) HCH.out, Rd.keep (rd_tail hrb (by omega)) HCH.out, HO, Lib.hid (by rw [HM.out, mrg_gt HLT.out HGT.out]; exact map_app), Lib.hid ⟨HR.out.1, fun z hz => HR.out.2 z (List.mem_cons_of_mem _ hz)⟩, by omega, hb8⟩
            case measure => simp [lenS]; omega
        · skip
          have HLT : Hid (ltA ⟨x0, x1, x2⟩ ⟨y0, y1, y2⟩ = true) := Lib.hid hL2
          go_wp2_with fail
          refine wp_region_held_drew (S := fun w' => w'.cell? ⟨ba, offa, none⟩ = some (.int .i64 x0) ∧ w'.cell? ⟨ba, offa + 1, none⟩ = some (.int .i64 x1) ∧ w'.cell? ⟨ba, offa + 2, none⟩ = some (.int .i64 x2) ∧ w'.cell? ⟨bb, offb, none⟩ = some (.int .i64 y0) ∧ w'.cell? ⟨bb, offb + 1, none⟩ = some (.int .i64 y1) ∧ w'.cell? ⟨bb, offb + 2, none⟩ = some (.int .i64 y2)) (by kernel_rfl) ?rg27 (fun hHeld => ?_)
          case rg27 => ((try dsimp only); (go_split_ands; (repeat' apply And.intro) <;> (first | assumption | exact cell_kept (by assumption) (by assumption) (by first | omega | (simp; done) | (simp; omega)))))
          refine wpAnyH_take (i := 0) (oi := { dst := some 44, op := Go.Op.move (Go.Operand.tmp 1), type := 25, pos := "l02_ledger.go:107", after := #[], guard := none }) (v := ?v28) rfl (by kernel_rfl) (by kernel_rfl) (by kernel_rfl) (fun _ _ _ h => h) (Or.inl ⟨by rfl, ?y28⟩) (by assumption) ?_
          case y28 => (intro w hSw; (try dsimp only at hSw); go_simp; first | done | with_reducible rfl)
          try simp only [Act.put, List.setIfInBounds_toArray, List.set_cons_zero, List.set_cons_succ]
          refine wpAnyH_take (i := 1) (oi := { dst := some 45, op := Go.Op.call { callee := Go.Callee.builtin Go.Builtin.len, args := #[Go.Operand.tmp 44], argTypes := #[25] }, type := 3, pos := "l02_ledger.go:107", after := #[{ on := 0, ground := Go.Ground.data }], guard := none }) (v := ?v29) rfl (by kernel_rfl) (by kernel_rfl) (by kernel_rfl) (fun _ _ _ h => h) (Or.inl ⟨by rfl, ?y29⟩) (by assumption) ?_
          case y29 => (intro w hSw; (try dsimp only at hSw); go_simp; first | done | with_reducible rfl)
          try simp only [Act.put, List.setIfInBounds_toArray, List.set_cons_zero, List.set_cons_succ]
          refine wpAnyH_take (i := 2) (oi := { dst := some 46, op := Go.Op.binOp Go.BinOp.eql 3 (Go.Operand.tmp 45) (Go.Operand.const (Go.Value.int Go.IntKind.i64 0)) 3, type := 4, pos := "l02_ledger.go:107", after := #[{ on := 1, ground := Go.Ground.data }], guard := none }) (v := ?v30) rfl (by kernel_rfl) (by kernel_rfl) (by kernel_rfl) (fun _ _ _ h => h) (Or.inl ⟨by rfl, ?y30⟩) (by assumption) ?_
          case y30 => (intro w hSw; (try dsimp only at hSw); go_simp; first | done | with_reducible rfl)
          try simp only [Act.put, List.setIfInBounds_toArray, List.set_cons_zero, List.set_cons_succ]
          refine wpAnyH_take (i := 3) (oi := { dst := some 47, op := Go.Op.move (Go.Operand.tmp 46), type := 4, pos := "l02_ledger.go:107", after := #[{ on := 2, ground := Go.Ground.data }], guard := none }) (v := ?v31) rfl (by kernel_rfl) (by kernel_rfl) (by kernel_rfl) (fun _ _ _ h => h) (Or.inl ⟨by rfl, ?y31⟩) (by assumption) ?_
          case y31 => (intro w hSw; (try dsimp only at hSw); go_simp; first | done | with_reducible rfl)
          try simp only [Act.put, List.setIfInBounds_toArray, List.set_cons_zero, List.set_cons_succ]
          refine wpAnyH_take (i := 4) (oi := { dst := some 48, op := Go.Op.move (Go.Operand.tmp 0), type := 25, pos := "l02_ledger.go:107", after := #[{ on := 3, ground := Go.Ground.guard }], guard := some (3, false) }) (v := ?v32) rfl (by kernel_rfl) (by kernel_rfl) (by kernel_rfl) (fun _ _ _ h => h) (Or.inl ⟨by rfl, ?y32⟩) (by assumption) ?_
          case y32 => (intro w hSw; (try dsimp only at hSw); go_simp; first | done | with_reducible rfl)
          try simp only [Act.put, List.setIfInBounds_toArray, List.set_cons_zero, List.set_cons_succ]
          refine wpAnyH_take (i := 5) (oi := { dst := some 49, op := Go.Op.call { callee := Go.Callee.builtin Go.Builtin.len, args := #[Go.Operand.tmp 48], argTypes := #[25] }, type := 3, pos := "l02_ledger.go:107", after := #[{ on := 4, ground := Go.Ground.data }, { on := 3, ground := Go.Ground.guard }], guard := some (3, false) }) (v := ?v33) rfl (by kernel_rfl) (by kernel_rfl) (by kernel_rfl) (fun _ _ _ h => h) (Or.inl ⟨by rfl, ?y33⟩) (by assumption) ?_
          case y33 => (intro w hSw; (try dsimp only at hSw); go_simp; first | done | with_reducible rfl)
          try simp only [Act.put, List.setIfInBounds_toArray, List.set_cons_zero, List.set_cons_succ]
          refine wpAnyH_take (i := 6) (oi := { dst := some 50, op := Go.Op.binOp Go.BinOp.gtr 3 (Go.Operand.tmp 49) (Go.Operand.const (Go.Value.int Go.IntKind.i64 0)) 3, type := 4, pos := "l02_ledger.go:107", after := #[{ on := 5, ground := Go.Ground.data }, { on := 3, ground := Go.Ground.guard }], guard := some (3, false) }) (v := ?v34) rfl (by kernel_rfl) (by kernel_rfl) (by kernel_rfl) (fun _ _ _ h => h) (Or.inl ⟨by rfl, ?y34⟩) (by assumption) ?_
          case y34 => (intro w hSw; (try dsimp only at hSw); go_simp; first | done | with_reducible rfl)
          try simp only [Act.put, List.setIfInBounds_toArray, List.set_cons_zero, List.set_cons_succ]
          refine wpAnyH_take (i := 7) (oi := { dst := some 51, op := Go.Op.move (Go.Operand.tmp 50), type := 4, pos := "l02_ledger.go:107", after := #[{ on := 6, ground := Go.Ground.data }, { on := 3, ground := Go.Ground.chain }, { on := 3, ground := Go.Ground.guard }], guard := some (3, false) }) (v := ?v35) rfl (by kernel_rfl) (by kernel_rfl) (by kernel_rfl) (fun _ _ _ h => h) (Or.inl ⟨by rfl, ?y35⟩) (by assumption) ?_
          case y35 => (intro w hSw; (try dsimp only at hSw); go_simp; first | done | with_reducible rfl)
          try simp only [Act.put, List.setIfInBounds_toArray, List.set_cons_zero, List.set_cons_succ]
          refine wpAnyH_take (i := 8) (oi := { dst := some 52, op := Go.Op.move (Go.Operand.tmp 0), type := 25, pos := "l02_ledger.go:107", after := #[{ on := 7, ground := Go.Ground.guard }], guard := some (7, true) }) (v := ?v36) rfl (by kernel_rfl) (by kernel_rfl) (by kernel_rfl) (fun _ _ _ h => h) (Or.inl ⟨by rfl, ?y36⟩) (by assumption) ?_
          case y36 => (intro w hSw; (try dsimp only at hSw); go_simp; first | done | with_reducible rfl)
          try simp only [Act.put, List.setIfInBounds_toArray, List.set_cons_zero, List.set_cons_succ]
          refine wpAnyH_take (i := 9) (oi := { dst := some 53, op := Go.Op.indexAddr 25 (Go.Operand.tmp 52) (Go.Operand.const (Go.Value.int Go.IntKind.i64 0)), type := 0, pos := "l02_ledger.go:107", after := #[{ on := 8, ground := Go.Ground.data }, { on := 7, ground := Go.Ground.guard }], guard := some (7, true) }) (v := ?v37) rfl (by kernel_rfl) (by kernel_rfl) (by kernel_rfl) (fun _ _ _ h => h) (Or.inl ⟨by rfl, ?y37⟩) (by assumption) ?_
          case y37 => (intro w hSw; (try dsimp only at hSw); go_simp; first | done | with_reducible rfl)
          try simp only [Act.put, List.setIfInBounds_toArray, List.set_cons_zero, List.set_cons_succ]
          refine wpAnyH_take (i := 10) (oi := { dst := some 54, op := Go.Op.fieldAddr 63 (Go.Operand.tmp 53) 0, type := 0, pos := "l02_ledger.go:107", after := #[{ on := 9, ground := Go.Ground.data }, { on := 7, ground := Go.Ground.guard }], guard := some (7, true) }) (v := ?v38) rfl (by kernel_rfl) (by kernel_rfl) (by kernel_rfl) (fun _ _ _ h => h) (Or.inl ⟨by rfl, ?y38⟩) (by assumption) ?_
          case y38 => (intro w hSw; (try dsimp only at hSw); go_simp; first | done | with_reducible rfl)
          try simp only [Act.put, List.setIfInBounds_toArray, List.set_cons_zero, List.set_cons_succ]
          refine wpAnyH_take (i := 11) (oi := { dst := some 55, op := Go.Op.load 50 (Go.Operand.tmp 54), type := 50, pos := "l02_ledger.go:107", after := #[{ on := 10, ground := Go.Ground.data }, { on := 7, ground := Go.Ground.guard }], guard := some (7, true) }) (v := ?v39) rfl (by kernel_rfl) (by kernel_rfl) (by kernel_rfl) (fun _ _ _ h => h) (Or.inl ⟨by rfl, ?y39⟩) (by assumption) ?_
          case y39 => (intro w hSw; (try dsimp only at hSw); go_simp; first | done | with_reducible rfl)
          try simp only [Act.put, List.setIfInBounds_toArray, List.set_cons_zero, List.set_cons_succ]
          refine wpAnyH_take (i := 12) (oi := { dst := some 56, op := Go.Op.move (Go.Operand.tmp 1), type := 25, pos := "l02_ledger.go:107", after := #[{ on := 7, ground := Go.Ground.guard }], guard := some (7, true) }) (v := ?v40) rfl (by kernel_rfl) (by kernel_rfl) (by kernel_rfl) (fun _ _ _ h => h) (Or.inl ⟨by rfl, ?y40⟩) (by assumption) ?_
          case y40 => (intro w hSw; (try dsimp only at hSw); go_simp; first | done | with_reducible rfl)
          try simp only [Act.put, List.setIfInBounds_toArray, List.set_cons_zero, List.set_cons_succ]
          refine wpAnyH_take (i := 13) (oi := { dst := some 57, op := Go.Op.indexAddr 25 (Go.Operand.tmp 56) (Go.Operand.const (Go.Value.int Go.IntKind.i64 0)), type := 0, pos := "l02_ledger.go:107", after := #[{ on := 12, ground := Go.Ground.data }, { on := 7, ground := Go.Ground.guard }], guard := some (7, true) }) (v := ?v41) rfl (by kernel_rfl) (by kernel_rfl) (by kernel_rfl) (fun _ _ _ h => h) (Or.inl ⟨by rfl, ?y41⟩) (by assumption) ?_
          case y41 => (intro w hSw; (try dsimp only at hSw); go_simp; first | done | with_reducible rfl)
          try simp only [Act.put, List.setIfInBounds_toArray, List.set_cons_zero, List.set_cons_succ]
          refine wpAnyH_take (i := 14) (oi := { dst := some 58, op := Go.Op.fieldAddr 63 (Go.Operand.tmp 57) 0, type := 0, pos := "l02_ledger.go:107", after := #[{ on := 13, ground := Go.Ground.data }, { on := 7, ground := Go.Ground.guard }], guard := some (7, true) }) (v := ?v42) rfl (by kernel_rfl) (by kernel_rfl) (by kernel_rfl) (fun _ _ _ h => h) (Or.inl ⟨by rfl, ?y42⟩) (by assumption) ?_
          case y42 => (intro w hSw; (try dsimp only at hSw); go_simp; first | done | with_reducible rfl)
          try simp only [Act.put, List.setIfInBounds_toArray, List.set_cons_zero, List.set_cons_succ]
          refine wpAnyH_take (i := 15) (oi := { dst := some 59, op := Go.Op.load 50 (Go.Operand.tmp 58), type := 50, pos := "l02_ledger.go:107", after := #[{ on := 14, ground := Go.Ground.data }, { on := 7, ground := Go.Ground.guard }], guard := some (7, true) }) (v := ?v43) rfl (by kernel_rfl) (by kernel_rfl) (by kernel_rfl) (fun _ _ _ h => h) (Or.inl ⟨by rfl, ?y43⟩) (by assumption) ?_
          case y43 => (intro w hSw; (try dsimp only at hSw); go_simp; first | done | with_reducible rfl)
          try simp only [Act.put, List.setIfInBounds_toArray, List.set_cons_zero, List.set_cons_succ]
          refine wpAnyH_ready (rs := [16]) (by kernel_rfl) (by simp) ?_
          refine AllReadyH.cons (o := { dst := some 60, op := Go.Op.call { callee := Go.Callee.value (Go.Operand.func 51), args := #[Go.Operand.tmp 55, Go.Operand.tmp 59], argTypes := #[50, 50] }, type := 4, pos := "l02_ledger.go:107", after := #[{ on := 11, ground := Go.Ground.data }, { on := 15, ground := Go.Ground.data }, { on := 7, ground := Go.Ground.chain }, { on := 7, ground := Go.Ground.guard }], guard := some (7, true) }) rfl (fun K hK => ?k44) AllReadyH.nil
          go_simp
          go_at_call 51
          refine (impl_lessAcc x0 x1 y0 y1 _).mono ?_
          rintro e w2 ⟨rfl, hb2⟩
          rw [hL2]
          refine hK.out _ _ ?s44 (fun hHeld => ?_)
          case s44 => ((try dsimp only); (go_split_ands; (repeat' apply And.intro) <;> (first | assumption | exact cell_kept (by assumption) (by assumption) (by first | omega | (simp; done) | (simp; omega)))))
          clear hK K
          try simp only [Act.put, List.setIfInBounds_toArray, List.set_cons_zero, List.set_cons_succ]
          refine wpAnyH_take (i := 17) (oi := { dst := some 61, op := Go.Op.pick (Go.Operand.tmp 51) (Go.Operand.tmp 60) (Go.Operand.const (Go.Value.bool false)), type := 4, pos := "l02_ledger.go:107", after := #[{ on := 7, ground := Go.Ground.data }, { on := 16, ground := Go.Ground.data }, { on := 3, ground := Go.Ground.guard }], guard := some (3, false) }) (v := ?v45) rfl (by kernel_rfl) (by kernel_rfl) (by kernel_rfl) (fun _ _ _ h => h) (Or.inl ⟨by rfl, ?y45⟩) (by assumption) ?_
          case y45 => (intro w hSw; (try dsimp only at hSw); go_simp; first | done | with_reducible rfl)
          try simp only [Act.put, List.setIfInBounds_toArray, List.set_cons_zero, List.set_cons_succ]
          refine wpAnyH_take (i := 18) (oi := { dst := some 62, op := Go.Op.pick (Go.Operand.tmp 47) (Go.Operand.const (Go.Value.bool true)) (Go.Operand.tmp 61), type := 4, pos := "l02_ledger.go:107", after := #[{ on := 3, ground := Go.Ground.data }, { on := 17, ground := Go.Ground.data }], guard := none }) (v := ?v46) rfl (by kernel_rfl) (by kernel_rfl) (by kernel_rfl) (fun _ _ _ h => h) (Or.inl ⟨by rfl, ?y46⟩) (by assumption) ?_
          case y46 => (intro w hSw; (try dsimp only at hSw); go_simp; first | done | with_reducible rfl)
          try simp only [Act.put, List.setIfInBounds_toArray, List.set_cons_zero, List.set_cons_succ]
          refine wpAnyH_take (i := 19) (oi := { dst := some 43, op := Go.Op.assign (Go.Operand.tmp 62), type := 4, pos := "l02_ledger.go:107", after := #[{ on := 18, ground := Go.Ground.data }, { on := 16, ground := Go.Ground.chain }], guard := none }) (v := ?v47) rfl (by kernel_rfl) (by kernel_rfl) (by kernel_rfl) (fun _ _ _ h => h) (Or.inl ⟨by rfl, ?y47⟩) (by assumption) ?_
          case y47 => (intro w hSw; (try dsimp only at hSw); go_simp; first | done | with_reducible rfl)
          try simp only [Act.put, List.setIfInBounds_toArray, List.set_cons_zero, List.set_cons_succ]
          refine wpAnyH_done (by kernel_rfl) ?_ _
          have hbW : Below W.heap.size W w2 := hb.drew.trans (hb2.mono hz)
          have hOW : OwnL w2 W.heap.size wr.heap.size Ao no co os := Own.keep (Own.drew hO) (Eff.of hb2) (.inr (.inr (Nat.le_refl _)))
          have hzW : wr.heap.size ≤ w2.heap.size := hb2.size
          go_split_ands
          go_wp2_with (at_builtin; refine wpList_app _ rfl _ _ 25 rfl 63 i0 (.agg #[.int .i64 0, .int .i64 0, .int .i64 0]) 3 24 Try.underlying25 hi0 hj0 hj1 hj2 rfl (by omega) rfl (Own.alloc hOW _) 1 rfl (rd_new3 _ (.int .i64 x0) (.int .i64 x1) (.int .i64 x2) 63) (one3 _ _ _) (by unfold maxLen; omega) (by omega) (by first | (simp; done) | (simp; omega)) ?_; intro A2 c2 w8 hO2 hE2 _)
          have hb8 : Below W.heap.size W w8 := (hbW.alloc (by omega) _).trans (hE2.below (by first | (simp; done) | (simp; omega)) (.inl (Nat.le_refl _)))
          have HC : ∀ p : Addr, p.block < W.heap.size → w8.cell? p = wr.cell? p := fun p hp => (hb8.cell hp).trans (hb.cell hp).symm
          have HO : OwnL w8 W.heap.size w8.heap.size A2 (no + 1) c2 _ := lnCells_snoc os (x0) (x1) (x2) ▸ hO2
          clear hO2
          have HCH := Lib.hid HC
          clear HC
          go_wp2
          go_roundw
          case rel => exact ⟨_, _, _, _, _, _, _, _, _, _, _, _, rfl, rfl, rfl, ⟨by omega, by unfold maxLen; omega⟩, ⟨by omega, by unfold maxLen; omega⟩, Rd.keep (rd_tail hra (by omega)) HCH.out, Rd.keep (hrb) HCH.out, HO, Lib.hid (by rw [HM.out, mrg_lt HLT.out]; exact map_app), Lib.hid ⟨fun z hz => HR.out.1 z (List.mem_cons_of_mem _ hz), HR.out.2⟩, by omega, hb8⟩
          case measure => simp [lenS]; omega
end Go.Proofs.Ytgjphejmppehjaa
