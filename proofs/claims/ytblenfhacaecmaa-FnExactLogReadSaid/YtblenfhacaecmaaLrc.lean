/- LogRead (the closure). -/
import Derived.Test.YtblenfhacaecmaaScs
import Derived.Test.YtblenfhacaecmaaLt
import Derived.Deep.RegionHeld3
import Derived.IntWalk
namespace Go.Proofs.Ytblenfhacaecmaa
open Go.RowKit
/-- The sectors of a log: r cells from cell k on, t the last epoch. -/
def logR (f : Nat → List UInt8) : Nat → Nat → Nat → List (Int × Int × List UInt8)
  | 0, _, _ => []
  | r + 1, k, t => if secGood (f k) = true ∧ rdQ (f k) = k ∧ t ≤ rdP (f k) then ((k : Int), ((rdP (f k) : Nat) : Int), rdB (f k)) :: logR f r (k + 1) (rdP (f k)) else []
theorem logR_yes {f : Nat → List UInt8} {r k t : Nat} (h1 : secGood (f k) = true) (h2 : rdQ (f k) = k) (h3 : t ≤ rdP (f k)) : logR f (r + 1) k t = ((k : Int), ((rdP (f k) : Nat) : Int), rdB (f k)) :: logR f r (k + 1) (rdP (f k)) := by rw [logR, if_pos ⟨h1, h2, h3⟩]
theorem logR_no {f : Nat → List UInt8} {r k t : Nat} (h : secGood (f k) = false ∨ rdQ (f k) ≠ k ∨ rdP (f k) < t) : logR f (r + 1) k t = [] := by
  rw [logR, if_neg]
  rintro ⟨h1, h2, h3⟩
  rcases h with h | h | h
  · rw [h1] at h; cases h
  · exact h h2
  · omega
theorem logR_len (f : Nat → List UInt8) (r k t : Nat) : (logR f r k t).length ≤ r := by
  induction r generalizing k t with
  | zero => simp [logR]
  | succ r ih =>
    rw [logR]
    split
    · have := ih (k + 1) (rdP (f k)); simp only [List.length_cons]; omega
    · simp
theorem logR_body {f : Nat → List UInt8} {r k t : Nat} {x : Int × Int × List UInt8} (h : x ∈ logR f r k t) : x.2.2.length ≤ 255 := by
  induction r generalizing k t with
  | zero => simp [logR] at h
  | succ r ih =>
    rw [logR] at h
    split at h
    · rcases List.mem_cons.1 h with rfl | h
      · simp only [rdB, List.length_take, rdM]
        have := ((f k).getD 7 0).toNat_lt
        omega
      · exact ih h
    · simp at h
def lgF (dc : List (List UInt8)) (dw : List (Int × List UInt8)) (k : Nat) : List UInt8 := readD dc dw (k : Int)
/-- What LogRead reads. -/
def lgR (dc : List (List UInt8)) (dw : List (Int × List UInt8)) : List (Int × Int × List UInt8) := if dkOk dc dw then logR (lgF dc dw) dc.length 0 0 else []
theorem eff00 {a b c : World} (h : Eff 0 0 a b) (k : Eff 0 0 b c) : Eff 0 0 a c := h.trans k
theorem one3s (a b : Int) (A : Option Addr) (n c : Nat) : ∀ u ∈ [Value.int .i64 a, .int .i64 b, .slice A n c], u.oneCell' = true := by
  intro u hu
  simp only [List.mem_cons, List.not_mem_nil, or_false] at hu
  rcases hu with rfl | rfl | rfl <;> rfl
theorem rd_row3 (w : World) (us : List Value) (t : TypeId) : Rd (w.alloc (.cells us.toArray t)) (w.heap.size + 1) us.length (some ⟨w.heap.size, 0, none⟩) 1 us := by
  refine ⟨by simp, .inr ⟨w.heap.size, 0, rfl, by omega, fun j v hv => ?_⟩⟩
  rw [cell_of_row _ w.heap.size _ _ _ _ (heap_alloc_new w _)]
  simpa using hv
/-- What LogRead leaves: the sectors and their number. -/
def MadeLr (ds : List (Int × Int × List UInt8)) (w : World) (e : Ending) (w' : World) : Prop :=
  ∃ A n c es, e = .returned (.tuple #[.slice A n c, .int .i64 (n : Int)]) ∧ es.map Sc.d = ds ∧ OwnSector w' w.heap.size w'.heap.size A n c es ∧ Below w.heap.size w w'
/-- The last epoch among the k sectors read. -/
def lastE (k : Nat) (es : List Sc) (t : Nat) : Prop := (k = 0 → t = 0) ∧ ∀ x, es[k - 1]? = some x → x.ep = (t : Int)
theorem lastE_snoc {k t : Nat} {es : List Sc} {y : Sc} (hl : es.length = k) (hy : y.ep = (t : Int)) : lastE (k + 1) (es ++ [y]) t := by
  refine ⟨fun h => by omega, fun x hx => ?_⟩
  rw [show k + 1 - 1 = es.length by omega, List.getElem?_concat_length] at hx
  cases hx; exact hy
set_option maxHeartbeats 2000000 in
set_option maxRecDepth 100000 in
theorem impl_LogRead1_bad (i q p : Int) (As : Option Addr) (m cs T : Nat) (v : Value) (w : World) (hT : w.cell? ⟨T, 0, none⟩ = some v) :
    Calls Try.prog 71 #[.int .i64 (i : Int), .agg #[.int .i64 q, .int .i64 p, .slice As m cs], .bool false, .pointer (some ⟨T, 0, none⟩)] w fun e w' => e = .returned (.bool false) ∧ Eff 0 0 w w' := by
  go_enter Try.func71, Try.ntmps71
  go_wp2_with fail
  have he1 : Eff 0 0 w (w.alloc (.cells #[.int .i64 q, .int .i64 p, .slice As m cs] 91)) := Eff.alloc _ _
  have s_0 : (w.alloc (.cells #[.int .i64 q, .int .i64 p, .slice As m cs] 91)).cell? ⟨w.heap.size, 0, none⟩ = some (.int .i64 q) := var_cell _ _ _ _ _ rfl
  have s_1 : (w.alloc (.cells #[.int .i64 q, .int .i64 p, .slice As m cs] 91)).cell? ⟨w.heap.size, 1, none⟩ = some (.int .i64 p) := var_cell _ _ _ _ _ rfl
  have s_2 : (w.alloc (.cells #[.int .i64 q, .int .i64 p, .slice As m cs] 91)).cell? ⟨w.heap.size, 2, none⟩ = some (.slice As m cs) := var_cell _ _ _ _ _ rfl
  generalize (w.alloc (.cells #[.int .i64 q, .int .i64 p, .slice As m cs] 91)) = v1 at *
  have hz1 : w.heap.size ≤ v1.heap.size := he1.size
  have he2 : Eff 0 0 w v1.drew := he1.drew
  have hz2 : w.heap.size ≤ v1.drew.heap.size := he2.size
  replace hT := he2.cell hT (.inr (Nat.zero_le _))
  replace s_0 : v1.drew.cell? ⟨w.heap.size, 0, none⟩ = _ := s_0
  replace s_1 : v1.drew.cell? ⟨w.heap.size, 1, none⟩ = _ := s_1
  replace s_2 : v1.drew.cell? ⟨w.heap.size, 2, none⟩ = _ := s_2
  clear he1 hz1
  refine wp_region_held_drew (S := fun w' => w'.cell? ⟨w.heap.size, 0, none⟩ = some (.int .i64 q) ∧ w'.cell? ⟨w.heap.size, 1, none⟩ = some (.int .i64 p)) (by kernel_rfl) ?rg1 (fun hHeld => ?_)
  case rg1 => ((try dsimp only); (go_split_ands; (repeat' apply And.intro) <;> (first | with_reducible assumption)))
  generalize v1.drew = v0 at *
  refine wpAnyH_take (i := 0) (oi := { dst := some 8, op := Go.Op.move (Go.Operand.tmp 2), type := 4, pos := "l05_log.go:26", after := #[], guard := none }) (v := ?v2) rfl (by kernel_rfl) (by kernel_rfl) (by kernel_rfl) (fun _ _ _ h => h) (Or.inl ⟨by rfl, ?y2⟩) (by assumption) ?_
  case y2 => (intro w hSw; (try dsimp only at hSw); go_simp; first | done | with_reducible rfl)
  try simp only [Act.put, List.setIfInBounds_toArray, List.set_cons_zero, List.set_cons_succ]
  refine wpAnyH_take (i := 1) (oi := { dst := some 9, op := Go.Op.unOp Go.UnOp.not 4 (Go.Operand.tmp 8), type := 4, pos := "l05_log.go:26", after := #[{ on := 0, ground := Go.Ground.data }], guard := none }) (v := ?v3) rfl (by kernel_rfl) (by kernel_rfl) (by kernel_rfl) (fun _ _ _ h => h) (Or.inl ⟨by rfl, ?y3⟩) (by assumption) ?_
  case y3 => (intro w hSw; (try dsimp only at hSw); go_simp; first | done | with_reducible rfl)
  try simp only [Act.put, List.setIfInBounds_toArray, List.set_cons_zero, List.set_cons_succ]
  refine wpAnyH_take (i := 2) (oi := { dst := some 10, op := Go.Op.move (Go.Operand.tmp 9), type := 4, pos := "l05_log.go:26", after := #[{ on := 1, ground := Go.Ground.data }], guard := none }) (v := ?v4) rfl (by kernel_rfl) (by kernel_rfl) (by kernel_rfl) (fun _ _ _ h => h) (Or.inl ⟨by rfl, ?y4⟩) (by assumption) ?_
  case y4 => (intro w hSw; (try dsimp only at hSw); go_simp; first | done | with_reducible rfl)
  try simp only [Act.put, List.setIfInBounds_toArray, List.set_cons_zero, List.set_cons_succ]
  refine wpAnyH_take (i := 3) (oi := { dst := some 11, op := Go.Op.fieldAddr 91 (Go.Operand.tmp 5) 0, type := 0, pos := "l05_log.go:26", after := #[{ on := 2, ground := Go.Ground.guard }], guard := some (2, false) }) (v := undef) rfl (by kernel_rfl) (by kernel_rfl) (by kernel_rfl) (fun _ _ _ h => h) (Or.inr ⟨by rfl, rfl⟩) (by assumption) ?_
  try simp only [Act.put, List.setIfInBounds_toArray, List.set_cons_zero, List.set_cons_succ]
  refine wpAnyH_take (i := 4) (oi := { dst := some 12, op := Go.Op.load 3 (Go.Operand.tmp 11), type := 3, pos := "l05_log.go:26", after := #[{ on := 3, ground := Go.Ground.data }, { on := 2, ground := Go.Ground.guard }], guard := some (2, false) }) (v := undef) rfl (by kernel_rfl) (by kernel_rfl) (by kernel_rfl) (fun _ _ _ h => h) (Or.inr ⟨by rfl, rfl⟩) (by assumption) ?_
  try simp only [Act.put, List.setIfInBounds_toArray, List.set_cons_zero, List.set_cons_succ]
  refine wpAnyH_take (i := 5) (oi := { dst := some 13, op := Go.Op.move (Go.Operand.tmp 0), type := 3, pos := "l05_log.go:26", after := #[{ on := 2, ground := Go.Ground.guard }], guard := some (2, false) }) (v := undef) rfl (by kernel_rfl) (by kernel_rfl) (by kernel_rfl) (fun _ _ _ h => h) (Or.inr ⟨by rfl, rfl⟩) (by assumption) ?_
  try simp only [Act.put, List.setIfInBounds_toArray, List.set_cons_zero, List.set_cons_succ]
  refine wpAnyH_take (i := 6) (oi := { dst := some 14, op := Go.Op.binOp Go.BinOp.neq 3 (Go.Operand.tmp 12) (Go.Operand.tmp 13) 3, type := 4, pos := "l05_log.go:26", after := #[{ on := 4, ground := Go.Ground.data }, { on := 5, ground := Go.Ground.data }, { on := 2, ground := Go.Ground.guard }], guard := some (2, false) }) (v := undef) rfl (by kernel_rfl) (by kernel_rfl) (by kernel_rfl) (fun _ _ _ h => h) (Or.inr ⟨by rfl, rfl⟩) (by assumption) ?_
  try simp only [Act.put, List.setIfInBounds_toArray, List.set_cons_zero, List.set_cons_succ]
  refine wpAnyH_take (i := 7) (oi := { dst := some 15, op := Go.Op.pick (Go.Operand.tmp 10) (Go.Operand.const (Go.Value.bool true)) (Go.Operand.tmp 14), type := 4, pos := "l05_log.go:26", after := #[{ on := 2, ground := Go.Ground.data }, { on := 6, ground := Go.Ground.data }], guard := none }) (v := ?v5) rfl (by kernel_rfl) (by kernel_rfl) (by kernel_rfl) (fun _ _ _ h => h) (Or.inl ⟨by rfl, ?y5⟩) (by assumption) ?_
  case y5 => (intro w hSw; (try dsimp only at hSw); go_simp; first | done | with_reducible rfl)
  try simp only [Act.put, List.setIfInBounds_toArray, List.set_cons_zero, List.set_cons_succ]
  refine wpAnyH_take (i := 8) (oi := { dst := some 16, op := Go.Op.move (Go.Operand.tmp 15), type := 4, pos := "l05_log.go:26", after := #[{ on := 7, ground := Go.Ground.data }, { on := 2, ground := Go.Ground.chain }], guard := none }) (v := ?v6) rfl (by kernel_rfl) (by kernel_rfl) (by kernel_rfl) (fun _ _ _ h => h) (Or.inl ⟨by rfl, ?y6⟩) (by assumption) ?_
  case y6 => (intro w hSw; (try dsimp only at hSw); go_simp; first | done | with_reducible rfl)
  try simp only [Act.put, List.setIfInBounds_toArray, List.set_cons_zero, List.set_cons_succ]
  refine wpAnyH_take (i := 9) (oi := { dst := some 17, op := Go.Op.move (Go.Operand.tmp 0), type := 3, pos := "l05_log.go:26", after := #[{ on := 8, ground := Go.Ground.guard }], guard := some (8, false) }) (v := undef) rfl (by kernel_rfl) (by kernel_rfl) (by kernel_rfl) (fun _ _ _ h => h) (Or.inr ⟨by rfl, rfl⟩) (by assumption) ?_
  try simp only [Act.put, List.setIfInBounds_toArray, List.set_cons_zero, List.set_cons_succ]
  refine wpAnyH_take (i := 10) (oi := { dst := some 18, op := Go.Op.binOp Go.BinOp.gtr 3 (Go.Operand.tmp 17) (Go.Operand.const (Go.Value.int Go.IntKind.i64 0)) 3, type := 4, pos := "l05_log.go:26", after := #[{ on := 9, ground := Go.Ground.data }, { on := 8, ground := Go.Ground.guard }], guard := some (8, false) }) (v := undef) rfl (by kernel_rfl) (by kernel_rfl) (by kernel_rfl) (fun _ _ _ h => h) (Or.inr ⟨by rfl, rfl⟩) (by assumption) ?_
  try simp only [Act.put, List.setIfInBounds_toArray, List.set_cons_zero, List.set_cons_succ]
  refine wpAnyH_take (i := 11) (oi := { dst := some 19, op := Go.Op.move (Go.Operand.tmp 18), type := 4, pos := "l05_log.go:26", after := #[{ on := 10, ground := Go.Ground.data }, { on := 8, ground := Go.Ground.chain }, { on := 8, ground := Go.Ground.guard }], guard := some (8, false) }) (v := undef) rfl (by kernel_rfl) (by kernel_rfl) (by kernel_rfl) (fun _ _ _ h => h) (Or.inr ⟨by rfl, rfl⟩) (by assumption) ?_
  try simp only [Act.put, List.setIfInBounds_toArray, List.set_cons_zero, List.set_cons_succ]
  refine wpAnyH_take (i := 12) (oi := { dst := some 20, op := Go.Op.fieldAddr 91 (Go.Operand.tmp 5) 1, type := 0, pos := "l05_log.go:26", after := #[{ on := 11, ground := Go.Ground.guard }], guard := some (11, true) }) (v := undef) rfl (by kernel_rfl) (by kernel_rfl) (by kernel_rfl) (fun _ _ _ h => h) (Or.inr ⟨by rfl, rfl⟩) (by assumption) ?_
  try simp only [Act.put, List.setIfInBounds_toArray, List.set_cons_zero, List.set_cons_succ]
  refine wpAnyH_take (i := 13) (oi := { dst := some 21, op := Go.Op.load 3 (Go.Operand.tmp 20), type := 3, pos := "l05_log.go:26", after := #[{ on := 12, ground := Go.Ground.data }, { on := 11, ground := Go.Ground.guard }], guard := some (11, true) }) (v := undef) rfl (by kernel_rfl) (by kernel_rfl) (by kernel_rfl) (fun _ _ _ h => h) (Or.inr ⟨by rfl, rfl⟩) (by assumption) ?_
  try simp only [Act.put, List.setIfInBounds_toArray, List.set_cons_zero, List.set_cons_succ]
  refine wpAnyH_take (i := 14) (oi := { dst := some 22, op := Go.Op.load 66 (Go.Operand.tmp 3), type := 66, pos := "l05_log.go:26", after := #[{ on := 11, ground := Go.Ground.guard }], guard := some (11, true) }) (v := undef) rfl (by kernel_rfl) (by kernel_rfl) (by kernel_rfl) (fun _ _ _ h => h) (Or.inr ⟨by rfl, rfl⟩) (by assumption) ?_
  try simp only [Act.put, List.setIfInBounds_toArray, List.set_cons_zero, List.set_cons_succ]
  refine wpAnyH_take (i := 15) (oi := { dst := some 23, op := Go.Op.move (Go.Operand.tmp 0), type := 3, pos := "l05_log.go:26", after := #[{ on := 11, ground := Go.Ground.guard }], guard := some (11, true) }) (v := undef) rfl (by kernel_rfl) (by kernel_rfl) (by kernel_rfl) (fun _ _ _ h => h) (Or.inr ⟨by rfl, rfl⟩) (by assumption) ?_
  try simp only [Act.put, List.setIfInBounds_toArray, List.set_cons_zero, List.set_cons_succ]
  refine wpAnyH_take (i := 16) (oi := { dst := some 24, op := Go.Op.binOp Go.BinOp.sub 3 (Go.Operand.tmp 23) (Go.Operand.const (Go.Value.int Go.IntKind.i64 1)) 3, type := 3, pos := "l05_log.go:26", after := #[{ on := 15, ground := Go.Ground.data }, { on := 11, ground := Go.Ground.guard }], guard := some (11, true) }) (v := undef) rfl (by kernel_rfl) (by kernel_rfl) (by kernel_rfl) (fun _ _ _ h => h) (Or.inr ⟨by rfl, rfl⟩) (by assumption) ?_
  try simp only [Act.put, List.setIfInBounds_toArray, List.set_cons_zero, List.set_cons_succ]
  refine wpAnyH_take (i := 17) (oi := { dst := some 25, op := Go.Op.indexAddr 66 (Go.Operand.tmp 22) (Go.Operand.tmp 24), type := 0, pos := "l05_log.go:26", after := #[{ on := 14, ground := Go.Ground.data }, { on := 16, ground := Go.Ground.data }, { on := 11, ground := Go.Ground.guard }], guard := some (11, true) }) (v := undef) rfl (by kernel_rfl) (by kernel_rfl) (by kernel_rfl) (fun _ _ _ h => h) (Or.inr ⟨by rfl, rfl⟩) (by assumption) ?_
  try simp only [Act.put, List.setIfInBounds_toArray, List.set_cons_zero, List.set_cons_succ]
  refine wpAnyH_take (i := 18) (oi := { dst := some 26, op := Go.Op.fieldAddr 91 (Go.Operand.tmp 25) 1, type := 0, pos := "l05_log.go:26", after := #[{ on := 17, ground := Go.Ground.data }, { on := 11, ground := Go.Ground.guard }], guard := some (11, true) }) (v := undef) rfl (by kernel_rfl) (by kernel_rfl) (by kernel_rfl) (fun _ _ _ h => h) (Or.inr ⟨by rfl, rfl⟩) (by assumption) ?_
  try simp only [Act.put, List.setIfInBounds_toArray, List.set_cons_zero, List.set_cons_succ]
  refine wpAnyH_take (i := 19) (oi := { dst := some 27, op := Go.Op.load 3 (Go.Operand.tmp 26), type := 3, pos := "l05_log.go:26", after := #[{ on := 18, ground := Go.Ground.data }, { on := 11, ground := Go.Ground.guard }], guard := some (11, true) }) (v := undef) rfl (by kernel_rfl) (by kernel_rfl) (by kernel_rfl) (fun _ _ _ h => h) (Or.inr ⟨by rfl, rfl⟩) (by assumption) ?_
  try simp only [Act.put, List.setIfInBounds_toArray, List.set_cons_zero, List.set_cons_succ]
  refine wpAnyH_take (i := 20) (oi := { dst := some 28, op := Go.Op.binOp Go.BinOp.lss 3 (Go.Operand.tmp 21) (Go.Operand.tmp 27) 3, type := 4, pos := "l05_log.go:26", after := #[{ on := 13, ground := Go.Ground.data }, { on := 19, ground := Go.Ground.data }, { on := 11, ground := Go.Ground.guard }], guard := some (11, true) }) (v := undef) rfl (by kernel_rfl) (by kernel_rfl) (by kernel_rfl) (fun _ _ _ h => h) (Or.inr ⟨by rfl, rfl⟩) (by assumption) ?_
  try simp only [Act.put, List.setIfInBounds_toArray, List.set_cons_zero, List.set_cons_succ]
  refine wpAnyH_take (i := 21) (oi := { dst := some 29, op := Go.Op.pick (Go.Operand.tmp 19) (Go.Operand.tmp 28) (Go.Operand.const (Go.Value.bool false)), type := 4, pos := "l05_log.go:26", after := #[{ on := 11, ground := Go.Ground.data }, { on := 20, ground := Go.Ground.data }, { on := 8, ground := Go.Ground.guard }], guard := some (8, false) }) (v := undef) rfl (by kernel_rfl) (by kernel_rfl) (by kernel_rfl) (fun _ _ _ h => h) (Or.inr ⟨by rfl, rfl⟩) (by assumption) ?_
  try simp only [Act.put, List.setIfInBounds_toArray, List.set_cons_zero, List.set_cons_succ]
  refine wpAnyH_take (i := 22) (oi := { dst := some 30, op := Go.Op.pick (Go.Operand.tmp 16) (Go.Operand.const (Go.Value.bool true)) (Go.Operand.tmp 29), type := 4, pos := "l05_log.go:26", after := #[{ on := 8, ground := Go.Ground.data }, { on := 21, ground := Go.Ground.data }], guard := none }) (v := ?v7) rfl (by kernel_rfl) (by kernel_rfl) (by kernel_rfl) (fun _ _ _ h => h) (Or.inl ⟨by rfl, ?y7⟩) (by assumption) ?_
  case y7 => (intro w hSw; (try dsimp only at hSw); go_simp; first | done | with_reducible rfl)
  try simp only [Act.put, List.setIfInBounds_toArray, List.set_cons_zero, List.set_cons_succ]
  refine wpAnyH_done (by kernel_rfl) ?_ _
  go_wp2_with fail
  go_ret
  exact ⟨rfl, he2⟩
set_option maxHeartbeats 2000000 in
set_option maxRecDepth 100000 in
theorem impl_LogRead1_seq (i q p : Int) (As : Option Addr) (m cs T : Nat) (v : Value) (w : World) (hT : w.cell? ⟨T, 0, none⟩ = some v) (hq : (q != i) = true) :
    Calls Try.prog 71 #[.int .i64 (i : Int), .agg #[.int .i64 q, .int .i64 p, .slice As m cs], .bool true, .pointer (some ⟨T, 0, none⟩)] w fun e w' => e = .returned (.bool false) ∧ Eff 0 0 w w' := by
  go_enter Try.func71, Try.ntmps71
  go_wp2_with fail
  have he1 : Eff 0 0 w (w.alloc (.cells #[.int .i64 q, .int .i64 p, .slice As m cs] 91)) := Eff.alloc _ _
  have s_0 : (w.alloc (.cells #[.int .i64 q, .int .i64 p, .slice As m cs] 91)).cell? ⟨w.heap.size, 0, none⟩ = some (.int .i64 q) := var_cell _ _ _ _ _ rfl
  have s_1 : (w.alloc (.cells #[.int .i64 q, .int .i64 p, .slice As m cs] 91)).cell? ⟨w.heap.size, 1, none⟩ = some (.int .i64 p) := var_cell _ _ _ _ _ rfl
  have s_2 : (w.alloc (.cells #[.int .i64 q, .int .i64 p, .slice As m cs] 91)).cell? ⟨w.heap.size, 2, none⟩ = some (.slice As m cs) := var_cell _ _ _ _ _ rfl
  generalize (w.alloc (.cells #[.int .i64 q, .int .i64 p, .slice As m cs] 91)) = v1 at *
  have hz1 : w.heap.size ≤ v1.heap.size := he1.size
  have he2 : Eff 0 0 w v1.drew := he1.drew
  have hz2 : w.heap.size ≤ v1.drew.heap.size := he2.size
  replace hT := he2.cell hT (.inr (Nat.zero_le _))
  replace s_0 : v1.drew.cell? ⟨w.heap.size, 0, none⟩ = _ := s_0
  replace s_1 : v1.drew.cell? ⟨w.heap.size, 1, none⟩ = _ := s_1
  replace s_2 : v1.drew.cell? ⟨w.heap.size, 2, none⟩ = _ := s_2
  clear he1 hz1
  refine wp_region_held_drew (S := fun w' => w'.cell? ⟨w.heap.size, 0, none⟩ = some (.int .i64 q) ∧ w'.cell? ⟨w.heap.size, 1, none⟩ = some (.int .i64 p)) (by kernel_rfl) ?rg8 (fun hHeld => ?_)
  case rg8 => ((try dsimp only); (go_split_ands; (repeat' apply And.intro) <;> (first | with_reducible assumption)))
  generalize v1.drew = v0 at *
  refine wpAnyH_take (i := 0) (oi := { dst := some 8, op := Go.Op.move (Go.Operand.tmp 2), type := 4, pos := "l05_log.go:26", after := #[], guard := none }) (v := ?v9) rfl (by kernel_rfl) (by kernel_rfl) (by kernel_rfl) (fun _ _ _ h => h) (Or.inl ⟨by rfl, ?y9⟩) (by assumption) ?_
  case y9 => (intro w hSw; (try dsimp only at hSw); go_simp; first | done | with_reducible rfl)
  try simp only [Act.put, List.setIfInBounds_toArray, List.set_cons_zero, List.set_cons_succ]
  refine wpAnyH_take (i := 1) (oi := { dst := some 9, op := Go.Op.unOp Go.UnOp.not 4 (Go.Operand.tmp 8), type := 4, pos := "l05_log.go:26", after := #[{ on := 0, ground := Go.Ground.data }], guard := none }) (v := ?v10) rfl (by kernel_rfl) (by kernel_rfl) (by kernel_rfl) (fun _ _ _ h => h) (Or.inl ⟨by rfl, ?y10⟩) (by assumption) ?_
  case y10 => (intro w hSw; (try dsimp only at hSw); go_simp; first | done | with_reducible rfl)
  try simp only [Act.put, List.setIfInBounds_toArray, List.set_cons_zero, List.set_cons_succ]
  refine wpAnyH_take (i := 2) (oi := { dst := some 10, op := Go.Op.move (Go.Operand.tmp 9), type := 4, pos := "l05_log.go:26", after := #[{ on := 1, ground := Go.Ground.data }], guard := none }) (v := ?v11) rfl (by kernel_rfl) (by kernel_rfl) (by kernel_rfl) (fun _ _ _ h => h) (Or.inl ⟨by rfl, ?y11⟩) (by assumption) ?_
  case y11 => (intro w hSw; (try dsimp only at hSw); go_simp; first | done | with_reducible rfl)
  try simp only [Act.put, List.setIfInBounds_toArray, List.set_cons_zero, List.set_cons_succ]
  refine wpAnyH_take (i := 3) (oi := { dst := some 11, op := Go.Op.fieldAddr 91 (Go.Operand.tmp 5) 0, type := 0, pos := "l05_log.go:26", after := #[{ on := 2, ground := Go.Ground.guard }], guard := some (2, false) }) (v := ?v12) rfl (by kernel_rfl) (by kernel_rfl) (by kernel_rfl) (fun _ _ _ h => h) (Or.inl ⟨by rfl, ?y12⟩) (by assumption) ?_
  case y12 => (intro w hSw; (try dsimp only at hSw); go_simp; first | done | with_reducible rfl)
  try simp only [Act.put, List.setIfInBounds_toArray, List.set_cons_zero, List.set_cons_succ]
  refine wpAnyH_take (i := 4) (oi := { dst := some 12, op := Go.Op.load 3 (Go.Operand.tmp 11), type := 3, pos := "l05_log.go:26", after := #[{ on := 3, ground := Go.Ground.data }, { on := 2, ground := Go.Ground.guard }], guard := some (2, false) }) (v := ?v13) rfl (by kernel_rfl) (by kernel_rfl) (by kernel_rfl) (fun _ _ _ h => h) (Or.inl ⟨by rfl, ?y13⟩) (by assumption) ?_
  case y13 => (intro w hSw; (try dsimp only at hSw); go_simp; first | done | with_reducible rfl)
  try simp only [Act.put, List.setIfInBounds_toArray, List.set_cons_zero, List.set_cons_succ]
  refine wpAnyH_take (i := 5) (oi := { dst := some 13, op := Go.Op.move (Go.Operand.tmp 0), type := 3, pos := "l05_log.go:26", after := #[{ on := 2, ground := Go.Ground.guard }], guard := some (2, false) }) (v := ?v14) rfl (by kernel_rfl) (by kernel_rfl) (by kernel_rfl) (fun _ _ _ h => h) (Or.inl ⟨by rfl, ?y14⟩) (by assumption) ?_
  case y14 => (intro w hSw; (try dsimp only at hSw); go_simp; first | done | with_reducible rfl)
  try simp only [Act.put, List.setIfInBounds_toArray, List.set_cons_zero, List.set_cons_succ]
  refine wpAnyH_take (i := 6) (oi := { dst := some 14, op := Go.Op.binOp Go.BinOp.neq 3 (Go.Operand.tmp 12) (Go.Operand.tmp 13) 3, type := 4, pos := "l05_log.go:26", after := #[{ on := 4, ground := Go.Ground.data }, { on := 5, ground := Go.Ground.data }, { on := 2, ground := Go.Ground.guard }], guard := some (2, false) }) (v := ?v15) rfl (by kernel_rfl) (by kernel_rfl) (by kernel_rfl) (fun _ _ _ h => h) (Or.inl ⟨by rfl, ?y15⟩) (by assumption) ?_
  case y15 => (intro w hSw; (try dsimp only at hSw); go_simp; first | done | with_reducible rfl)
  try simp only [Act.put, List.setIfInBounds_toArray, List.set_cons_zero, List.set_cons_succ]
  refine wpAnyH_take (i := 7) (oi := { dst := some 15, op := Go.Op.pick (Go.Operand.tmp 10) (Go.Operand.const (Go.Value.bool true)) (Go.Operand.tmp 14), type := 4, pos := "l05_log.go:26", after := #[{ on := 2, ground := Go.Ground.data }, { on := 6, ground := Go.Ground.data }], guard := none }) (v := ?v16) rfl (by kernel_rfl) (by kernel_rfl) (by kernel_rfl) (fun _ _ _ h => h) (Or.inl ⟨by rfl, ?y16⟩) (by assumption) ?_
  case y16 => (intro w hSw; (try dsimp only at hSw); go_simp; first | done | with_reducible rfl)
  try simp only [Act.put, List.setIfInBounds_toArray, List.set_cons_zero, List.set_cons_succ]
  refine wpAnyH_take (i := 8) (oi := { dst := some 16, op := Go.Op.move (Go.Operand.tmp 15), type := 4, pos := "l05_log.go:26", after := #[{ on := 7, ground := Go.Ground.data }, { on := 2, ground := Go.Ground.chain }], guard := none }) (v := ?v17) rfl (by kernel_rfl) (by kernel_rfl) (by kernel_rfl) (fun _ _ _ h => h) (Or.inl ⟨by rfl, ?y17⟩) (by assumption) ?_
  case y17 => (intro w hSw; (try dsimp only at hSw); go_simp; first | done | with_reducible rfl)
  try simp only [Act.put, List.setIfInBounds_toArray, List.set_cons_zero, List.set_cons_succ]
  refine wpAnyH_take (i := 9) (oi := { dst := some 17, op := Go.Op.move (Go.Operand.tmp 0), type := 3, pos := "l05_log.go:26", after := #[{ on := 8, ground := Go.Ground.guard }], guard := some (8, false) }) (v := undef) rfl (by kernel_rfl) (by kernel_rfl) (by kernel_rfl) (fun _ _ _ h => h) (Or.inr ⟨by rfl, rfl⟩) (by assumption) ?_
  try simp only [Act.put, List.setIfInBounds_toArray, List.set_cons_zero, List.set_cons_succ]
  refine wpAnyH_take (i := 10) (oi := { dst := some 18, op := Go.Op.binOp Go.BinOp.gtr 3 (Go.Operand.tmp 17) (Go.Operand.const (Go.Value.int Go.IntKind.i64 0)) 3, type := 4, pos := "l05_log.go:26", after := #[{ on := 9, ground := Go.Ground.data }, { on := 8, ground := Go.Ground.guard }], guard := some (8, false) }) (v := undef) rfl (by kernel_rfl) (by kernel_rfl) (by kernel_rfl) (fun _ _ _ h => h) (Or.inr ⟨by rfl, rfl⟩) (by assumption) ?_
  try simp only [Act.put, List.setIfInBounds_toArray, List.set_cons_zero, List.set_cons_succ]
  refine wpAnyH_take (i := 11) (oi := { dst := some 19, op := Go.Op.move (Go.Operand.tmp 18), type := 4, pos := "l05_log.go:26", after := #[{ on := 10, ground := Go.Ground.data }, { on := 8, ground := Go.Ground.chain }, { on := 8, ground := Go.Ground.guard }], guard := some (8, false) }) (v := undef) rfl (by kernel_rfl) (by kernel_rfl) (by kernel_rfl) (fun _ _ _ h => h) (Or.inr ⟨by rfl, rfl⟩) (by assumption) ?_
  try simp only [Act.put, List.setIfInBounds_toArray, List.set_cons_zero, List.set_cons_succ]
  refine wpAnyH_take (i := 12) (oi := { dst := some 20, op := Go.Op.fieldAddr 91 (Go.Operand.tmp 5) 1, type := 0, pos := "l05_log.go:26", after := #[{ on := 11, ground := Go.Ground.guard }], guard := some (11, true) }) (v := undef) rfl (by kernel_rfl) (by kernel_rfl) (by kernel_rfl) (fun _ _ _ h => h) (Or.inr ⟨by rfl, rfl⟩) (by assumption) ?_
  try simp only [Act.put, List.setIfInBounds_toArray, List.set_cons_zero, List.set_cons_succ]
  refine wpAnyH_take (i := 13) (oi := { dst := some 21, op := Go.Op.load 3 (Go.Operand.tmp 20), type := 3, pos := "l05_log.go:26", after := #[{ on := 12, ground := Go.Ground.data }, { on := 11, ground := Go.Ground.guard }], guard := some (11, true) }) (v := undef) rfl (by kernel_rfl) (by kernel_rfl) (by kernel_rfl) (fun _ _ _ h => h) (Or.inr ⟨by rfl, rfl⟩) (by assumption) ?_
  try simp only [Act.put, List.setIfInBounds_toArray, List.set_cons_zero, List.set_cons_succ]
  refine wpAnyH_take (i := 14) (oi := { dst := some 22, op := Go.Op.load 66 (Go.Operand.tmp 3), type := 66, pos := "l05_log.go:26", after := #[{ on := 11, ground := Go.Ground.guard }], guard := some (11, true) }) (v := undef) rfl (by kernel_rfl) (by kernel_rfl) (by kernel_rfl) (fun _ _ _ h => h) (Or.inr ⟨by rfl, rfl⟩) (by assumption) ?_
  try simp only [Act.put, List.setIfInBounds_toArray, List.set_cons_zero, List.set_cons_succ]
  refine wpAnyH_take (i := 15) (oi := { dst := some 23, op := Go.Op.move (Go.Operand.tmp 0), type := 3, pos := "l05_log.go:26", after := #[{ on := 11, ground := Go.Ground.guard }], guard := some (11, true) }) (v := undef) rfl (by kernel_rfl) (by kernel_rfl) (by kernel_rfl) (fun _ _ _ h => h) (Or.inr ⟨by rfl, rfl⟩) (by assumption) ?_
  try simp only [Act.put, List.setIfInBounds_toArray, List.set_cons_zero, List.set_cons_succ]
  refine wpAnyH_take (i := 16) (oi := { dst := some 24, op := Go.Op.binOp Go.BinOp.sub 3 (Go.Operand.tmp 23) (Go.Operand.const (Go.Value.int Go.IntKind.i64 1)) 3, type := 3, pos := "l05_log.go:26", after := #[{ on := 15, ground := Go.Ground.data }, { on := 11, ground := Go.Ground.guard }], guard := some (11, true) }) (v := undef) rfl (by kernel_rfl) (by kernel_rfl) (by kernel_rfl) (fun _ _ _ h => h) (Or.inr ⟨by rfl, rfl⟩) (by assumption) ?_
  try simp only [Act.put, List.setIfInBounds_toArray, List.set_cons_zero, List.set_cons_succ]
  refine wpAnyH_take (i := 17) (oi := { dst := some 25, op := Go.Op.indexAddr 66 (Go.Operand.tmp 22) (Go.Operand.tmp 24), type := 0, pos := "l05_log.go:26", after := #[{ on := 14, ground := Go.Ground.data }, { on := 16, ground := Go.Ground.data }, { on := 11, ground := Go.Ground.guard }], guard := some (11, true) }) (v := undef) rfl (by kernel_rfl) (by kernel_rfl) (by kernel_rfl) (fun _ _ _ h => h) (Or.inr ⟨by rfl, rfl⟩) (by assumption) ?_
  try simp only [Act.put, List.setIfInBounds_toArray, List.set_cons_zero, List.set_cons_succ]
  refine wpAnyH_take (i := 18) (oi := { dst := some 26, op := Go.Op.fieldAddr 91 (Go.Operand.tmp 25) 1, type := 0, pos := "l05_log.go:26", after := #[{ on := 17, ground := Go.Ground.data }, { on := 11, ground := Go.Ground.guard }], guard := some (11, true) }) (v := undef) rfl (by kernel_rfl) (by kernel_rfl) (by kernel_rfl) (fun _ _ _ h => h) (Or.inr ⟨by rfl, rfl⟩) (by assumption) ?_
  try simp only [Act.put, List.setIfInBounds_toArray, List.set_cons_zero, List.set_cons_succ]
  refine wpAnyH_take (i := 19) (oi := { dst := some 27, op := Go.Op.load 3 (Go.Operand.tmp 26), type := 3, pos := "l05_log.go:26", after := #[{ on := 18, ground := Go.Ground.data }, { on := 11, ground := Go.Ground.guard }], guard := some (11, true) }) (v := undef) rfl (by kernel_rfl) (by kernel_rfl) (by kernel_rfl) (fun _ _ _ h => h) (Or.inr ⟨by rfl, rfl⟩) (by assumption) ?_
  try simp only [Act.put, List.setIfInBounds_toArray, List.set_cons_zero, List.set_cons_succ]
  refine wpAnyH_take (i := 20) (oi := { dst := some 28, op := Go.Op.binOp Go.BinOp.lss 3 (Go.Operand.tmp 21) (Go.Operand.tmp 27) 3, type := 4, pos := "l05_log.go:26", after := #[{ on := 13, ground := Go.Ground.data }, { on := 19, ground := Go.Ground.data }, { on := 11, ground := Go.Ground.guard }], guard := some (11, true) }) (v := undef) rfl (by kernel_rfl) (by kernel_rfl) (by kernel_rfl) (fun _ _ _ h => h) (Or.inr ⟨by rfl, rfl⟩) (by assumption) ?_
  try simp only [Act.put, List.setIfInBounds_toArray, List.set_cons_zero, List.set_cons_succ]
  refine wpAnyH_take (i := 21) (oi := { dst := some 29, op := Go.Op.pick (Go.Operand.tmp 19) (Go.Operand.tmp 28) (Go.Operand.const (Go.Value.bool false)), type := 4, pos := "l05_log.go:26", after := #[{ on := 11, ground := Go.Ground.data }, { on := 20, ground := Go.Ground.data }, { on := 8, ground := Go.Ground.guard }], guard := some (8, false) }) (v := undef) rfl (by kernel_rfl) (by kernel_rfl) (by kernel_rfl) (fun _ _ _ h => h) (Or.inr ⟨by rfl, rfl⟩) (by assumption) ?_
  try simp only [Act.put, List.setIfInBounds_toArray, List.set_cons_zero, List.set_cons_succ]
  refine wpAnyH_take (i := 22) (oi := { dst := some 30, op := Go.Op.pick (Go.Operand.tmp 16) (Go.Operand.const (Go.Value.bool true)) (Go.Operand.tmp 29), type := 4, pos := "l05_log.go:26", after := #[{ on := 8, ground := Go.Ground.data }, { on := 21, ground := Go.Ground.data }], guard := none }) (v := ?v18) rfl (by kernel_rfl) (by kernel_rfl) (by kernel_rfl) (fun _ _ _ h => h) (Or.inl ⟨by rfl, ?y18⟩) (by assumption) ?_
  case y18 => (intro w hSw; (try dsimp only at hSw); go_simp; first | done | with_reducible rfl)
  try simp only [Act.put, List.setIfInBounds_toArray, List.set_cons_zero, List.set_cons_succ]
  refine wpAnyH_done (by kernel_rfl) ?_ _
  go_wp2_with fail
  go_ret
  exact ⟨rfl, he2⟩
set_option maxHeartbeats 2000000 in
set_option maxRecDepth 100000 in
theorem impl_LogRead1_low (j : Nat) (p t : Int) (As : Option Addr) (m cs T : Nat) (Ar : Option Addr) (cr : Nat) (es : List Sc) (lo : Nat) (w0 w : World) (hT : w.cell? ⟨T, 0, none⟩ = some (.slice Ar (j + 1) cr)) (hk : j < 1048576) (hC : OwnSector w0 lo w0.heap.size Ar (j + 1) cr es) (he0 : Eff 0 0 w0 w) (ht : ∀ x, es[j]? = some x → x.ep = t) (hp : decide (p < t) = true) (i q : Int) (hi9 : i = (j : Int) + 1) (hq9 : q = (j : Int) + 1) :
    Calls Try.prog 71 #[.int .i64 (i : Int), .agg #[.int .i64 q, .int .i64 p, .slice As m cs], .bool true, .pointer (some ⟨T, 0, none⟩)] w fun e w' => e = .returned (.bool false) ∧ Eff 0 0 w w' := by
  obtain ⟨gb, ⟨xq, xp, xA, xn, xc, xl⟩, rfl, hg1, hg2, hx, hcell, hfr, hi⟩ := hC.outs Sc.hf (by omega) (i := j) (by omega)
  have hpc : w0.cell? ⟨gb, j * 3 + 1, none⟩ = some (.int .i64 xp) := hcell 1 _ rfl
  have hxp : xp = t := ht _ hx
  rw [hxp] at hpc
  clear hxp
  replace hpc := he0.cell hpc (.inr (Nat.zero_le _))
  have ew : IntKind.i64.wrap (j : Int) = (j : Int) := IntWalk.i64_in _ (by omega)
  have e2 : (0 : Int) ≤ (j : Int) := by omega
  have e3 : (j : Int) < ((j + 1 : Nat) : Int) := by omega
  have e4 : (j : Int) < (j : Int) + 1 := by omega
  have hk1 : decide (0 < j + 1) = true := by simp
  have hk2 : decide ((0 : Int) < (j : Int) + 1) = true := by first | (simp; done) | (simp; omega)
  clear hcell hx ht hi hfr
  subst hi9 hq9
  have hqq : (((j : Int) + 1) != ((j : Int) + 1)) = false := by simp
  go_enter Try.func71, Try.ntmps71
  go_wp2_with fail
  have he1 : Eff 0 0 w (w.alloc (.cells #[.int .i64 ((j : Int) + 1), .int .i64 p, .slice As m cs] 91)) := Eff.alloc _ _
  have s_0 : (w.alloc (.cells #[.int .i64 ((j : Int) + 1), .int .i64 p, .slice As m cs] 91)).cell? ⟨w.heap.size, 0, none⟩ = some (.int .i64 ((j : Int) + 1)) := var_cell _ _ _ _ _ rfl
  have s_1 : (w.alloc (.cells #[.int .i64 ((j : Int) + 1), .int .i64 p, .slice As m cs] 91)).cell? ⟨w.heap.size, 1, none⟩ = some (.int .i64 p) := var_cell _ _ _ _ _ rfl
  have s_2 : (w.alloc (.cells #[.int .i64 ((j : Int) + 1), .int .i64 p, .slice As m cs] 91)).cell? ⟨w.heap.size, 2, none⟩ = some (.slice As m cs) := var_cell _ _ _ _ _ rfl
  generalize (w.alloc (.cells #[.int .i64 ((j : Int) + 1), .int .i64 p, .slice As m cs] 91)) = v1 at *
  have hz1 : w.heap.size ≤ v1.heap.size := he1.size
  have he2 : Eff 0 0 w v1.drew := he1.drew
  have hz2 : w.heap.size ≤ v1.drew.heap.size := he2.size
  replace hT := he2.cell hT (.inr (Nat.zero_le _))
  replace hpc := he2.cell hpc (.inr (Nat.zero_le _))
  replace s_0 : v1.drew.cell? ⟨w.heap.size, 0, none⟩ = _ := s_0
  replace s_1 : v1.drew.cell? ⟨w.heap.size, 1, none⟩ = _ := s_1
  replace s_2 : v1.drew.cell? ⟨w.heap.size, 2, none⟩ = _ := s_2
  clear he1 hz1
  refine wp_region_held_drew (S := fun w' => w'.cell? ⟨w.heap.size, 0, none⟩ = some (.int .i64 ((j : Int) + 1)) ∧ w'.cell? ⟨w.heap.size, 1, none⟩ = some (.int .i64 p) ∧ w'.cell? ⟨T, 0, none⟩ = some (.slice (some ⟨gb, 0, none⟩) (j + 1) cr) ∧ w'.cell? ⟨gb, j * 3 + 1, none⟩ = some (.int .i64 t)) (by kernel_rfl) ?rg19 (fun hHeld => ?_)
  case rg19 => ((try dsimp only); (go_split_ands; (repeat' apply And.intro) <;> (first | with_reducible assumption)))
  generalize v1.drew = v0 at *
  refine wpAnyH_take (i := 0) (oi := { dst := some 8, op := Go.Op.move (Go.Operand.tmp 2), type := 4, pos := "l05_log.go:26", after := #[], guard := none }) (v := ?v20) rfl (by kernel_rfl) (by kernel_rfl) (by kernel_rfl) (fun _ _ _ h => h) (Or.inl ⟨by rfl, ?y20⟩) (by assumption) ?_
  case y20 => (intro w hSw; (try dsimp only at hSw); go_simp; first | done | with_reducible rfl)
  try simp only [Act.put, List.setIfInBounds_toArray, List.set_cons_zero, List.set_cons_succ]
  refine wpAnyH_take (i := 1) (oi := { dst := some 9, op := Go.Op.unOp Go.UnOp.not 4 (Go.Operand.tmp 8), type := 4, pos := "l05_log.go:26", after := #[{ on := 0, ground := Go.Ground.data }], guard := none }) (v := ?v21) rfl (by kernel_rfl) (by kernel_rfl) (by kernel_rfl) (fun _ _ _ h => h) (Or.inl ⟨by rfl, ?y21⟩) (by assumption) ?_
  case y21 => (intro w hSw; (try dsimp only at hSw); go_simp; first | done | with_reducible rfl)
  try simp only [Act.put, List.setIfInBounds_toArray, List.set_cons_zero, List.set_cons_succ]
  refine wpAnyH_take (i := 2) (oi := { dst := some 10, op := Go.Op.move (Go.Operand.tmp 9), type := 4, pos := "l05_log.go:26", after := #[{ on := 1, ground := Go.Ground.data }], guard := none }) (v := ?v22) rfl (by kernel_rfl) (by kernel_rfl) (by kernel_rfl) (fun _ _ _ h => h) (Or.inl ⟨by rfl, ?y22⟩) (by assumption) ?_
  case y22 => (intro w hSw; (try dsimp only at hSw); go_simp; first | done | with_reducible rfl)
  try simp only [Act.put, List.setIfInBounds_toArray, List.set_cons_zero, List.set_cons_succ]
  refine wpAnyH_take (i := 3) (oi := { dst := some 11, op := Go.Op.fieldAddr 91 (Go.Operand.tmp 5) 0, type := 0, pos := "l05_log.go:26", after := #[{ on := 2, ground := Go.Ground.guard }], guard := some (2, false) }) (v := ?v23) rfl (by kernel_rfl) (by kernel_rfl) (by kernel_rfl) (fun _ _ _ h => h) (Or.inl ⟨by rfl, ?y23⟩) (by assumption) ?_
  case y23 => (intro w hSw; (try dsimp only at hSw); go_simp; first | done | with_reducible rfl)
  try simp only [Act.put, List.setIfInBounds_toArray, List.set_cons_zero, List.set_cons_succ]
  refine wpAnyH_take (i := 4) (oi := { dst := some 12, op := Go.Op.load 3 (Go.Operand.tmp 11), type := 3, pos := "l05_log.go:26", after := #[{ on := 3, ground := Go.Ground.data }, { on := 2, ground := Go.Ground.guard }], guard := some (2, false) }) (v := ?v24) rfl (by kernel_rfl) (by kernel_rfl) (by kernel_rfl) (fun _ _ _ h => h) (Or.inl ⟨by rfl, ?y24⟩) (by assumption) ?_
  case y24 => (intro w hSw; (try dsimp only at hSw); go_simp; first | done | with_reducible rfl)
  try simp only [Act.put, List.setIfInBounds_toArray, List.set_cons_zero, List.set_cons_succ]
  refine wpAnyH_take (i := 5) (oi := { dst := some 13, op := Go.Op.move (Go.Operand.tmp 0), type := 3, pos := "l05_log.go:26", after := #[{ on := 2, ground := Go.Ground.guard }], guard := some (2, false) }) (v := ?v25) rfl (by kernel_rfl) (by kernel_rfl) (by kernel_rfl) (fun _ _ _ h => h) (Or.inl ⟨by rfl, ?y25⟩) (by assumption) ?_
  case y25 => (intro w hSw; (try dsimp only at hSw); go_simp; first | done | with_reducible rfl)
  try simp only [Act.put, List.setIfInBounds_toArray, List.set_cons_zero, List.set_cons_succ]
  refine wpAnyH_take (i := 6) (oi := { dst := some 14, op := Go.Op.binOp Go.BinOp.neq 3 (Go.Operand.tmp 12) (Go.Operand.tmp 13) 3, type := 4, pos := "l05_log.go:26", after := #[{ on := 4, ground := Go.Ground.data }, { on := 5, ground := Go.Ground.data }, { on := 2, ground := Go.Ground.guard }], guard := some (2, false) }) (v := ?v26) rfl (by kernel_rfl) (by kernel_rfl) (by kernel_rfl) (fun _ _ _ h => h) (Or.inl ⟨by rfl, ?y26⟩) (by assumption) ?_
  case y26 => (intro w hSw; (try dsimp only at hSw); go_simp; first | done | with_reducible rfl)
  try simp only [Act.put, List.setIfInBounds_toArray, List.set_cons_zero, List.set_cons_succ]
  refine wpAnyH_take (i := 7) (oi := { dst := some 15, op := Go.Op.pick (Go.Operand.tmp 10) (Go.Operand.const (Go.Value.bool true)) (Go.Operand.tmp 14), type := 4, pos := "l05_log.go:26", after := #[{ on := 2, ground := Go.Ground.data }, { on := 6, ground := Go.Ground.data }], guard := none }) (v := ?v27) rfl (by kernel_rfl) (by kernel_rfl) (by kernel_rfl) (fun _ _ _ h => h) (Or.inl ⟨by rfl, ?y27⟩) (by assumption) ?_
  case y27 => (intro w hSw; (try dsimp only at hSw); go_simp; first | done | with_reducible rfl)
  try simp only [Act.put, List.setIfInBounds_toArray, List.set_cons_zero, List.set_cons_succ]
  refine wpAnyH_take (i := 8) (oi := { dst := some 16, op := Go.Op.move (Go.Operand.tmp 15), type := 4, pos := "l05_log.go:26", after := #[{ on := 7, ground := Go.Ground.data }, { on := 2, ground := Go.Ground.chain }], guard := none }) (v := ?v28) rfl (by kernel_rfl) (by kernel_rfl) (by kernel_rfl) (fun _ _ _ h => h) (Or.inl ⟨by rfl, ?y28⟩) (by assumption) ?_
  case y28 => (intro w hSw; (try dsimp only at hSw); go_simp; first | done | with_reducible rfl)
  try simp only [Act.put, List.setIfInBounds_toArray, List.set_cons_zero, List.set_cons_succ]
  refine wpAnyH_take (i := 9) (oi := { dst := some 17, op := Go.Op.move (Go.Operand.tmp 0), type := 3, pos := "l05_log.go:26", after := #[{ on := 8, ground := Go.Ground.guard }], guard := some (8, false) }) (v := ?v29) rfl (by kernel_rfl) (by kernel_rfl) (by kernel_rfl) (fun _ _ _ h => h) (Or.inl ⟨by rfl, ?y29⟩) (by assumption) ?_
  case y29 => (intro w hSw; (try dsimp only at hSw); go_simp; first | done | with_reducible rfl)
  try simp only [Act.put, List.setIfInBounds_toArray, List.set_cons_zero, List.set_cons_succ]
  refine wpAnyH_take (i := 10) (oi := { dst := some 18, op := Go.Op.binOp Go.BinOp.gtr 3 (Go.Operand.tmp 17) (Go.Operand.const (Go.Value.int Go.IntKind.i64 0)) 3, type := 4, pos := "l05_log.go:26", after := #[{ on := 9, ground := Go.Ground.data }, { on := 8, ground := Go.Ground.guard }], guard := some (8, false) }) (v := ?v30) rfl (by kernel_rfl) (by kernel_rfl) (by kernel_rfl) (fun _ _ _ h => h) (Or.inl ⟨by rfl, ?y30⟩) (by assumption) ?_
  case y30 => (intro w hSw; (try dsimp only at hSw); go_simp; first | done | with_reducible rfl)
  try simp only [Act.put, List.setIfInBounds_toArray, List.set_cons_zero, List.set_cons_succ]
  refine wpAnyH_take (i := 11) (oi := { dst := some 19, op := Go.Op.move (Go.Operand.tmp 18), type := 4, pos := "l05_log.go:26", after := #[{ on := 10, ground := Go.Ground.data }, { on := 8, ground := Go.Ground.chain }, { on := 8, ground := Go.Ground.guard }], guard := some (8, false) }) (v := ?v31) rfl (by kernel_rfl) (by kernel_rfl) (by kernel_rfl) (fun _ _ _ h => h) (Or.inl ⟨by rfl, ?y31⟩) (by assumption) ?_
  case y31 => (intro w hSw; (try dsimp only at hSw); go_simp; first | done | with_reducible rfl)
  try simp only [Act.put, List.setIfInBounds_toArray, List.set_cons_zero, List.set_cons_succ]
  refine wpAnyH_take (i := 12) (oi := { dst := some 20, op := Go.Op.fieldAddr 91 (Go.Operand.tmp 5) 1, type := 0, pos := "l05_log.go:26", after := #[{ on := 11, ground := Go.Ground.guard }], guard := some (11, true) }) (v := ?v32) rfl (by kernel_rfl) (by kernel_rfl) (by kernel_rfl) (fun _ _ _ h => h) (Or.inl ⟨by rfl, ?y32⟩) (by assumption) ?_
  case y32 => (intro w hSw; (try dsimp only at hSw); go_simp; first | done | with_reducible rfl)
  try simp only [Act.put, List.setIfInBounds_toArray, List.set_cons_zero, List.set_cons_succ]
  refine wpAnyH_take (i := 13) (oi := { dst := some 21, op := Go.Op.load 3 (Go.Operand.tmp 20), type := 3, pos := "l05_log.go:26", after := #[{ on := 12, ground := Go.Ground.data }, { on := 11, ground := Go.Ground.guard }], guard := some (11, true) }) (v := ?v33) rfl (by kernel_rfl) (by kernel_rfl) (by kernel_rfl) (fun _ _ _ h => h) (Or.inl ⟨by rfl, ?y33⟩) (by assumption) ?_
  case y33 => (intro w hSw; (try dsimp only at hSw); go_simp; first | done | with_reducible rfl)
  try simp only [Act.put, List.setIfInBounds_toArray, List.set_cons_zero, List.set_cons_succ]
  refine wpAnyH_take (i := 14) (oi := { dst := some 22, op := Go.Op.load 66 (Go.Operand.tmp 3), type := 66, pos := "l05_log.go:26", after := #[{ on := 11, ground := Go.Ground.guard }], guard := some (11, true) }) (v := ?v34) rfl (by kernel_rfl) (by kernel_rfl) (by kernel_rfl) (fun _ _ _ h => h) (Or.inl ⟨by rfl, ?y34⟩) (by assumption) ?_
  case y34 => (intro w hSw; (try dsimp only at hSw); go_simp; first | done | with_reducible rfl)
  try simp only [Act.put, List.setIfInBounds_toArray, List.set_cons_zero, List.set_cons_succ]
  refine wpAnyH_take (i := 15) (oi := { dst := some 23, op := Go.Op.move (Go.Operand.tmp 0), type := 3, pos := "l05_log.go:26", after := #[{ on := 11, ground := Go.Ground.guard }], guard := some (11, true) }) (v := ?v35) rfl (by kernel_rfl) (by kernel_rfl) (by kernel_rfl) (fun _ _ _ h => h) (Or.inl ⟨by rfl, ?y35⟩) (by assumption) ?_
  case y35 => (intro w hSw; (try dsimp only at hSw); go_simp; first | done | with_reducible rfl)
  try simp only [Act.put, List.setIfInBounds_toArray, List.set_cons_zero, List.set_cons_succ]
  refine wpAnyH_take (i := 16) (oi := { dst := some 24, op := Go.Op.binOp Go.BinOp.sub 3 (Go.Operand.tmp 23) (Go.Operand.const (Go.Value.int Go.IntKind.i64 1)) 3, type := 3, pos := "l05_log.go:26", after := #[{ on := 15, ground := Go.Ground.data }, { on := 11, ground := Go.Ground.guard }], guard := some (11, true) }) (v := ?v36) rfl (by kernel_rfl) (by kernel_rfl) (by kernel_rfl) (fun _ _ _ h => h) (Or.inl ⟨by rfl, ?y36⟩) (by assumption) ?_
  case y36 => (intro w hSw; (try dsimp only at hSw); go_simp; first | done | with_reducible rfl)
  try simp only [Act.put, List.setIfInBounds_toArray, List.set_cons_zero, List.set_cons_succ]
  refine wpAnyH_take (i := 17) (oi := { dst := some 25, op := Go.Op.indexAddr 66 (Go.Operand.tmp 22) (Go.Operand.tmp 24), type := 0, pos := "l05_log.go:26", after := #[{ on := 14, ground := Go.Ground.data }, { on := 16, ground := Go.Ground.data }, { on := 11, ground := Go.Ground.guard }], guard := some (11, true) }) (v := ?v37) rfl (by kernel_rfl) (by kernel_rfl) (by kernel_rfl) (fun _ _ _ h => h) (Or.inl ⟨by rfl, ?y37⟩) (by assumption) ?_
  case y37 => (intro w hSw; (try dsimp only at hSw); go_simp; first | done | with_reducible rfl)
  try simp only [Act.put, List.setIfInBounds_toArray, List.set_cons_zero, List.set_cons_succ]
  refine wpAnyH_take (i := 18) (oi := { dst := some 26, op := Go.Op.fieldAddr 91 (Go.Operand.tmp 25) 1, type := 0, pos := "l05_log.go:26", after := #[{ on := 17, ground := Go.Ground.data }, { on := 11, ground := Go.Ground.guard }], guard := some (11, true) }) (v := ?v38) rfl (by kernel_rfl) (by kernel_rfl) (by kernel_rfl) (fun _ _ _ h => h) (Or.inl ⟨by rfl, ?y38⟩) (by assumption) ?_
  case y38 => (intro w hSw; (try dsimp only at hSw); go_simp; first | done | with_reducible rfl)
  try simp only [Act.put, List.setIfInBounds_toArray, List.set_cons_zero, List.set_cons_succ]
  refine wpAnyH_take (i := 19) (oi := { dst := some 27, op := Go.Op.load 3 (Go.Operand.tmp 26), type := 3, pos := "l05_log.go:26", after := #[{ on := 18, ground := Go.Ground.data }, { on := 11, ground := Go.Ground.guard }], guard := some (11, true) }) (v := ?v39) rfl (by kernel_rfl) (by kernel_rfl) (by kernel_rfl) (fun _ _ _ h => h) (Or.inl ⟨by rfl, ?y39⟩) (by assumption) ?_
  case y39 => (intro w hSw; (try dsimp only at hSw); go_simp; first | done | with_reducible rfl)
  try simp only [Act.put, List.setIfInBounds_toArray, List.set_cons_zero, List.set_cons_succ]
  refine wpAnyH_take (i := 20) (oi := { dst := some 28, op := Go.Op.binOp Go.BinOp.lss 3 (Go.Operand.tmp 21) (Go.Operand.tmp 27) 3, type := 4, pos := "l05_log.go:26", after := #[{ on := 13, ground := Go.Ground.data }, { on := 19, ground := Go.Ground.data }, { on := 11, ground := Go.Ground.guard }], guard := some (11, true) }) (v := ?v40) rfl (by kernel_rfl) (by kernel_rfl) (by kernel_rfl) (fun _ _ _ h => h) (Or.inl ⟨by rfl, ?y40⟩) (by assumption) ?_
  case y40 => (intro w hSw; (try dsimp only at hSw); go_simp; first | done | with_reducible rfl)
  try simp only [Act.put, List.setIfInBounds_toArray, List.set_cons_zero, List.set_cons_succ]
  refine wpAnyH_take (i := 21) (oi := { dst := some 29, op := Go.Op.pick (Go.Operand.tmp 19) (Go.Operand.tmp 28) (Go.Operand.const (Go.Value.bool false)), type := 4, pos := "l05_log.go:26", after := #[{ on := 11, ground := Go.Ground.data }, { on := 20, ground := Go.Ground.data }, { on := 8, ground := Go.Ground.guard }], guard := some (8, false) }) (v := ?v41) rfl (by kernel_rfl) (by kernel_rfl) (by kernel_rfl) (fun _ _ _ h => h) (Or.inl ⟨by rfl, ?y41⟩) (by assumption) ?_
  case y41 => (intro w hSw; (try dsimp only at hSw); go_simp; first | done | with_reducible rfl)
  try simp only [Act.put, List.setIfInBounds_toArray, List.set_cons_zero, List.set_cons_succ]
  refine wpAnyH_take (i := 22) (oi := { dst := some 30, op := Go.Op.pick (Go.Operand.tmp 16) (Go.Operand.const (Go.Value.bool true)) (Go.Operand.tmp 29), type := 4, pos := "l05_log.go:26", after := #[{ on := 8, ground := Go.Ground.data }, { on := 21, ground := Go.Ground.data }], guard := none }) (v := ?v42) rfl (by kernel_rfl) (by kernel_rfl) (by kernel_rfl) (fun _ _ _ h => h) (Or.inl ⟨by rfl, ?y42⟩) (by assumption) ?_
  case y42 => (intro w hSw; (try dsimp only at hSw); go_simp; first | done | with_reducible rfl)
  try simp only [Act.put, List.setIfInBounds_toArray, List.set_cons_zero, List.set_cons_succ]
  refine wpAnyH_done (by kernel_rfl) ?_ _
  go_wp2_with fail
  go_ret
  exact ⟨rfl, he2⟩
set_option maxHeartbeats 2000000 in
set_option maxRecDepth 100000 in
theorem impl_LogRead1_yes0 (p : Int) (As : Option Addr) (m cs T : Nat) (Ar : Option Addr) (cr : Nat) (es : List Sc) (lo : Nat) (w0 w : World) (B : List UInt8) (hT : w.cell? ⟨T, 0, none⟩ = some (.slice Ar 0 cr)) (hf : w.frozen? ⟨T, 0, none⟩ = false) (hTl : T < lo) (hC : OwnSector w0 lo w0.heap.size Ar 0 cr es) (he0 : Eff 0 0 w0 w) (s : OwnB w w0.heap.size w.heap.size As m cs B) :
    Calls Try.prog 71 #[.int .i64 (0 : Int), .agg #[.int .i64 0, .int .i64 p, .slice As m cs], .bool true, .pointer (some ⟨T, 0, none⟩)] w fun e w' => e = .returned (.bool true) ∧ ∃ A2 c2 wm, w' = wm.setCell ⟨T, 0, none⟩ (.slice A2 (0 + 1) c2) ∧ Eff lo w0.heap.size w wm ∧ OwnSector wm lo wm.heap.size A2 (0 + 1) c2 (es ++ [⟨(0 : Int), p, As, m, cs, B⟩]) := by
  obtain ⟨i0, hi0, hj0, hj1, hj2⟩ := info_parts info_Sector
  have hT0 := hT
  have hw0 := he0.size
  have hlo := hC.lohi
  obtain ⟨ta, tb, htt, hta, htab, htb, htq⟩ := Own.tight hC.row hC.lohi
  have HTQ := Lib.hid htq
  clear htq
  replace htt := Own.keep htt he0 (by omega)
  go_enter Try.func71, Try.ntmps71
  go_wp2_with fail
  have he1 : Eff 0 0 w (w.alloc (.cells #[.int .i64 (0 : Int), .int .i64 p, .slice As m cs] 91)) := Eff.alloc _ _
  have s_0 : (w.alloc (.cells #[.int .i64 (0 : Int), .int .i64 p, .slice As m cs] 91)).cell? ⟨w.heap.size, 0, none⟩ = some (.int .i64 (0 : Int)) := var_cell _ _ _ _ _ rfl
  have s_1 : (w.alloc (.cells #[.int .i64 (0 : Int), .int .i64 p, .slice As m cs] 91)).cell? ⟨w.heap.size, 1, none⟩ = some (.int .i64 p) := var_cell _ _ _ _ _ rfl
  have s_2 : (w.alloc (.cells #[.int .i64 (0 : Int), .int .i64 p, .slice As m cs] 91)).cell? ⟨w.heap.size, 2, none⟩ = some (.slice As m cs) := var_cell _ _ _ _ _ rfl
  generalize (w.alloc (.cells #[.int .i64 (0 : Int), .int .i64 p, .slice As m cs] 91)) = v1 at *
  have hz1 : w.heap.size ≤ v1.heap.size := he1.size
  have he2 : Eff 0 0 w v1.drew := he1.drew
  have hz2 : w.heap.size ≤ v1.drew.heap.size := he2.size
  replace hT := he2.cell hT (.inr (Nat.zero_le _))
  replace hf := (he2.frozen hT0 (.inr (Nat.zero_le _))).trans hf
  replace htt := Own.keep htt he2 (by omega)
  replace s_0 : v1.drew.cell? ⟨w.heap.size, 0, none⟩ = _ := s_0
  replace s_1 : v1.drew.cell? ⟨w.heap.size, 1, none⟩ = _ := s_1
  replace s_2 : v1.drew.cell? ⟨w.heap.size, 2, none⟩ = _ := s_2
  clear he1 hz1
  refine wp_region_held_drew (S := fun w' => w'.cell? ⟨w.heap.size, 0, none⟩ = some (.int .i64 (0 : Int)) ∧ w'.cell? ⟨w.heap.size, 1, none⟩ = some (.int .i64 p)) (by kernel_rfl) ?rg43 (fun hHeld => ?_)
  case rg43 => ((try dsimp only); (go_split_ands; (repeat' apply And.intro) <;> (first | with_reducible assumption)))
  generalize v1.drew = v0 at *
  refine wpAnyH_take (i := 0) (oi := { dst := some 8, op := Go.Op.move (Go.Operand.tmp 2), type := 4, pos := "l05_log.go:26", after := #[], guard := none }) (v := ?v44) rfl (by kernel_rfl) (by kernel_rfl) (by kernel_rfl) (fun _ _ _ h => h) (Or.inl ⟨by rfl, ?y44⟩) (by assumption) ?_
  case y44 => (intro w hSw; (try dsimp only at hSw); go_simp; first | done | with_reducible rfl)
  try simp only [Act.put, List.setIfInBounds_toArray, List.set_cons_zero, List.set_cons_succ]
  refine wpAnyH_take (i := 1) (oi := { dst := some 9, op := Go.Op.unOp Go.UnOp.not 4 (Go.Operand.tmp 8), type := 4, pos := "l05_log.go:26", after := #[{ on := 0, ground := Go.Ground.data }], guard := none }) (v := ?v45) rfl (by kernel_rfl) (by kernel_rfl) (by kernel_rfl) (fun _ _ _ h => h) (Or.inl ⟨by rfl, ?y45⟩) (by assumption) ?_
  case y45 => (intro w hSw; (try dsimp only at hSw); go_simp; first | done | with_reducible rfl)
  try simp only [Act.put, List.setIfInBounds_toArray, List.set_cons_zero, List.set_cons_succ]
  refine wpAnyH_take (i := 2) (oi := { dst := some 10, op := Go.Op.move (Go.Operand.tmp 9), type := 4, pos := "l05_log.go:26", after := #[{ on := 1, ground := Go.Ground.data }], guard := none }) (v := ?v46) rfl (by kernel_rfl) (by kernel_rfl) (by kernel_rfl) (fun _ _ _ h => h) (Or.inl ⟨by rfl, ?y46⟩) (by assumption) ?_
  case y46 => (intro w hSw; (try dsimp only at hSw); go_simp; first | done | with_reducible rfl)
  try simp only [Act.put, List.setIfInBounds_toArray, List.set_cons_zero, List.set_cons_succ]
  refine wpAnyH_take (i := 3) (oi := { dst := some 11, op := Go.Op.fieldAddr 91 (Go.Operand.tmp 5) 0, type := 0, pos := "l05_log.go:26", after := #[{ on := 2, ground := Go.Ground.guard }], guard := some (2, false) }) (v := ?v47) rfl (by kernel_rfl) (by kernel_rfl) (by kernel_rfl) (fun _ _ _ h => h) (Or.inl ⟨by rfl, ?y47⟩) (by assumption) ?_
  case y47 => (intro w hSw; (try dsimp only at hSw); go_simp; first | done | with_reducible rfl)
  try simp only [Act.put, List.setIfInBounds_toArray, List.set_cons_zero, List.set_cons_succ]
  refine wpAnyH_take (i := 4) (oi := { dst := some 12, op := Go.Op.load 3 (Go.Operand.tmp 11), type := 3, pos := "l05_log.go:26", after := #[{ on := 3, ground := Go.Ground.data }, { on := 2, ground := Go.Ground.guard }], guard := some (2, false) }) (v := ?v48) rfl (by kernel_rfl) (by kernel_rfl) (by kernel_rfl) (fun _ _ _ h => h) (Or.inl ⟨by rfl, ?y48⟩) (by assumption) ?_
  case y48 => (intro w hSw; (try dsimp only at hSw); go_simp; first | done | with_reducible rfl)
  try simp only [Act.put, List.setIfInBounds_toArray, List.set_cons_zero, List.set_cons_succ]
  refine wpAnyH_take (i := 5) (oi := { dst := some 13, op := Go.Op.move (Go.Operand.tmp 0), type := 3, pos := "l05_log.go:26", after := #[{ on := 2, ground := Go.Ground.guard }], guard := some (2, false) }) (v := ?v49) rfl (by kernel_rfl) (by kernel_rfl) (by kernel_rfl) (fun _ _ _ h => h) (Or.inl ⟨by rfl, ?y49⟩) (by assumption) ?_
  case y49 => (intro w hSw; (try dsimp only at hSw); go_simp; first | done | with_reducible rfl)
  try simp only [Act.put, List.setIfInBounds_toArray, List.set_cons_zero, List.set_cons_succ]
  refine wpAnyH_take (i := 6) (oi := { dst := some 14, op := Go.Op.binOp Go.BinOp.neq 3 (Go.Operand.tmp 12) (Go.Operand.tmp 13) 3, type := 4, pos := "l05_log.go:26", after := #[{ on := 4, ground := Go.Ground.data }, { on := 5, ground := Go.Ground.data }, { on := 2, ground := Go.Ground.guard }], guard := some (2, false) }) (v := ?v50) rfl (by kernel_rfl) (by kernel_rfl) (by kernel_rfl) (fun _ _ _ h => h) (Or.inl ⟨by rfl, ?y50⟩) (by assumption) ?_
  case y50 => (intro w hSw; (try dsimp only at hSw); go_simp; first | done | with_reducible rfl)
  try simp only [Act.put, List.setIfInBounds_toArray, List.set_cons_zero, List.set_cons_succ]
  refine wpAnyH_take (i := 7) (oi := { dst := some 15, op := Go.Op.pick (Go.Operand.tmp 10) (Go.Operand.const (Go.Value.bool true)) (Go.Operand.tmp 14), type := 4, pos := "l05_log.go:26", after := #[{ on := 2, ground := Go.Ground.data }, { on := 6, ground := Go.Ground.data }], guard := none }) (v := ?v51) rfl (by kernel_rfl) (by kernel_rfl) (by kernel_rfl) (fun _ _ _ h => h) (Or.inl ⟨by rfl, ?y51⟩) (by assumption) ?_
  case y51 => (intro w hSw; (try dsimp only at hSw); go_simp; first | done | with_reducible rfl)
  try simp only [Act.put, List.setIfInBounds_toArray, List.set_cons_zero, List.set_cons_succ]
  refine wpAnyH_take (i := 8) (oi := { dst := some 16, op := Go.Op.move (Go.Operand.tmp 15), type := 4, pos := "l05_log.go:26", after := #[{ on := 7, ground := Go.Ground.data }, { on := 2, ground := Go.Ground.chain }], guard := none }) (v := ?v52) rfl (by kernel_rfl) (by kernel_rfl) (by kernel_rfl) (fun _ _ _ h => h) (Or.inl ⟨by rfl, ?y52⟩) (by assumption) ?_
  case y52 => (intro w hSw; (try dsimp only at hSw); go_simp; first | done | with_reducible rfl)
  try simp only [Act.put, List.setIfInBounds_toArray, List.set_cons_zero, List.set_cons_succ]
  refine wpAnyH_take (i := 9) (oi := { dst := some 17, op := Go.Op.move (Go.Operand.tmp 0), type := 3, pos := "l05_log.go:26", after := #[{ on := 8, ground := Go.Ground.guard }], guard := some (8, false) }) (v := ?v53) rfl (by kernel_rfl) (by kernel_rfl) (by kernel_rfl) (fun _ _ _ h => h) (Or.inl ⟨by rfl, ?y53⟩) (by assumption) ?_
  case y53 => (intro w hSw; (try dsimp only at hSw); go_simp; first | done | with_reducible rfl)
  try simp only [Act.put, List.setIfInBounds_toArray, List.set_cons_zero, List.set_cons_succ]
  refine wpAnyH_take (i := 10) (oi := { dst := some 18, op := Go.Op.binOp Go.BinOp.gtr 3 (Go.Operand.tmp 17) (Go.Operand.const (Go.Value.int Go.IntKind.i64 0)) 3, type := 4, pos := "l05_log.go:26", after := #[{ on := 9, ground := Go.Ground.data }, { on := 8, ground := Go.Ground.guard }], guard := some (8, false) }) (v := ?v54) rfl (by kernel_rfl) (by kernel_rfl) (by kernel_rfl) (fun _ _ _ h => h) (Or.inl ⟨by rfl, ?y54⟩) (by assumption) ?_
  case y54 => (intro w hSw; (try dsimp only at hSw); go_simp; first | done | with_reducible rfl)
  try simp only [Act.put, List.setIfInBounds_toArray, List.set_cons_zero, List.set_cons_succ]
  refine wpAnyH_take (i := 11) (oi := { dst := some 19, op := Go.Op.move (Go.Operand.tmp 18), type := 4, pos := "l05_log.go:26", after := #[{ on := 10, ground := Go.Ground.data }, { on := 8, ground := Go.Ground.chain }, { on := 8, ground := Go.Ground.guard }], guard := some (8, false) }) (v := ?v55) rfl (by kernel_rfl) (by kernel_rfl) (by kernel_rfl) (fun _ _ _ h => h) (Or.inl ⟨by rfl, ?y55⟩) (by assumption) ?_
  case y55 => (intro w hSw; (try dsimp only at hSw); go_simp; first | done | with_reducible rfl)
  try simp only [Act.put, List.setIfInBounds_toArray, List.set_cons_zero, List.set_cons_succ]
  refine wpAnyH_take (i := 12) (oi := { dst := some 20, op := Go.Op.fieldAddr 91 (Go.Operand.tmp 5) 1, type := 0, pos := "l05_log.go:26", after := #[{ on := 11, ground := Go.Ground.guard }], guard := some (11, true) }) (v := undef) rfl (by kernel_rfl) (by kernel_rfl) (by kernel_rfl) (fun _ _ _ h => h) (Or.inr ⟨by rfl, rfl⟩) (by assumption) ?_
  try simp only [Act.put, List.setIfInBounds_toArray, List.set_cons_zero, List.set_cons_succ]
  refine wpAnyH_take (i := 13) (oi := { dst := some 21, op := Go.Op.load 3 (Go.Operand.tmp 20), type := 3, pos := "l05_log.go:26", after := #[{ on := 12, ground := Go.Ground.data }, { on := 11, ground := Go.Ground.guard }], guard := some (11, true) }) (v := undef) rfl (by kernel_rfl) (by kernel_rfl) (by kernel_rfl) (fun _ _ _ h => h) (Or.inr ⟨by rfl, rfl⟩) (by assumption) ?_
  try simp only [Act.put, List.setIfInBounds_toArray, List.set_cons_zero, List.set_cons_succ]
  refine wpAnyH_take (i := 14) (oi := { dst := some 22, op := Go.Op.load 66 (Go.Operand.tmp 3), type := 66, pos := "l05_log.go:26", after := #[{ on := 11, ground := Go.Ground.guard }], guard := some (11, true) }) (v := undef) rfl (by kernel_rfl) (by kernel_rfl) (by kernel_rfl) (fun _ _ _ h => h) (Or.inr ⟨by rfl, rfl⟩) (by assumption) ?_
  try simp only [Act.put, List.setIfInBounds_toArray, List.set_cons_zero, List.set_cons_succ]
  refine wpAnyH_take (i := 15) (oi := { dst := some 23, op := Go.Op.move (Go.Operand.tmp 0), type := 3, pos := "l05_log.go:26", after := #[{ on := 11, ground := Go.Ground.guard }], guard := some (11, true) }) (v := undef) rfl (by kernel_rfl) (by kernel_rfl) (by kernel_rfl) (fun _ _ _ h => h) (Or.inr ⟨by rfl, rfl⟩) (by assumption) ?_
  try simp only [Act.put, List.setIfInBounds_toArray, List.set_cons_zero, List.set_cons_succ]
  refine wpAnyH_take (i := 16) (oi := { dst := some 24, op := Go.Op.binOp Go.BinOp.sub 3 (Go.Operand.tmp 23) (Go.Operand.const (Go.Value.int Go.IntKind.i64 1)) 3, type := 3, pos := "l05_log.go:26", after := #[{ on := 15, ground := Go.Ground.data }, { on := 11, ground := Go.Ground.guard }], guard := some (11, true) }) (v := undef) rfl (by kernel_rfl) (by kernel_rfl) (by kernel_rfl) (fun _ _ _ h => h) (Or.inr ⟨by rfl, rfl⟩) (by assumption) ?_
  try simp only [Act.put, List.setIfInBounds_toArray, List.set_cons_zero, List.set_cons_succ]
  refine wpAnyH_take (i := 17) (oi := { dst := some 25, op := Go.Op.indexAddr 66 (Go.Operand.tmp 22) (Go.Operand.tmp 24), type := 0, pos := "l05_log.go:26", after := #[{ on := 14, ground := Go.Ground.data }, { on := 16, ground := Go.Ground.data }, { on := 11, ground := Go.Ground.guard }], guard := some (11, true) }) (v := undef) rfl (by kernel_rfl) (by kernel_rfl) (by kernel_rfl) (fun _ _ _ h => h) (Or.inr ⟨by rfl, rfl⟩) (by assumption) ?_
  try simp only [Act.put, List.setIfInBounds_toArray, List.set_cons_zero, List.set_cons_succ]
  refine wpAnyH_take (i := 18) (oi := { dst := some 26, op := Go.Op.fieldAddr 91 (Go.Operand.tmp 25) 1, type := 0, pos := "l05_log.go:26", after := #[{ on := 17, ground := Go.Ground.data }, { on := 11, ground := Go.Ground.guard }], guard := some (11, true) }) (v := undef) rfl (by kernel_rfl) (by kernel_rfl) (by kernel_rfl) (fun _ _ _ h => h) (Or.inr ⟨by rfl, rfl⟩) (by assumption) ?_
  try simp only [Act.put, List.setIfInBounds_toArray, List.set_cons_zero, List.set_cons_succ]
  refine wpAnyH_take (i := 19) (oi := { dst := some 27, op := Go.Op.load 3 (Go.Operand.tmp 26), type := 3, pos := "l05_log.go:26", after := #[{ on := 18, ground := Go.Ground.data }, { on := 11, ground := Go.Ground.guard }], guard := some (11, true) }) (v := undef) rfl (by kernel_rfl) (by kernel_rfl) (by kernel_rfl) (fun _ _ _ h => h) (Or.inr ⟨by rfl, rfl⟩) (by assumption) ?_
  try simp only [Act.put, List.setIfInBounds_toArray, List.set_cons_zero, List.set_cons_succ]
  refine wpAnyH_take (i := 20) (oi := { dst := some 28, op := Go.Op.binOp Go.BinOp.lss 3 (Go.Operand.tmp 21) (Go.Operand.tmp 27) 3, type := 4, pos := "l05_log.go:26", after := #[{ on := 13, ground := Go.Ground.data }, { on := 19, ground := Go.Ground.data }, { on := 11, ground := Go.Ground.guard }], guard := some (11, true) }) (v := undef) rfl (by kernel_rfl) (by kernel_rfl) (by kernel_rfl) (fun _ _ _ h => h) (Or.inr ⟨by rfl, rfl⟩) (by assumption) ?_
  try simp only [Act.put, List.setIfInBounds_toArray, List.set_cons_zero, List.set_cons_succ]
  refine wpAnyH_take (i := 21) (oi := { dst := some 29, op := Go.Op.pick (Go.Operand.tmp 19) (Go.Operand.tmp 28) (Go.Operand.const (Go.Value.bool false)), type := 4, pos := "l05_log.go:26", after := #[{ on := 11, ground := Go.Ground.data }, { on := 20, ground := Go.Ground.data }, { on := 8, ground := Go.Ground.guard }], guard := some (8, false) }) (v := ?v56) rfl (by kernel_rfl) (by kernel_rfl) (by kernel_rfl) (fun _ _ _ h => h) (Or.inl ⟨by rfl, ?y56⟩) (by assumption) ?_
  case y56 => (intro w hSw; (try dsimp only at hSw); go_simp; first | done | with_reducible rfl)
  try simp only [Act.put, List.setIfInBounds_toArray, List.set_cons_zero, List.set_cons_succ]
  refine wpAnyH_take (i := 22) (oi := { dst := some 30, op := Go.Op.pick (Go.Operand.tmp 16) (Go.Operand.const (Go.Value.bool true)) (Go.Operand.tmp 29), type := 4, pos := "l05_log.go:26", after := #[{ on := 8, ground := Go.Ground.data }, { on := 21, ground := Go.Ground.data }], guard := none }) (v := ?v57) rfl (by kernel_rfl) (by kernel_rfl) (by kernel_rfl) (fun _ _ _ h => h) (Or.inl ⟨by rfl, ?y57⟩) (by assumption) ?_
  case y57 => (intro w hSw; (try dsimp only at hSw); go_simp; first | done | with_reducible rfl)
  try simp only [Act.put, List.setIfInBounds_toArray, List.set_cons_zero, List.set_cons_succ]
  refine wpAnyH_done (by kernel_rfl) ?_ _
  go_wp2_with (at_builtin; refine wpList_app _ rfl _ _ 66 rfl 91 i0 (.agg #[.int .i64 0, .int .i64 0, .slice none 0 0]) 3 40 Try.underlying66 hi0 hj0 hj1 hj2 rfl (by omega) rfl (Own.alloc htt _) 1 rfl (rd_row3 v0 [.int .i64 (0 : Int), .int .i64 p, .slice As m cs] 91) (one3s _ _ _ _ _) (by unfold maxLen; omega) (by omega) (by simp; omega) ?_; intro A2 c2 w8 hO hE hK2; have hT8 := hE.cell ((Eff.alloc _ _).cell hT (.inr (Nat.zero_le _))) (.inl (by simp only; omega)); have hf8 := (hE.frozen ((Eff.alloc _ _).cell hT (.inr (Nat.zero_le _))) (.inl (by simp only; omega))).trans (((Eff.alloc _ _).frozen hT (.inr (Nat.zero_le _))).trans hf))
  go_ret
  exact ⟨rfl, A2, c2, w8, rfl, (((he2.anyD).trans ((Eff.alloc _ _).anyD)).trans (hE.wide hta htb)), hC.snoc (y := ⟨(0 : Int), p, As, m, cs, B⟩) he0 s hta HTQ.out (he2.trans (Eff.alloc _ _)) hO hE hK2⟩
set_option maxHeartbeats 2000000 in
set_option maxRecDepth 100000 in
theorem impl_LogRead1_yes1 (j : Nat) (p t : Int) (As : Option Addr) (m cs T : Nat) (Ar : Option Addr) (cr : Nat) (es : List Sc) (lo : Nat) (w0 w : World) (B : List UInt8) (hT : w.cell? ⟨T, 0, none⟩ = some (.slice Ar (j + 1) cr)) (hf : w.frozen? ⟨T, 0, none⟩ = false) (hTl : T < lo) (hk : j + 1 < 1048576) (hC : OwnSector w0 lo w0.heap.size Ar (j + 1) cr es) (he0 : Eff 0 0 w0 w) (s : OwnB w w0.heap.size w.heap.size As m cs B) (ht : ∀ x, es[j]? = some x → x.ep = t) (hp : decide (p < t) = false) (i q : Int) (hi9 : i = (j : Int) + 1) (hq9 : q = (j : Int) + 1) :
    Calls Try.prog 71 #[.int .i64 (i : Int), .agg #[.int .i64 q, .int .i64 p, .slice As m cs], .bool true, .pointer (some ⟨T, 0, none⟩)] w fun e w' => e = .returned (.bool true) ∧ ∃ A2 c2 wm, w' = wm.setCell ⟨T, 0, none⟩ (.slice A2 ((j + 1) + 1) c2) ∧ Eff lo w0.heap.size w wm ∧ OwnSector wm lo wm.heap.size A2 ((j + 1) + 1) c2 (es ++ [⟨(((j : Int) + 1) : Int), p, As, m, cs, B⟩]) := by
  obtain ⟨i0, hi0, hj0, hj1, hj2⟩ := info_parts info_Sector
  have hT0 := hT
  have hw0 := he0.size
  have hlo := hC.lohi
  obtain ⟨gb, ⟨xq, xp, xA, xn, xc, xl⟩, rfl, hg1, hg2, hx, hcell, hfr, hi⟩ := hC.outs Sc.hf (by omega) (i := j) (by omega)
  have hpc : w0.cell? ⟨gb, j * 3 + 1, none⟩ = some (.int .i64 xp) := hcell 1 _ rfl
  have hxp : xp = t := ht _ hx
  rw [hxp] at hpc
  clear hxp
  replace hpc := he0.cell hpc (.inr (Nat.zero_le _))
  have ew : IntKind.i64.wrap (j : Int) = (j : Int) := IntWalk.i64_in _ (by omega)
  have e2 : (0 : Int) ≤ (j : Int) := by omega
  have e3 : (j : Int) < ((j + 1 : Nat) : Int) := by omega
  have e4 : (j : Int) < (j : Int) + 1 := by omega
  have hk1 : decide (0 < j + 1) = true := by simp
  have hk2 : decide ((0 : Int) < (j : Int) + 1) = true := by first | (simp; done) | (simp; omega)
  clear hcell hx ht hi hfr
  obtain ⟨ta, tb, htt, hta, htab, htb, htq⟩ := Own.tight hC.row hC.lohi
  have HTQ := Lib.hid htq
  clear htq
  replace htt := Own.keep htt he0 (by omega)
  subst hi9 hq9
  have hqq : (((j : Int) + 1) != ((j : Int) + 1)) = false := by simp
  go_enter Try.func71, Try.ntmps71
  go_wp2_with fail
  have he1 : Eff 0 0 w (w.alloc (.cells #[.int .i64 ((j : Int) + 1), .int .i64 p, .slice As m cs] 91)) := Eff.alloc _ _
  have s_0 : (w.alloc (.cells #[.int .i64 ((j : Int) + 1), .int .i64 p, .slice As m cs] 91)).cell? ⟨w.heap.size, 0, none⟩ = some (.int .i64 ((j : Int) + 1)) := var_cell _ _ _ _ _ rfl
  have s_1 : (w.alloc (.cells #[.int .i64 ((j : Int) + 1), .int .i64 p, .slice As m cs] 91)).cell? ⟨w.heap.size, 1, none⟩ = some (.int .i64 p) := var_cell _ _ _ _ _ rfl
  have s_2 : (w.alloc (.cells #[.int .i64 ((j : Int) + 1), .int .i64 p, .slice As m cs] 91)).cell? ⟨w.heap.size, 2, none⟩ = some (.slice As m cs) := var_cell _ _ _ _ _ rfl
  generalize (w.alloc (.cells #[.int .i64 ((j : Int) + 1), .int .i64 p, .slice As m cs] 91)) = v1 at *
  have hz1 : w.heap.size ≤ v1.heap.size := he1.size
  have he2 : Eff 0 0 w v1.drew := he1.drew
  have hz2 : w.heap.size ≤ v1.drew.heap.size := he2.size
  replace hT := he2.cell hT (.inr (Nat.zero_le _))
  replace hpc := he2.cell hpc (.inr (Nat.zero_le _))
  replace hf := (he2.frozen hT0 (.inr (Nat.zero_le _))).trans hf
  replace htt := Own.keep htt he2 (by omega)
  replace s_0 : v1.drew.cell? ⟨w.heap.size, 0, none⟩ = _ := s_0
  replace s_1 : v1.drew.cell? ⟨w.heap.size, 1, none⟩ = _ := s_1
  replace s_2 : v1.drew.cell? ⟨w.heap.size, 2, none⟩ = _ := s_2
  clear he1 hz1
  refine wp_region_held_drew (S := fun w' => w'.cell? ⟨w.heap.size, 0, none⟩ = some (.int .i64 ((j : Int) + 1)) ∧ w'.cell? ⟨w.heap.size, 1, none⟩ = some (.int .i64 p) ∧ w'.cell? ⟨T, 0, none⟩ = some (.slice (some ⟨gb, 0, none⟩) (j + 1) cr) ∧ w'.cell? ⟨gb, j * 3 + 1, none⟩ = some (.int .i64 t)) (by kernel_rfl) ?rg58 (fun hHeld => ?_)
  case rg58 => ((try dsimp only); (go_split_ands; (repeat' apply And.intro) <;> (first | with_reducible assumption)))
  generalize v1.drew = v0 at *
  refine wpAnyH_take (i := 0) (oi := { dst := some 8, op := Go.Op.move (Go.Operand.tmp 2), type := 4, pos := "l05_log.go:26", after := #[], guard := none }) (v := ?v59) rfl (by kernel_rfl) (by kernel_rfl) (by kernel_rfl) (fun _ _ _ h => h) (Or.inl ⟨by rfl, ?y59⟩) (by assumption) ?_
  case y59 => (intro w hSw; (try dsimp only at hSw); go_simp; first | done | with_reducible rfl)
  try simp only [Act.put, List.setIfInBounds_toArray, List.set_cons_zero, List.set_cons_succ]
  refine wpAnyH_take (i := 1) (oi := { dst := some 9, op := Go.Op.unOp Go.UnOp.not 4 (Go.Operand.tmp 8), type := 4, pos := "l05_log.go:26", after := #[{ on := 0, ground := Go.Ground.data }], guard := none }) (v := ?v60) rfl (by kernel_rfl) (by kernel_rfl) (by kernel_rfl) (fun _ _ _ h => h) (Or.inl ⟨by rfl, ?y60⟩) (by assumption) ?_
  case y60 => (intro w hSw; (try dsimp only at hSw); go_simp; first | done | with_reducible rfl)
  try simp only [Act.put, List.setIfInBounds_toArray, List.set_cons_zero, List.set_cons_succ]
  refine wpAnyH_take (i := 2) (oi := { dst := some 10, op := Go.Op.move (Go.Operand.tmp 9), type := 4, pos := "l05_log.go:26", after := #[{ on := 1, ground := Go.Ground.data }], guard := none }) (v := ?v61) rfl (by kernel_rfl) (by kernel_rfl) (by kernel_rfl) (fun _ _ _ h => h) (Or.inl ⟨by rfl, ?y61⟩) (by assumption) ?_
  case y61 => (intro w hSw; (try dsimp only at hSw); go_simp; first | done | with_reducible rfl)
  try simp only [Act.put, List.setIfInBounds_toArray, List.set_cons_zero, List.set_cons_succ]
  refine wpAnyH_take (i := 3) (oi := { dst := some 11, op := Go.Op.fieldAddr 91 (Go.Operand.tmp 5) 0, type := 0, pos := "l05_log.go:26", after := #[{ on := 2, ground := Go.Ground.guard }], guard := some (2, false) }) (v := ?v62) rfl (by kernel_rfl) (by kernel_rfl) (by kernel_rfl) (fun _ _ _ h => h) (Or.inl ⟨by rfl, ?y62⟩) (by assumption) ?_
  case y62 => (intro w hSw; (try dsimp only at hSw); go_simp; first | done | with_reducible rfl)
  try simp only [Act.put, List.setIfInBounds_toArray, List.set_cons_zero, List.set_cons_succ]
  refine wpAnyH_take (i := 4) (oi := { dst := some 12, op := Go.Op.load 3 (Go.Operand.tmp 11), type := 3, pos := "l05_log.go:26", after := #[{ on := 3, ground := Go.Ground.data }, { on := 2, ground := Go.Ground.guard }], guard := some (2, false) }) (v := ?v63) rfl (by kernel_rfl) (by kernel_rfl) (by kernel_rfl) (fun _ _ _ h => h) (Or.inl ⟨by rfl, ?y63⟩) (by assumption) ?_
  case y63 => (intro w hSw; (try dsimp only at hSw); go_simp; first | done | with_reducible rfl)
  try simp only [Act.put, List.setIfInBounds_toArray, List.set_cons_zero, List.set_cons_succ]
  refine wpAnyH_take (i := 5) (oi := { dst := some 13, op := Go.Op.move (Go.Operand.tmp 0), type := 3, pos := "l05_log.go:26", after := #[{ on := 2, ground := Go.Ground.guard }], guard := some (2, false) }) (v := ?v64) rfl (by kernel_rfl) (by kernel_rfl) (by kernel_rfl) (fun _ _ _ h => h) (Or.inl ⟨by rfl, ?y64⟩) (by assumption) ?_
  case y64 => (intro w hSw; (try dsimp only at hSw); go_simp; first | done | with_reducible rfl)
  try simp only [Act.put, List.setIfInBounds_toArray, List.set_cons_zero, List.set_cons_succ]
  refine wpAnyH_take (i := 6) (oi := { dst := some 14, op := Go.Op.binOp Go.BinOp.neq 3 (Go.Operand.tmp 12) (Go.Operand.tmp 13) 3, type := 4, pos := "l05_log.go:26", after := #[{ on := 4, ground := Go.Ground.data }, { on := 5, ground := Go.Ground.data }, { on := 2, ground := Go.Ground.guard }], guard := some (2, false) }) (v := ?v65) rfl (by kernel_rfl) (by kernel_rfl) (by kernel_rfl) (fun _ _ _ h => h) (Or.inl ⟨by rfl, ?y65⟩) (by assumption) ?_
  case y65 => (intro w hSw; (try dsimp only at hSw); go_simp; first | done | with_reducible rfl)
  try simp only [Act.put, List.setIfInBounds_toArray, List.set_cons_zero, List.set_cons_succ]
  refine wpAnyH_take (i := 7) (oi := { dst := some 15, op := Go.Op.pick (Go.Operand.tmp 10) (Go.Operand.const (Go.Value.bool true)) (Go.Operand.tmp 14), type := 4, pos := "l05_log.go:26", after := #[{ on := 2, ground := Go.Ground.data }, { on := 6, ground := Go.Ground.data }], guard := none }) (v := ?v66) rfl (by kernel_rfl) (by kernel_rfl) (by kernel_rfl) (fun _ _ _ h => h) (Or.inl ⟨by rfl, ?y66⟩) (by assumption) ?_
  case y66 => (intro w hSw; (try dsimp only at hSw); go_simp; first | done | with_reducible rfl)
  try simp only [Act.put, List.setIfInBounds_toArray, List.set_cons_zero, List.set_cons_succ]
  refine wpAnyH_take (i := 8) (oi := { dst := some 16, op := Go.Op.move (Go.Operand.tmp 15), type := 4, pos := "l05_log.go:26", after := #[{ on := 7, ground := Go.Ground.data }, { on := 2, ground := Go.Ground.chain }], guard := none }) (v := ?v67) rfl (by kernel_rfl) (by kernel_rfl) (by kernel_rfl) (fun _ _ _ h => h) (Or.inl ⟨by rfl, ?y67⟩) (by assumption) ?_
  case y67 => (intro w hSw; (try dsimp only at hSw); go_simp; first | done | with_reducible rfl)
  try simp only [Act.put, List.setIfInBounds_toArray, List.set_cons_zero, List.set_cons_succ]
  refine wpAnyH_take (i := 9) (oi := { dst := some 17, op := Go.Op.move (Go.Operand.tmp 0), type := 3, pos := "l05_log.go:26", after := #[{ on := 8, ground := Go.Ground.guard }], guard := some (8, false) }) (v := ?v68) rfl (by kernel_rfl) (by kernel_rfl) (by kernel_rfl) (fun _ _ _ h => h) (Or.inl ⟨by rfl, ?y68⟩) (by assumption) ?_
  case y68 => (intro w hSw; (try dsimp only at hSw); go_simp; first | done | with_reducible rfl)
  try simp only [Act.put, List.setIfInBounds_toArray, List.set_cons_zero, List.set_cons_succ]
  refine wpAnyH_take (i := 10) (oi := { dst := some 18, op := Go.Op.binOp Go.BinOp.gtr 3 (Go.Operand.tmp 17) (Go.Operand.const (Go.Value.int Go.IntKind.i64 0)) 3, type := 4, pos := "l05_log.go:26", after := #[{ on := 9, ground := Go.Ground.data }, { on := 8, ground := Go.Ground.guard }], guard := some (8, false) }) (v := ?v69) rfl (by kernel_rfl) (by kernel_rfl) (by kernel_rfl) (fun _ _ _ h => h) (Or.inl ⟨by rfl, ?y69⟩) (by assumption) ?_
  case y69 => (intro w hSw; (try dsimp only at hSw); go_simp; first | done | with_reducible rfl)
  try simp only [Act.put, List.setIfInBounds_toArray, List.set_cons_zero, List.set_cons_succ]
  refine wpAnyH_take (i := 11) (oi := { dst := some 19, op := Go.Op.move (Go.Operand.tmp 18), type := 4, pos := "l05_log.go:26", after := #[{ on := 10, ground := Go.Ground.data }, { on := 8, ground := Go.Ground.chain }, { on := 8, ground := Go.Ground.guard }], guard := some (8, false) }) (v := ?v70) rfl (by kernel_rfl) (by kernel_rfl) (by kernel_rfl) (fun _ _ _ h => h) (Or.inl ⟨by rfl, ?y70⟩) (by assumption) ?_
  case y70 => (intro w hSw; (try dsimp only at hSw); go_simp; first | done | with_reducible rfl)
  try simp only [Act.put, List.setIfInBounds_toArray, List.set_cons_zero, List.set_cons_succ]
  refine wpAnyH_take (i := 12) (oi := { dst := some 20, op := Go.Op.fieldAddr 91 (Go.Operand.tmp 5) 1, type := 0, pos := "l05_log.go:26", after := #[{ on := 11, ground := Go.Ground.guard }], guard := some (11, true) }) (v := ?v71) rfl (by kernel_rfl) (by kernel_rfl) (by kernel_rfl) (fun _ _ _ h => h) (Or.inl ⟨by rfl, ?y71⟩) (by assumption) ?_
  case y71 => (intro w hSw; (try dsimp only at hSw); go_simp; first | done | with_reducible rfl)
  try simp only [Act.put, List.setIfInBounds_toArray, List.set_cons_zero, List.set_cons_succ]
  refine wpAnyH_take (i := 13) (oi := { dst := some 21, op := Go.Op.load 3 (Go.Operand.tmp 20), type := 3, pos := "l05_log.go:26", after := #[{ on := 12, ground := Go.Ground.data }, { on := 11, ground := Go.Ground.guard }], guard := some (11, true) }) (v := ?v72) rfl (by kernel_rfl) (by kernel_rfl) (by kernel_rfl) (fun _ _ _ h => h) (Or.inl ⟨by rfl, ?y72⟩) (by assumption) ?_
  case y72 => (intro w hSw; (try dsimp only at hSw); go_simp; first | done | with_reducible rfl)
  try simp only [Act.put, List.setIfInBounds_toArray, List.set_cons_zero, List.set_cons_succ]
  refine wpAnyH_take (i := 14) (oi := { dst := some 22, op := Go.Op.load 66 (Go.Operand.tmp 3), type := 66, pos := "l05_log.go:26", after := #[{ on := 11, ground := Go.Ground.guard }], guard := some (11, true) }) (v := ?v73) rfl (by kernel_rfl) (by kernel_rfl) (by kernel_rfl) (fun _ _ _ h => h) (Or.inl ⟨by rfl, ?y73⟩) (by assumption) ?_
  case y73 => (intro w hSw; (try dsimp only at hSw); go_simp; first | done | with_reducible rfl)
  try simp only [Act.put, List.setIfInBounds_toArray, List.set_cons_zero, List.set_cons_succ]
  refine wpAnyH_take (i := 15) (oi := { dst := some 23, op := Go.Op.move (Go.Operand.tmp 0), type := 3, pos := "l05_log.go:26", after := #[{ on := 11, ground := Go.Ground.guard }], guard := some (11, true) }) (v := ?v74) rfl (by kernel_rfl) (by kernel_rfl) (by kernel_rfl) (fun _ _ _ h => h) (Or.inl ⟨by rfl, ?y74⟩) (by assumption) ?_
  case y74 => (intro w hSw; (try dsimp only at hSw); go_simp; first | done | with_reducible rfl)
  try simp only [Act.put, List.setIfInBounds_toArray, List.set_cons_zero, List.set_cons_succ]
  refine wpAnyH_take (i := 16) (oi := { dst := some 24, op := Go.Op.binOp Go.BinOp.sub 3 (Go.Operand.tmp 23) (Go.Operand.const (Go.Value.int Go.IntKind.i64 1)) 3, type := 3, pos := "l05_log.go:26", after := #[{ on := 15, ground := Go.Ground.data }, { on := 11, ground := Go.Ground.guard }], guard := some (11, true) }) (v := ?v75) rfl (by kernel_rfl) (by kernel_rfl) (by kernel_rfl) (fun _ _ _ h => h) (Or.inl ⟨by rfl, ?y75⟩) (by assumption) ?_
  case y75 => (intro w hSw; (try dsimp only at hSw); go_simp; first | done | with_reducible rfl)
  try simp only [Act.put, List.setIfInBounds_toArray, List.set_cons_zero, List.set_cons_succ]
  refine wpAnyH_take (i := 17) (oi := { dst := some 25, op := Go.Op.indexAddr 66 (Go.Operand.tmp 22) (Go.Operand.tmp 24), type := 0, pos := "l05_log.go:26", after := #[{ on := 14, ground := Go.Ground.data }, { on := 16, ground := Go.Ground.data }, { on := 11, ground := Go.Ground.guard }], guard := some (11, true) }) (v := ?v76) rfl (by kernel_rfl) (by kernel_rfl) (by kernel_rfl) (fun _ _ _ h => h) (Or.inl ⟨by rfl, ?y76⟩) (by assumption) ?_
  case y76 => (intro w hSw; (try dsimp only at hSw); go_simp; first | done | with_reducible rfl)
  try simp only [Act.put, List.setIfInBounds_toArray, List.set_cons_zero, List.set_cons_succ]
  refine wpAnyH_take (i := 18) (oi := { dst := some 26, op := Go.Op.fieldAddr 91 (Go.Operand.tmp 25) 1, type := 0, pos := "l05_log.go:26", after := #[{ on := 17, ground := Go.Ground.data }, { on := 11, ground := Go.Ground.guard }], guard := some (11, true) }) (v := ?v77) rfl (by kernel_rfl) (by kernel_rfl) (by kernel_rfl) (fun _ _ _ h => h) (Or.inl ⟨by rfl, ?y77⟩) (by assumption) ?_
  case y77 => (intro w hSw; (try dsimp only at hSw); go_simp; first | done | with_reducible rfl)
  try simp only [Act.put, List.setIfInBounds_toArray, List.set_cons_zero, List.set_cons_succ]
  refine wpAnyH_take (i := 19) (oi := { dst := some 27, op := Go.Op.load 3 (Go.Operand.tmp 26), type := 3, pos := "l05_log.go:26", after := #[{ on := 18, ground := Go.Ground.data }, { on := 11, ground := Go.Ground.guard }], guard := some (11, true) }) (v := ?v78) rfl (by kernel_rfl) (by kernel_rfl) (by kernel_rfl) (fun _ _ _ h => h) (Or.inl ⟨by rfl, ?y78⟩) (by assumption) ?_
  case y78 => (intro w hSw; (try dsimp only at hSw); go_simp; first | done | with_reducible rfl)
  try simp only [Act.put, List.setIfInBounds_toArray, List.set_cons_zero, List.set_cons_succ]
  refine wpAnyH_take (i := 20) (oi := { dst := some 28, op := Go.Op.binOp Go.BinOp.lss 3 (Go.Operand.tmp 21) (Go.Operand.tmp 27) 3, type := 4, pos := "l05_log.go:26", after := #[{ on := 13, ground := Go.Ground.data }, { on := 19, ground := Go.Ground.data }, { on := 11, ground := Go.Ground.guard }], guard := some (11, true) }) (v := ?v79) rfl (by kernel_rfl) (by kernel_rfl) (by kernel_rfl) (fun _ _ _ h => h) (Or.inl ⟨by rfl, ?y79⟩) (by assumption) ?_
  case y79 => (intro w hSw; (try dsimp only at hSw); go_simp; first | done | with_reducible rfl)
  try simp only [Act.put, List.setIfInBounds_toArray, List.set_cons_zero, List.set_cons_succ]
  refine wpAnyH_take (i := 21) (oi := { dst := some 29, op := Go.Op.pick (Go.Operand.tmp 19) (Go.Operand.tmp 28) (Go.Operand.const (Go.Value.bool false)), type := 4, pos := "l05_log.go:26", after := #[{ on := 11, ground := Go.Ground.data }, { on := 20, ground := Go.Ground.data }, { on := 8, ground := Go.Ground.guard }], guard := some (8, false) }) (v := ?v80) rfl (by kernel_rfl) (by kernel_rfl) (by kernel_rfl) (fun _ _ _ h => h) (Or.inl ⟨by rfl, ?y80⟩) (by assumption) ?_
  case y80 => (intro w hSw; (try dsimp only at hSw); go_simp; first | done | with_reducible rfl)
  try simp only [Act.put, List.setIfInBounds_toArray, List.set_cons_zero, List.set_cons_succ]
  refine wpAnyH_take (i := 22) (oi := { dst := some 30, op := Go.Op.pick (Go.Operand.tmp 16) (Go.Operand.const (Go.Value.bool true)) (Go.Operand.tmp 29), type := 4, pos := "l05_log.go:26", after := #[{ on := 8, ground := Go.Ground.data }, { on := 21, ground := Go.Ground.data }], guard := none }) (v := ?v81) rfl (by kernel_rfl) (by kernel_rfl) (by kernel_rfl) (fun _ _ _ h => h) (Or.inl ⟨by rfl, ?y81⟩) (by assumption) ?_
  case y81 => (intro w hSw; (try dsimp only at hSw); go_simp; first | done | with_reducible rfl)
  try simp only [Act.put, List.setIfInBounds_toArray, List.set_cons_zero, List.set_cons_succ]
  refine wpAnyH_done (by kernel_rfl) ?_ _
  go_wp2_with (at_builtin; refine wpList_app _ rfl _ _ 66 rfl 91 i0 (.agg #[.int .i64 0, .int .i64 0, .slice none 0 0]) 3 40 Try.underlying66 hi0 hj0 hj1 hj2 rfl (by omega) rfl (Own.alloc htt _) 1 rfl (rd_row3 v0 [.int .i64 (((j : Int) + 1) : Int), .int .i64 p, .slice As m cs] 91) (one3s _ _ _ _ _) (by unfold maxLen; omega) (by omega) (by simp; omega) ?_; intro A2 c2 w8 hO hE hK2; have hT8 := hE.cell ((Eff.alloc _ _).cell hT (.inr (Nat.zero_le _))) (.inl (by simp only; omega)); have hf8 := (hE.frozen ((Eff.alloc _ _).cell hT (.inr (Nat.zero_le _))) (.inl (by simp only; omega))).trans (((Eff.alloc _ _).frozen hT (.inr (Nat.zero_le _))).trans hf))
  go_ret
  exact ⟨rfl, A2, c2, w8, rfl, (((he2.anyD).trans ((Eff.alloc _ _).anyD)).trans (hE.wide hta htb)), hC.snoc (y := ⟨(((j : Int) + 1) : Int), p, As, m, cs, B⟩) he0 s hta HTQ.out (he2.trans (Eff.alloc _ _)) hO hE hK2⟩
end Go.Proofs.Ytblenfhacaecmaa
