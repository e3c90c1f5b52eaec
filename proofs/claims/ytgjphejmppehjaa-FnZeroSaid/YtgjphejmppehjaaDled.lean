/- Draws of ledgers (l02Ledger). -/
import Derived.Test.YtgjphejmppehjaaDpst
import Derived.Test.YtgjphejmppehjaaPostL
import Derived.Deep.DeepCutAuto
namespace Go.Proofs.Ytgjphejmppehjaa
open Go.RowKit
/-- Behind draws: a new variable that holds a number and lines of the call's own. -/
def MidPst (B g : Nat) (w : World) (most : Nat) (v : Value) (wx : World) : Prop :=
  ∃ b q A n c lo hi ls, v = .pointer (some ⟨b, 0, none⟩) ∧ n ≤ most ∧ w.heap.size ≤ b ∧ b < wx.heap.size ∧ (∀ k, (Value.slice A n c).ownBlock = some k → k ≠ b) ∧ w.heap.size ≤ lo ∧ Quad wx b (.int .i64 q) (.slice A n c) ∧ OwnL wx lo hi A n c ls ∧ Cur B wx g ∧ Eff g (g + 1) w wx
theorem MidPst.mk {B g b n c lo hi most : Nat} {w wE : World} {A : Option Addr} {q : Int} {ls : List Ln} {u0 u1 : Value} (hn : n ≤ most) (r : OwnL wE lo hi A n c ls) (hne : ∀ k, (Value.slice A n c).ownBlock = some k → k ≠ b) (hc : Cur B wE g) (E : Eff g (g + 1) w wE)
    (hlo : w.heap.size ≤ lo) (hb : w.heap.size ≤ b) (hg : g < w.heap.size) (h : Quad wE b u0 u1) : MidPst B g w most (.pointer (some ⟨b, 0, none⟩)) ((wE.setCell ⟨b, 0, none⟩ (.int .i64 q)).setCell ⟨b, 1, none⟩ (.slice A n c)) := by
  obtain ⟨c0, c1, f0, f1⟩ := h
  have E2 := eff_set2 wE b (.int .i64 q) (.slice A n c)
  have hgl : b < wE.heap.size := block_lt_of_cell c0
  have hB := hc.le
  exact ⟨b, q, A, n, c, lo, hi, ls, rfl, hn, hb, Nat.lt_of_lt_of_le hgl E2.size, hne, hlo, ⟨set_other (set_same c0 _) _ (.inr (by omega)), set_same (set_other c1 _ (.inr (by omega))) _, set_frozen (set_frozen f0 _) _, set_frozen (set_frozen f1 _) _⟩, Own.keepNe r E2 (fun k hk => by have := hne k hk; omega), hc.keep E2 (by omega) (by omega), E.step E2 (by omega)⟩
set_option maxHeartbeats 8000000 in
set_option maxRecDepth 100000 in
theorem l02Ledger_any (B g : Nat) (W : World) (hc : Cur B W g) : Calls Try.prog 66 #[.pointer (some ⟨g, 0, none⟩)] W (LedPost B g 302 W) := by
  have hgl := hc.lt
  have hgB := hc.le
  have E0 : Eff g (g + 1) W W := Eff.refl _ _ _
  go_enter Try.func66, Try.ntmps66
  go_wp2_with fail
  have he1 : Eff 0 0 W (W.alloc (.cells #[.int .i64 0, .slice none 0 0] 34)) := Eff.alloc _ _
  have hs1 : (W.alloc (.cells #[.int .i64 0, .slice none 0 0] 34)).heap.size = W.heap.size + 1 := (by simp)
  have res_0 : (W.alloc (.cells #[.int .i64 0, .slice none 0 0] 34)).cell? ⟨W.heap.size, 0, none⟩ = some (.int .i64 0) := var_cell _ _ _ _ _ rfl
  have res_1 : (W.alloc (.cells #[.int .i64 0, .slice none 0 0] 34)).cell? ⟨W.heap.size, 1, none⟩ = some (.slice none 0 0) := var_cell _ _ _ _ _ rfl
  have res_f0 : (W.alloc (.cells #[.int .i64 0, .slice none 0 0] 34)).frozen? ⟨W.heap.size, 0, none⟩ = false := var_frozen _ _ _ _
  have res_f1 : (W.alloc (.cells #[.int .i64 0, .slice none 0 0] 34)).frozen? ⟨W.heap.size, 1, none⟩ = false := var_frozen _ _ _ _
  generalize (W.alloc (.cells #[.int .i64 0, .slice none 0 0] 34)) = w1 at *
  have hz1 : W.heap.size ≤ w1.heap.size := he1.size
  have E1 : Eff g (g + 1) W w1 := E0.step he1 (by omega)
  have S1 := E1.size
  replace hc := hc.keep he1 (by omega) (by omega)
  have res_l : W.heap.size < w1.heap.size := (by omega)
  have he2 : Eff 0 0 w1 (w1.alloc (.cells #[.int .i64 0, .slice none 0 0] 34)) := Eff.alloc _ _
  have hs2 : (w1.alloc (.cells #[.int .i64 0, .slice none 0 0] 34)).heap.size = w1.heap.size + 1 := (by simp)
  have l_0 : (w1.alloc (.cells #[.int .i64 0, .slice none 0 0] 34)).cell? ⟨w1.heap.size, 0, none⟩ = some (.int .i64 0) := var_cell _ _ _ _ _ rfl
  have l_1 : (w1.alloc (.cells #[.int .i64 0, .slice none 0 0] 34)).cell? ⟨w1.heap.size, 1, none⟩ = some (.slice none 0 0) := var_cell _ _ _ _ _ rfl
  have l_f0 : (w1.alloc (.cells #[.int .i64 0, .slice none 0 0] 34)).frozen? ⟨w1.heap.size, 0, none⟩ = false := var_frozen _ _ _ _
  have l_f1 : (w1.alloc (.cells #[.int .i64 0, .slice none 0 0] 34)).frozen? ⟨w1.heap.size, 1, none⟩ = false := var_frozen _ _ _ _
  generalize (w1.alloc (.cells #[.int .i64 0, .slice none 0 0] 34)) = w2 at *
  have hz2 : w1.heap.size ≤ w2.heap.size := he2.size
  have E2 : Eff g (g + 1) W w2 := E1.step he2 (by omega)
  have S2 := E2.size
  replace res_f0 := (he2.frozen res_0 (by simp only; omega)).trans res_f0
  replace res_f1 := (he2.frozen res_1 (by simp only; omega)).trans res_f1
  replace res_0 := he2.cell res_0 (by simp only; omega)
  replace res_1 := he2.cell res_1 (by simp only; omega)
  replace res_l := Nat.lt_of_lt_of_le res_l hz2
  replace hc := hc.keep he2 (by omega) (by omega)
  rw [hs1] at l_0 l_f0
  rw [hs1] at l_1 l_f1
  have l_l : W.heap.size + 1 < w2.heap.size := (by omega)
  clear hs2
  refine (l01Below_any B g (7) (by omega) w2 hc).mono ?_
  rintro e w3 hpost
  obtain ⟨x, rfl, ⟨x_0, x_1, -⟩, hc, he⟩ := hpost.eff
  clear hpost
  replace x_1 := x_1 (by omega)
  have he3 : Eff (g) (g + 1) w2 w3 := he
  have hz3 : w2.heap.size ≤ w3.heap.size := he3.size
  have E3 : Eff g (g + 1) W w3 := E2.step he3 (by omega)
  have S3 := E3.size
  replace res_f0 := (he3.frozen res_0 (by simp only; omega)).trans res_f0
  replace res_f1 := (he3.frozen res_1 (by simp only; omega)).trans res_f1
  replace l_f0 := (he3.frozen l_0 (by simp only; omega)).trans l_f0
  replace l_f1 := (he3.frozen l_1 (by simp only; omega)).trans l_f1
  replace res_0 := he3.cell res_0 (by simp only; omega)
  replace res_1 := he3.cell res_1 (by simp only; omega)
  replace l_0 := he3.cell l_0 (by simp only; omega)
  replace l_1 := he3.cell l_1 (by simp only; omega)
  replace res_l := Nat.lt_of_lt_of_le res_l hz3
  replace l_l := Nat.lt_of_lt_of_le l_l hz3
  clear he
  go_wp2_with fail
  obtain ⟨R, rfl⟩ : ∃ R : Nat, x = (R : Int) := ⟨x.toNat, by omega⟩
  go_loopw [4] (fun vn wr => ∃ (k m c : Nat) (q : Int) (A : Option Addr) (ls : List Ln), k ≤ 7 ∧ m ≤ 302 ∧ vn = .int .i64 (k : Int) ∧ OwnL wr (W.heap.size + 2) wr.heap.size A m c ls ∧ Cur B wr g ∧ Eff g (g + 1) W wr ∧ wr.cell? ⟨W.heap.size, 0, none⟩ = some (.int .i64 0) ∧ wr.cell? ⟨W.heap.size, 1, none⟩ = some (.slice none 0 0) ∧ wr.frozen? ⟨W.heap.size, 0, none⟩ = false ∧ wr.frozen? ⟨W.heap.size, 1, none⟩ = false ∧ wr.cell? ⟨W.heap.size + 1, 0, none⟩ = some (.int .i64 q) ∧ wr.cell? ⟨W.heap.size + 1, 1, none⟩ = some (.slice A m c) ∧ wr.frozen? ⟨W.heap.size + 1, 0, none⟩ = false ∧ wr.frozen? ⟨W.heap.size + 1, 1, none⟩ = false ∧ W.heap.size + 1 < wr.heap.size) (fun vn _ => (intOf vn).toNat)
  case atStart => exact ⟨R, 0, 0, 0, none, [], by omega, by omega, rfl, Own.nil _ _ _ _ _ (Nat.le_refl _), hc, E3, res_0, res_1, res_f0, res_f1, l_0, l_1, l_f0, l_f1, by omega⟩
  clear hc res_0 res_1 res_f0 res_f1 l_0 l_1 l_f0 l_f1 l_l res_l E1 S1 he1 hz1 E2 S2 he2 hz2 E3 S3 he3 hz3
  case round =>
    obtain ⟨k, m, c, q, A, ls, hk7, hm, rfl, o, hc, E, res_0, res_1, res_f0, res_f1, l_0, l_1, l_f0, l_f1, l_l⟩ := hrel
    have res_l : W.heap.size < wr.heap.size := by omega
    by_cases hlt : 0 < k
    · obtain ⟨k, rfl⟩ : ∃ q, k = q + 1 := ⟨k - 1, by omega⟩
      have hk0 : (0 : Int) < ((k + 1 : Nat) : Int) := by omega
      have hle := Own.le o
      go_wp2_with fail
      have hgl := hc.lt
      have hgB := hc.le
      have E0 := E
      have S0 := E0.size
      clear E
      have hlW : W.heap.size + 1 < wr.heap.size := l_l
      go_cut [5, 6] (fun v5 v6 wx => ∃ Cd : Int, v6 = .int .i64 Cd ∧ MidPst B g wr 302 v5 wx)
      case first =>
        have hS0 := S0
        have E0 : Eff g (g + 1) wr wr := Eff.refl _ _ _
        have S0 := E0.size
        have he1 : Eff 0 0 wr wr.drew := (Eff.refl _ _ _).drew
        have hz1 : wr.heap.size ≤ wr.drew.heap.size := he1.size
        have E1 : Eff g (g + 1) wr wr.drew := E0.step he1 (by omega)
        have S1 := E1.size
        replace o := o.keep he1 (by omega)
        replace res_f0 := (he1.frozen res_0 (by simp only; omega)).trans res_f0
        replace res_f1 := (he1.frozen res_1 (by simp only; omega)).trans res_f1
        replace l_f0 := (he1.frozen l_0 (by simp only; omega)).trans l_f0
        replace l_f1 := (he1.frozen l_1 (by simp only; omega)).trans l_f1
        replace res_0 := he1.cell res_0 (by simp only; omega)
        replace res_1 := he1.cell res_1 (by simp only; omega)
        replace l_0 := he1.cell l_0 (by simp only; omega)
        replace l_1 := he1.cell l_1 (by simp only; omega)
        replace res_l := Nat.lt_of_lt_of_le res_l hz1
        replace l_l := Nat.lt_of_lt_of_le l_l hz1
        replace hc := hc.keep he1 (by omega) (by omega)
        refine wp_region_held_drew (S := fun w' => w'.cell? ⟨W.heap.size + 1, 0, none⟩ = some (.int .i64 q) ∧ w'.cell? ⟨W.heap.size + 1, 1, none⟩ = some (.slice A m c)) (by kernel_rfl) ?rg1 (fun hHeld => ?_)
        case rg1 => ((try dsimp only); (go_split_ands; (repeat' apply And.intro) <;> (first | assumption | exact set_other (set_other (by assumption) _ (.inl (by first | omega | (simp; omega)))) _ (.inl (by first | omega | (simp; omega))))))
        generalize wr.drew = v0 at *
        refine wpAnyH_take (i := 0) (oi := { dst := some 15, op := Go.Op.load 34 (Go.Operand.tmp 3), type := 34, pos := "l02_ledger.go:235", after := #[], guard := none }) (v := ?v2) rfl (by kernel_rfl) (by kernel_rfl) (by kernel_rfl) (fun _ _ _ h => h) (Or.inl ⟨by rfl, ?y2⟩) (by assumption) ?_
        case y2 => (intro w hSw; (try dsimp only at hSw); go_simp; first | done | with_reducible rfl)
        try simp only [Act.put, List.setIfInBounds_toArray, List.set_cons_zero, List.set_cons_succ]
        refine wpAnyH_take (i := 1) (oi := { dst := some 16, op := Go.Op.move (Go.Operand.tmp 0), type := 85, pos := "l02_ledger.go:235", after := #[], guard := none }) (v := ?v3) rfl (by kernel_rfl) (by kernel_rfl) (by kernel_rfl) (fun _ _ _ h => h) (Or.inl ⟨by rfl, ?y3⟩) (by assumption) ?_
        case y3 => (intro w hSw; (try dsimp only at hSw); go_simp; first | done | with_reducible rfl)
        try simp only [Act.put, List.setIfInBounds_toArray, List.set_cons_zero, List.set_cons_succ]
        refine wpAnyH_take (i := 2) (oi := { dst := some 17, op := Go.Op.fieldAddr 34 (Go.Operand.tmp 3) 0, type := 0, pos := "l02_ledger.go:235", after := #[], guard := none }) (v := ?v4) rfl (by kernel_rfl) (by kernel_rfl) (by kernel_rfl) (fun _ _ _ h => h) (Or.inl ⟨by rfl, ?y4⟩) (by assumption) ?_
        case y4 => (intro w hSw; (try dsimp only at hSw); go_simp; first | done | with_reducible rfl)
        try simp only [Act.put, List.setIfInBounds_toArray, List.set_cons_zero, List.set_cons_succ]
        refine wpAnyH_take (i := 3) (oi := { dst := some 18, op := Go.Op.load 3 (Go.Operand.tmp 17), type := 3, pos := "l02_ledger.go:235", after := #[{ on := 2, ground := Go.Ground.data }], guard := none }) (v := ?v5) rfl (by kernel_rfl) (by kernel_rfl) (by kernel_rfl) (fun _ _ _ h => h) (Or.inl ⟨by rfl, ?y5⟩) (by assumption) ?_
        case y5 => (intro w hSw; (try dsimp only at hSw); go_simp; first | done | with_reducible rfl)
        try simp only [Act.put, List.setIfInBounds_toArray, List.set_cons_zero, List.set_cons_succ]
        refine wpAnyH_take (i := 4) (oi := { dst := some 19, op := Go.Op.binOp Go.BinOp.add 3 (Go.Operand.tmp 18) (Go.Operand.const (Go.Value.int Go.IntKind.i64 1)) 3, type := 3, pos := "l02_ledger.go:235", after := #[{ on := 3, ground := Go.Ground.data }], guard := none }) (v := ?v6) rfl (by kernel_rfl) (by kernel_rfl) (by kernel_rfl) (fun _ _ _ h => h) (Or.inl ⟨by rfl, ?y6⟩) (by assumption) ?_
        case y6 => (intro w hSw; (try dsimp only at hSw); go_simp; first | done | with_reducible rfl)
        try simp only [Act.put, List.setIfInBounds_toArray, List.set_cons_zero, List.set_cons_succ]
        refine wpAnyH_take (i := 5) (oi := { dst := some 20, op := Go.Op.move (Go.Operand.tmp 0), type := 85, pos := "l02_ledger.go:235", after := #[], guard := none }) (v := ?v7) rfl (by kernel_rfl) (by kernel_rfl) (by kernel_rfl) (fun _ _ _ h => h) (Or.inl ⟨by rfl, ?y7⟩) (by assumption) ?_
        case y7 => (intro w hSw; (try dsimp only at hSw); go_simp; first | done | with_reducible rfl)
        try simp only [Act.put, List.setIfInBounds_toArray, List.set_cons_zero, List.set_cons_succ]
        refine wpAnyH_ready (rs := [6, 13]) (by kernel_rfl) (by simp) ?_
        refine AllReadyH.cons (o := { dst := some 21, op := Go.Op.call { callee := Go.Callee.value (Go.Operand.func 61), args := #[Go.Operand.tmp 20, Go.Operand.const (Go.Value.int Go.IntKind.i64 3)], argTypes := #[85, 3] }, type := 3, pos := "l02_ledger.go:235", after := #[{ on := 5, ground := Go.Ground.data }], guard := none }) rfl (fun K hK => ?k8) ?m8
        case k8 =>
          go_simp
          go_at_call 61
          refine (l01Below_any B g 3 (by omega) v0 hc).mono ?_
          rintro e v2 hpost
          obtain ⟨z, rfl, ⟨z_0, z_1, -⟩, hc, he⟩ := hpost.eff
          clear hpost
          replace z_1 := z_1 (by omega)
          have he2 : Eff (g) (g + 1) v0 v2 := he
          have hz2 : v0.heap.size ≤ v2.heap.size := he2.size
          have E2 : Eff g (g + 1) wr v2 := E1.step he2 (by omega)
          have S2 := E2.size
          replace o := o.keep he2 (by omega)
          replace res_f0 := (he2.frozen res_0 (by simp only; omega)).trans res_f0
          replace res_f1 := (he2.frozen res_1 (by simp only; omega)).trans res_f1
          replace l_f0 := (he2.frozen l_0 (by simp only; omega)).trans l_f0
          replace l_f1 := (he2.frozen l_1 (by simp only; omega)).trans l_f1
          replace res_0 := he2.cell res_0 (by simp only; omega)
          replace res_1 := he2.cell res_1 (by simp only; omega)
          replace l_0 := he2.cell l_0 (by simp only; omega)
          replace l_1 := he2.cell l_1 (by simp only; omega)
          replace res_l := Nat.lt_of_lt_of_le res_l hz2
          replace l_l := Nat.lt_of_lt_of_le l_l hz2
          clear he
          refine hK.out _ _ ?s8 (fun hHeld => ?_)
          case s8 => ((try dsimp only); (go_split_ands; (repeat' apply And.intro) <;> (first | assumption | exact set_other (set_other (by assumption) _ (.inl (by first | omega | (simp; omega)))) _ (.inl (by first | omega | (simp; omega))))))
          clear hK K
          try simp only [Act.put, List.setIfInBounds_toArray, List.set_cons_zero, List.set_cons_succ]
          refine wpAnyH_take (i := 7) (oi := { dst := some 22, op := Go.Op.binOp Go.BinOp.add 3 (Go.Operand.tmp 19) (Go.Operand.tmp 21) 3, type := 3, pos := "l02_ledger.go:235", after := #[{ on := 4, ground := Go.Ground.data }, { on := 6, ground := Go.Ground.data }], guard := none }) (v := ?v9) rfl (by kernel_rfl) (by kernel_rfl) (by kernel_rfl) (fun _ _ _ h => h) (Or.inl ⟨by rfl, ?y9⟩) (by assumption) ?_
          case y9 => (intro w hSw; (try dsimp only at hSw); go_simp; first | done | with_reducible rfl)
          try simp only [Act.put, List.setIfInBounds_toArray, List.set_cons_zero, List.set_cons_succ]
          refine wpAnyH_ready (rs := [8, 13]) (by kernel_rfl) (by simp) ?_
          refine AllReadyH.cons (o := { dst := some 23, op := Go.Op.call { callee := Go.Callee.value (Go.Operand.func 60), args := #[Go.Operand.tmp 16, Go.Operand.tmp 22], argTypes := #[85, 3] }, type := 43, pos := "l02_ledger.go:235", after := #[{ on := 1, ground := Go.Ground.data }, { on := 7, ground := Go.Ground.data }, { on := 6, ground := Go.Ground.chain }], guard := none }) rfl (fun K hK => ?k10) ?m10
          case k10 =>
            go_simp
            go_at_call 60
            refine (l02Posting_any B g _ v2 hc).mono ?_
            rintro e v3 hpost
            obtain ⟨pq, Ap, np, cp, ps, rfl, hnp, hc, op, he⟩ := hpost
            have he3 : Eff (g) (g + 1) v2 v3 := he
            have hz3 : v2.heap.size ≤ v3.heap.size := he3.size
            have E3 : Eff g (g + 1) wr v3 := E2.step he3 (by omega)
            have S3 := E3.size
            replace o := o.keep he3 (by omega)
            replace res_f0 := (he3.frozen res_0 (by simp only; omega)).trans res_f0
            replace res_f1 := (he3.frozen res_1 (by simp only; omega)).trans res_f1
            replace l_f0 := (he3.frozen l_0 (by simp only; omega)).trans l_f0
            replace l_f1 := (he3.frozen l_1 (by simp only; omega)).trans l_f1
            replace res_0 := he3.cell res_0 (by simp only; omega)
            replace res_1 := he3.cell res_1 (by simp only; omega)
            replace l_0 := he3.cell l_0 (by simp only; omega)
            replace l_1 := he3.cell l_1 (by simp only; omega)
            replace res_l := Nat.lt_of_lt_of_le res_l hz3
            replace l_l := Nat.lt_of_lt_of_le l_l hz3
            clear he
            refine hK.out _ _ ?s10 (fun hHeld => ?_)
            case s10 => ((try dsimp only); (go_split_ands; (repeat' apply And.intro) <;> (first | assumption | exact set_other (set_other (by assumption) _ (.inl (by first | omega | (simp; omega)))) _ (.inl (by first | omega | (simp; omega))))))
            clear hK K
            try simp only [Act.put, List.setIfInBounds_toArray, List.set_cons_zero, List.set_cons_succ]
            refine wpAnyH_ready (rs := [9, 13]) (by kernel_rfl) (by simp) ?_
            refine AllReadyH.cons (o := { dst := some 24, op := Go.Op.call { callee := Go.Callee.value (Go.Operand.func 32), args := #[Go.Operand.tmp 15, Go.Operand.tmp 23], argTypes := #[34, 43] }, type := 54, pos := "l02_ledger.go:235", after := #[{ on := 0, ground := Go.Ground.data }, { on := 8, ground := Go.Ground.data }, { on := 8, ground := Go.Ground.chain }], guard := none }) rfl (fun K hK => ?k11) ?m11
            case k11 =>
              go_simp
              go_at_call 32
              obtain ⟨Q, hQ⟩ : ∃ x, (postR q ls pq ps).1 = x := ⟨_, rfl⟩
              obtain ⟨R, hR⟩ : ∃ x, (postR q ls pq ps).2.1 = x := ⟨_, rfl⟩
              obtain ⟨Cd, hC⟩ : ∃ x, (postR q ls pq ps).2.2 = x := ⟨_, rfl⟩
              have hRl : R.length ≤ 302 := by rw [← hR]; exact postR_len q ls pq ps
              refine (spec_PostR hQ hR hC _ m _ _ np _ v3 (Own.rd o (Own.le o)) (Own.rd op (Own.le op)) (by omega) (by omega) (Own.caps o) (Own.caps op)).mono ?_
              rintro e v4 ⟨Ar, nr, cr, hnr, rfl, r, hb⟩
              have hnr2 : nr ≤ 302 := by omega
              clear hnr hQ hR hC hRl
              have he4 : Eff 0 0 v3 v4 := Eff.of hb
              have hz4 : v3.heap.size ≤ v4.heap.size := he4.size
              have E4 : Eff g (g + 1) wr v4 := E3.step he4 (by omega)
              have S4 := E4.size
              replace o := o.keep he4 (by omega)
              replace op := op.keep he4 (by omega)
              replace res_f0 := (he4.frozen res_0 (by simp only; omega)).trans res_f0
              replace res_f1 := (he4.frozen res_1 (by simp only; omega)).trans res_f1
              replace l_f0 := (he4.frozen l_0 (by simp only; omega)).trans l_f0
              replace l_f1 := (he4.frozen l_1 (by simp only; omega)).trans l_f1
              replace res_0 := he4.cell res_0 (by simp only; omega)
              replace res_1 := he4.cell res_1 (by simp only; omega)
              replace l_0 := he4.cell l_0 (by simp only; omega)
              replace l_1 := he4.cell l_1 (by simp only; omega)
              replace res_l := Nat.lt_of_lt_of_le res_l hz4
              replace l_l := Nat.lt_of_lt_of_le l_l hz4
              replace hc := hc.keep he4 (by omega) (by omega)
              clear hb
              refine hK.out _ _ ?s11 (fun hHeld => ?_)
              case s11 => ((try dsimp only); (go_split_ands; (repeat' apply And.intro) <;> (first | assumption | exact set_other (set_other (by assumption) _ (.inl (by first | omega | (simp; omega)))) _ (.inl (by first | omega | (simp; omega))))))
              clear hK K
              try simp only [Act.put, List.setIfInBounds_toArray, List.set_cons_zero, List.set_cons_succ]
              refine wpAnyH_take (i := 10) (oi := { dst := some 14, op := Go.Op.move (Go.Operand.tmp 24), type := 54, pos := "l02_ledger.go:235", after := #[{ on := 9, ground := Go.Ground.data }], guard := none }) (v := ?v12) rfl (by kernel_rfl) (by kernel_rfl) (by kernel_rfl) (fun _ _ _ h => h) (Or.inl ⟨by rfl, ?y12⟩) (by assumption) ?_
              case y12 => (intro w hSw; (try dsimp only at hSw); go_simp; first | done | with_reducible rfl)
              try simp only [Act.put, List.setIfInBounds_toArray, List.set_cons_zero, List.set_cons_succ]
              refine wpAnyH_take (i := 11) (oi := { dst := some 25, op := Go.Op.extract (Go.Operand.tmp 14) 0, type := 34, pos := "l02_ledger.go:235", after := #[{ on := 10, ground := Go.Ground.data }], guard := none }) (v := ?v13) rfl (by kernel_rfl) (by kernel_rfl) (by kernel_rfl) (fun _ _ _ h => h) (Or.inl ⟨by rfl, ?y13⟩) (by assumption) ?_
              case y13 => (intro w hSw; (try dsimp only at hSw); go_simp; first | done | with_reducible rfl)
              try simp only [Act.put, List.setIfInBounds_toArray, List.set_cons_zero, List.set_cons_succ]
              refine wpAnyH_take (i := 12) (oi := { dst := some 26, op := Go.Op.extract (Go.Operand.tmp 14) 1, type := 3, pos := "l02_ledger.go:235", after := #[{ on := 10, ground := Go.Ground.data }, { on := 14, ground := Go.Ground.gcOnly Go.Departure.lateStores }], guard := none }) (v := ?v14) rfl (by kernel_rfl) (by kernel_rfl) (by kernel_rfl) (fun _ _ _ h => h) (Or.inl ⟨by rfl, ?y14⟩) (by assumption) ?_
              case y14 => (intro w hSw; (try dsimp only at hSw); go_simp; first | done | with_reducible rfl)
              try simp only [Act.put, List.setIfInBounds_toArray, List.set_cons_zero, List.set_cons_succ]
              refine wpAnyH_ready (rs := [13]) (by kernel_rfl) (by simp) ?_
              refine AllReadyH.cons (o := { dst := some 5, op := Go.Op.alloc 34, type := 0, pos := "l02_ledger.go:235", after := #[], guard := none }) rfl (fun K hK => ?k15) AllReadyH.nil
              go_simp
              have he5 : Eff 0 0 v4 (v4.alloc (.cells #[.int .i64 0, .slice none 0 0] 34)) := Eff.alloc _ _
              have hs5 : (v4.alloc (.cells #[.int .i64 0, .slice none 0 0] 34)).heap.size = v4.heap.size + 1 := (by simp)
              have nx_0 : (v4.alloc (.cells #[.int .i64 0, .slice none 0 0] 34)).cell? ⟨v4.heap.size, 0, none⟩ = some (.int .i64 0) := var_cell _ _ _ _ _ rfl
              have nx_1 : (v4.alloc (.cells #[.int .i64 0, .slice none 0 0] 34)).cell? ⟨v4.heap.size, 1, none⟩ = some (.slice none 0 0) := var_cell _ _ _ _ _ rfl
              have nx_f0 : (v4.alloc (.cells #[.int .i64 0, .slice none 0 0] 34)).frozen? ⟨v4.heap.size, 0, none⟩ = false := var_frozen _ _ _ _
              have nx_f1 : (v4.alloc (.cells #[.int .i64 0, .slice none 0 0] 34)).frozen? ⟨v4.heap.size, 1, none⟩ = false := var_frozen _ _ _ _
              generalize (v4.alloc (.cells #[.int .i64 0, .slice none 0 0] 34)) = v5 at *
              have hz5 : v4.heap.size ≤ v5.heap.size := he5.size
              have E5 : Eff g (g + 1) wr v5 := E4.step he5 (by omega)
              have S5 := E5.size
              replace o := o.keep he5 (by omega)
              replace op := op.keep he5 (by omega)
              replace r := r.keep he5 (by omega)
              replace res_f0 := (he5.frozen res_0 (by simp only; omega)).trans res_f0
              replace res_f1 := (he5.frozen res_1 (by simp only; omega)).trans res_f1
              replace l_f0 := (he5.frozen l_0 (by simp only; omega)).trans l_f0
              replace l_f1 := (he5.frozen l_1 (by simp only; omega)).trans l_f1
              replace res_0 := he5.cell res_0 (by simp only; omega)
              replace res_1 := he5.cell res_1 (by simp only; omega)
              replace l_0 := he5.cell l_0 (by simp only; omega)
              replace l_1 := he5.cell l_1 (by simp only; omega)
              replace res_l := Nat.lt_of_lt_of_le res_l hz5
              replace l_l := Nat.lt_of_lt_of_le l_l hz5
              replace hc := hc.keep he5 (by omega) (by omega)
              have nx_l : v4.heap.size < v5.heap.size := (by omega)
              have nx_b : v4.heap.size ≤ v5.heap.size := hz5
              have res_nx : W.heap.size < v4.heap.size := by omega
              have l_nx : W.heap.size + 1 < v4.heap.size := by omega
              clear hs5
              refine hK.out _ _ ?s15 (fun hHeld => ?_)
              case s15 => ((try dsimp only); (go_split_ands; (repeat' apply And.intro) <;> (first | assumption | exact set_other (set_other (by assumption) _ (.inl (by first | omega | (simp; omega)))) _ (.inl (by first | omega | (simp; omega))))))
              clear hK K
              try simp only [Act.put, List.setIfInBounds_toArray, List.set_cons_zero, List.set_cons_succ]
              refine wpAnyH_ready (rs := [14]) (by kernel_rfl) (by simp) ?_
              refine AllReadyH.cons (o := { dst := none, op := Go.Op.store 34 (Go.Operand.tmp 5) (Go.Operand.tmp 25), type := 0, pos := "l02_ledger.go:235", after := #[{ on := 13, ground := Go.Ground.data }, { on := 11, ground := Go.Ground.data }, { on := 9, ground := Go.Ground.chain }, { on := 0, ground := Go.Ground.phase }, { on := 1, ground := Go.Ground.phase }, { on := 2, ground := Go.Ground.phase }, { on := 3, ground := Go.Ground.phase }, { on := 4, ground := Go.Ground.phase }, { on := 5, ground := Go.Ground.phase }, { on := 6, ground := Go.Ground.phase }, { on := 7, ground := Go.Ground.phase }, { on := 8, ground := Go.Ground.phase }, { on := 9, ground := Go.Ground.phase }, { on := 10, ground := Go.Ground.phase }, { on := 11, ground := Go.Ground.phase }, { on := 12, ground := Go.Ground.textOnly Go.Departure.lateStores }, { on := 13, ground := Go.Ground.phase }], guard := none }) rfl (fun K hK => ?k16) AllReadyH.nil
              go_simp
              refine hK.out _ _ ?s16 (fun hHeld => ?_)
              case s16 => ((try dsimp only); (go_split_ands; (repeat' apply And.intro) <;> (first | assumption | exact set_other (set_other (by assumption) _ (.inl (by first | omega | (simp; omega)))) _ (.inl (by first | omega | (simp; omega))))))
              clear hK K
              try simp only [Act.put]
              refine wpAnyH_take (i := 15) (oi := { dst := some 6, op := Go.Op.assign (Go.Operand.tmp 26), type := 3, pos := "l02_ledger.go:235", after := #[{ on := 12, ground := Go.Ground.data }, { on := 14, ground := Go.Ground.chain }, { on := 0, ground := Go.Ground.phase }, { on := 1, ground := Go.Ground.phase }, { on := 2, ground := Go.Ground.phase }, { on := 3, ground := Go.Ground.phase }, { on := 4, ground := Go.Ground.phase }, { on := 5, ground := Go.Ground.phase }, { on := 6, ground := Go.Ground.phase }, { on := 7, ground := Go.Ground.phase }, { on := 8, ground := Go.Ground.phase }, { on := 9, ground := Go.Ground.phase }, { on := 10, ground := Go.Ground.phase }, { on := 11, ground := Go.Ground.phase }, { on := 12, ground := Go.Ground.phase }, { on := 13, ground := Go.Ground.phase }, { on := 14, ground := Go.Ground.phase }], guard := none }) (v := ?v17) rfl (by kernel_rfl) (by kernel_rfl) (by kernel_rfl) (fun _ _ _ h => h) (Or.inl ⟨by rfl, ?y17⟩) (by assumption) ?_
              case y17 => (intro w hSw; (try dsimp only at hSw); go_simp; first | done | with_reducible rfl)
              try simp only [Act.put, List.setIfInBounds_toArray, List.set_cons_zero, List.set_cons_succ]
              refine wpAnyH_done (by kernel_rfl) ?_ _
              have hro := Own.blk r
              have hrle := Own.le r
              go_wp2_with fail
              go_meet
              exact ⟨Cd, rfl, MidPst.mk hnr2 r (fun k hk => by have := hro k hk; omega) hc E5 (by omega) (by omega) (by omega) ⟨nx_0, nx_1, nx_f0, nx_f1⟩⟩
            case m11 =>
              refine AllReadyH.cons (o := { dst := some 5, op := Go.Op.alloc 34, type := 0, pos := "l02_ledger.go:235", after := #[], guard := none }) rfl (fun K hK => ?k18) AllReadyH.nil
              case k18 =>
                go_simp
                have he4 : Eff 0 0 v3 (v3.alloc (.cells #[.int .i64 0, .slice none 0 0] 34)) := Eff.alloc _ _
                have hs4 : (v3.alloc (.cells #[.int .i64 0, .slice none 0 0] 34)).heap.size = v3.heap.size + 1 := (by simp)
                have nx_0 : (v3.alloc (.cells #[.int .i64 0, .slice none 0 0] 34)).cell? ⟨v3.heap.size, 0, none⟩ = some (.int .i64 0) := var_cell _ _ _ _ _ rfl
                have nx_1 : (v3.alloc (.cells #[.int .i64 0, .slice none 0 0] 34)).cell? ⟨v3.heap.size, 1, none⟩ = some (.slice none 0 0) := var_cell _ _ _ _ _ rfl
                have nx_f0 : (v3.alloc (.cells #[.int .i64 0, .slice none 0 0] 34)).frozen? ⟨v3.heap.size, 0, none⟩ = false := var_frozen _ _ _ _
                have nx_f1 : (v3.alloc (.cells #[.int .i64 0, .slice none 0 0] 34)).frozen? ⟨v3.heap.size, 1, none⟩ = false := var_frozen _ _ _ _
                generalize (v3.alloc (.cells #[.int .i64 0, .slice none 0 0] 34)) = v4 at *
                have hz4 : v3.heap.size ≤ v4.heap.size := he4.size
                have E4 : Eff g (g + 1) wr v4 := E3.step he4 (by omega)
                have S4 := E4.size
                replace o := o.keep he4 (by omega)
                replace op := op.keep he4 (by omega)
                replace res_f0 := (he4.frozen res_0 (by simp only; omega)).trans res_f0
                replace res_f1 := (he4.frozen res_1 (by simp only; omega)).trans res_f1
                replace l_f0 := (he4.frozen l_0 (by simp only; omega)).trans l_f0
                replace l_f1 := (he4.frozen l_1 (by simp only; omega)).trans l_f1
                replace res_0 := he4.cell res_0 (by simp only; omega)
                replace res_1 := he4.cell res_1 (by simp only; omega)
                replace l_0 := he4.cell l_0 (by simp only; omega)
                replace l_1 := he4.cell l_1 (by simp only; omega)
                replace res_l := Nat.lt_of_lt_of_le res_l hz4
                replace l_l := Nat.lt_of_lt_of_le l_l hz4
                replace hc := hc.keep he4 (by omega) (by omega)
                have nx_l : v3.heap.size < v4.heap.size := (by omega)
                have nx_b : v3.heap.size ≤ v4.heap.size := hz4
                have res_nx : W.heap.size < v3.heap.size := by omega
                have l_nx : W.heap.size + 1 < v3.heap.size := by omega
                clear hs4
                refine hK.out _ _ ?s18 (fun hHeld => ?_)
                case s18 => ((try dsimp only); (go_split_ands; (repeat' apply And.intro) <;> (first | assumption | exact set_other (set_other (by assumption) _ (.inl (by first | omega | (simp; omega)))) _ (.inl (by first | omega | (simp; omega))))))
                clear hK K
                try simp only [Act.put, List.setIfInBounds_toArray, List.set_cons_zero, List.set_cons_succ]
                refine wpAnyH_ready (rs := [9]) (by kernel_rfl) (by simp) ?_
                refine AllReadyH.cons (o := { dst := some 24, op := Go.Op.call { callee := Go.Callee.value (Go.Operand.func 32), args := #[Go.Operand.tmp 15, Go.Operand.tmp 23], argTypes := #[34, 43] }, type := 54, pos := "l02_ledger.go:235", after := #[{ on := 0, ground := Go.Ground.data }, { on := 8, ground := Go.Ground.data }, { on := 8, ground := Go.Ground.chain }], guard := none }) rfl (fun K hK => ?k19) AllReadyH.nil
                go_simp
                go_at_call 32
                obtain ⟨Q, hQ⟩ : ∃ x, (postR q ls pq ps).1 = x := ⟨_, rfl⟩
                obtain ⟨R, hR⟩ : ∃ x, (postR q ls pq ps).2.1 = x := ⟨_, rfl⟩
                obtain ⟨Cd, hC⟩ : ∃ x, (postR q ls pq ps).2.2 = x := ⟨_, rfl⟩
                have nx_r : v3.heap.size < v4.heap.size := nx_l
                have hRl : R.length ≤ 302 := by rw [← hR]; exact postR_len q ls pq ps
                refine (spec_PostR hQ hR hC _ m _ _ np _ v4 (Own.rd o (Own.le o)) (Own.rd op (Own.le op)) (by omega) (by omega) (Own.caps o) (Own.caps op)).mono ?_
                rintro e v5 ⟨Ar, nr, cr, hnr, rfl, r, hb⟩
                have hnr2 : nr ≤ 302 := by omega
                clear hnr hQ hR hC hRl
                have he5 : Eff 0 0 v4 v5 := Eff.of hb
                have hz5 : v4.heap.size ≤ v5.heap.size := he5.size
                have E5 : Eff g (g + 1) wr v5 := E4.step he5 (by omega)
                have S5 := E5.size
                replace o := o.keep he5 (by omega)
                replace op := op.keep he5 (by omega)
                replace res_f0 := (he5.frozen res_0 (by simp only; omega)).trans res_f0
                replace res_f1 := (he5.frozen res_1 (by simp only; omega)).trans res_f1
                replace l_f0 := (he5.frozen l_0 (by simp only; omega)).trans l_f0
                replace l_f1 := (he5.frozen l_1 (by simp only; omega)).trans l_f1
                replace nx_f0 := (he5.frozen nx_0 (by simp only; omega)).trans nx_f0
                replace nx_f1 := (he5.frozen nx_1 (by simp only; omega)).trans nx_f1
                replace res_0 := he5.cell res_0 (by simp only; omega)
                replace res_1 := he5.cell res_1 (by simp only; omega)
                replace l_0 := he5.cell l_0 (by simp only; omega)
                replace l_1 := he5.cell l_1 (by simp only; omega)
                replace nx_0 := he5.cell nx_0 (by simp only; omega)
                replace nx_1 := he5.cell nx_1 (by simp only; omega)
                replace res_l := Nat.lt_of_lt_of_le res_l hz5
                replace l_l := Nat.lt_of_lt_of_le l_l hz5
                replace nx_l := Nat.lt_of_lt_of_le nx_l hz5
                replace hc := hc.keep he5 (by omega) (by omega)
                clear hb
                refine hK.out _ _ ?s19 (fun hHeld => ?_)
                case s19 => ((try dsimp only); (go_split_ands; (repeat' apply And.intro) <;> (first | assumption | exact set_other (set_other (by assumption) _ (.inl (by first | omega | (simp; omega)))) _ (.inl (by first | omega | (simp; omega))))))
                clear hK K
                try simp only [Act.put, List.setIfInBounds_toArray, List.set_cons_zero, List.set_cons_succ]
                refine wpAnyH_take (i := 10) (oi := { dst := some 14, op := Go.Op.move (Go.Operand.tmp 24), type := 54, pos := "l02_ledger.go:235", after := #[{ on := 9, ground := Go.Ground.data }], guard := none }) (v := ?v20) rfl (by kernel_rfl) (by kernel_rfl) (by kernel_rfl) (fun _ _ _ h => h) (Or.inl ⟨by rfl, ?y20⟩) (by assumption) ?_
                case y20 => (intro w hSw; (try dsimp only at hSw); go_simp; first | done | with_reducible rfl)
                try simp only [Act.put, List.setIfInBounds_toArray, List.set_cons_zero, List.set_cons_succ]
                refine wpAnyH_take (i := 11) (oi := { dst := some 25, op := Go.Op.extract (Go.Operand.tmp 14) 0, type := 34, pos := "l02_ledger.go:235", after := #[{ on := 10, ground := Go.Ground.data }], guard := none }) (v := ?v21) rfl (by kernel_rfl) (by kernel_rfl) (by kernel_rfl) (fun _ _ _ h => h) (Or.inl ⟨by rfl, ?y21⟩) (by assumption) ?_
                case y21 => (intro w hSw; (try dsimp only at hSw); go_simp; first | done | with_reducible rfl)
                try simp only [Act.put, List.setIfInBounds_toArray, List.set_cons_zero, List.set_cons_succ]
                refine wpAnyH_take (i := 12) (oi := { dst := some 26, op := Go.Op.extract (Go.Operand.tmp 14) 1, type := 3, pos := "l02_ledger.go:235", after := #[{ on := 10, ground := Go.Ground.data }, { on := 14, ground := Go.Ground.gcOnly Go.Departure.lateStores }], guard := none }) (v := ?v22) rfl (by kernel_rfl) (by kernel_rfl) (by kernel_rfl) (fun _ _ _ h => h) (Or.inl ⟨by rfl, ?y22⟩) (by assumption) ?_
                case y22 => (intro w hSw; (try dsimp only at hSw); go_simp; first | done | with_reducible rfl)
                try simp only [Act.put, List.setIfInBounds_toArray, List.set_cons_zero, List.set_cons_succ]
                refine wpAnyH_ready (rs := [14]) (by kernel_rfl) (by simp) ?_
                refine AllReadyH.cons (o := { dst := none, op := Go.Op.store 34 (Go.Operand.tmp 5) (Go.Operand.tmp 25), type := 0, pos := "l02_ledger.go:235", after := #[{ on := 13, ground := Go.Ground.data }, { on := 11, ground := Go.Ground.data }, { on := 9, ground := Go.Ground.chain }, { on := 0, ground := Go.Ground.phase }, { on := 1, ground := Go.Ground.phase }, { on := 2, ground := Go.Ground.phase }, { on := 3, ground := Go.Ground.phase }, { on := 4, ground := Go.Ground.phase }, { on := 5, ground := Go.Ground.phase }, { on := 6, ground := Go.Ground.phase }, { on := 7, ground := Go.Ground.phase }, { on := 8, ground := Go.Ground.phase }, { on := 9, ground := Go.Ground.phase }, { on := 10, ground := Go.Ground.phase }, { on := 11, ground := Go.Ground.phase }, { on := 12, ground := Go.Ground.textOnly Go.Departure.lateStores }, { on := 13, ground := Go.Ground.phase }], guard := none }) rfl (fun K hK => ?k23) AllReadyH.nil
                go_simp
                refine hK.out _ _ ?s23 (fun hHeld => ?_)
                case s23 => ((try dsimp only); (go_split_ands; (repeat' apply And.intro) <;> (first | assumption | exact set_other (set_other (by assumption) _ (.inl (by first | omega | (simp; omega)))) _ (.inl (by first | omega | (simp; omega))))))
                clear hK K
                try simp only [Act.put]
                refine wpAnyH_take (i := 15) (oi := { dst := some 6, op := Go.Op.assign (Go.Operand.tmp 26), type := 3, pos := "l02_ledger.go:235", after := #[{ on := 12, ground := Go.Ground.data }, { on := 14, ground := Go.Ground.chain }, { on := 0, ground := Go.Ground.phase }, { on := 1, ground := Go.Ground.phase }, { on := 2, ground := Go.Ground.phase }, { on := 3, ground := Go.Ground.phase }, { on := 4, ground := Go.Ground.phase }, { on := 5, ground := Go.Ground.phase }, { on := 6, ground := Go.Ground.phase }, { on := 7, ground := Go.Ground.phase }, { on := 8, ground := Go.Ground.phase }, { on := 9, ground := Go.Ground.phase }, { on := 10, ground := Go.Ground.phase }, { on := 11, ground := Go.Ground.phase }, { on := 12, ground := Go.Ground.phase }, { on := 13, ground := Go.Ground.phase }, { on := 14, ground := Go.Ground.phase }], guard := none }) (v := ?v24) rfl (by kernel_rfl) (by kernel_rfl) (by kernel_rfl) (fun _ _ _ h => h) (Or.inl ⟨by rfl, ?y24⟩) (by assumption) ?_
                case y24 => (intro w hSw; (try dsimp only at hSw); go_simp; first | done | with_reducible rfl)
                try simp only [Act.put, List.setIfInBounds_toArray, List.set_cons_zero, List.set_cons_succ]
                refine wpAnyH_done (by kernel_rfl) ?_ _
                have hro := Own.blk r
                have hrle := Own.le r
                go_wp2_with fail
                go_meet
                exact ⟨Cd, rfl, MidPst.mk hnr2 r (fun k hk => by have := hro k hk; omega) hc E5 (by omega) (by omega) (by omega) ⟨nx_0, nx_1, nx_f0, nx_f1⟩⟩
          case m10 =>
            refine AllReadyH.cons (o := { dst := some 5, op := Go.Op.alloc 34, type := 0, pos := "l02_ledger.go:235", after := #[], guard := none }) rfl (fun K hK => ?k25) AllReadyH.nil
            case k25 =>
              go_simp
              have he3 : Eff 0 0 v2 (v2.alloc (.cells #[.int .i64 0, .slice none 0 0] 34)) := Eff.alloc _ _
              have hs3 : (v2.alloc (.cells #[.int .i64 0, .slice none 0 0] 34)).heap.size = v2.heap.size + 1 := (by simp)
              have nx_0 : (v2.alloc (.cells #[.int .i64 0, .slice none 0 0] 34)).cell? ⟨v2.heap.size, 0, none⟩ = some (.int .i64 0) := var_cell _ _ _ _ _ rfl
              have nx_1 : (v2.alloc (.cells #[.int .i64 0, .slice none 0 0] 34)).cell? ⟨v2.heap.size, 1, none⟩ = some (.slice none 0 0) := var_cell _ _ _ _ _ rfl
              have nx_f0 : (v2.alloc (.cells #[.int .i64 0, .slice none 0 0] 34)).frozen? ⟨v2.heap.size, 0, none⟩ = false := var_frozen _ _ _ _
              have nx_f1 : (v2.alloc (.cells #[.int .i64 0, .slice none 0 0] 34)).frozen? ⟨v2.heap.size, 1, none⟩ = false := var_frozen _ _ _ _
              generalize (v2.alloc (.cells #[.int .i64 0, .slice none 0 0] 34)) = v3 at *
              have hz3 : v2.heap.size ≤ v3.heap.size := he3.size
              have E3 : Eff g (g + 1) wr v3 := E2.step he3 (by omega)
              have S3 := E3.size
              replace o := o.keep he3 (by omega)
              replace res_f0 := (he3.frozen res_0 (by simp only; omega)).trans res_f0
              replace res_f1 := (he3.frozen res_1 (by simp only; omega)).trans res_f1
              replace l_f0 := (he3.frozen l_0 (by simp only; omega)).trans l_f0
              replace l_f1 := (he3.frozen l_1 (by simp only; omega)).trans l_f1
              replace res_0 := he3.cell res_0 (by simp only; omega)
              replace res_1 := he3.cell res_1 (by simp only; omega)
              replace l_0 := he3.cell l_0 (by simp only; omega)
              replace l_1 := he3.cell l_1 (by simp only; omega)
              replace res_l := Nat.lt_of_lt_of_le res_l hz3
              replace l_l := Nat.lt_of_lt_of_le l_l hz3
              replace hc := hc.keep he3 (by omega) (by omega)
              have nx_l : v2.heap.size < v3.heap.size := (by omega)
              have nx_b : v2.heap.size ≤ v3.heap.size := hz3
              have res_nx : W.heap.size < v2.heap.size := by omega
              have l_nx : W.heap.size + 1 < v2.heap.size := by omega
              clear hs3
              refine hK.out _ _ ?s25 (fun hHeld => ?_)
              case s25 => ((try dsimp only); (go_split_ands; (repeat' apply And.intro) <;> (first | assumption | exact set_other (set_other (by assumption) _ (.inl (by first | omega | (simp; omega)))) _ (.inl (by first | omega | (simp; omega))))))
              clear hK K
              try simp only [Act.put, List.setIfInBounds_toArray, List.set_cons_zero, List.set_cons_succ]
              refine wpAnyH_ready (rs := [8]) (by kernel_rfl) (by simp) ?_
              refine AllReadyH.cons (o := { dst := some 23, op := Go.Op.call { callee := Go.Callee.value (Go.Operand.func 60), args := #[Go.Operand.tmp 16, Go.Operand.tmp 22], argTypes := #[85, 3] }, type := 43, pos := "l02_ledger.go:235", after := #[{ on := 1, ground := Go.Ground.data }, { on := 7, ground := Go.Ground.data }, { on := 6, ground := Go.Ground.chain }], guard := none }) rfl (fun K hK => ?k26) AllReadyH.nil
              go_simp
              go_at_call 60
              refine (l02Posting_any B g _ v3 hc).mono ?_
              rintro e v4 hpost
              obtain ⟨pq, Ap, np, cp, ps, rfl, hnp, hc, op, he⟩ := hpost
              have he4 : Eff (g) (g + 1) v3 v4 := he
              have hz4 : v3.heap.size ≤ v4.heap.size := he4.size
              have E4 : Eff g (g + 1) wr v4 := E3.step he4 (by omega)
              have S4 := E4.size
              replace o := o.keep he4 (by omega)
              replace res_f0 := (he4.frozen res_0 (by simp only; omega)).trans res_f0
              replace res_f1 := (he4.frozen res_1 (by simp only; omega)).trans res_f1
              replace l_f0 := (he4.frozen l_0 (by simp only; omega)).trans l_f0
              replace l_f1 := (he4.frozen l_1 (by simp only; omega)).trans l_f1
              replace nx_f0 := (he4.frozen nx_0 (by simp only; omega)).trans nx_f0
              replace nx_f1 := (he4.frozen nx_1 (by simp only; omega)).trans nx_f1
              replace res_0 := he4.cell res_0 (by simp only; omega)
              replace res_1 := he4.cell res_1 (by simp only; omega)
              replace l_0 := he4.cell l_0 (by simp only; omega)
              replace l_1 := he4.cell l_1 (by simp only; omega)
              replace nx_0 := he4.cell nx_0 (by simp only; omega)
              replace nx_1 := he4.cell nx_1 (by simp only; omega)
              replace res_l := Nat.lt_of_lt_of_le res_l hz4
              replace l_l := Nat.lt_of_lt_of_le l_l hz4
              replace nx_l := Nat.lt_of_lt_of_le nx_l hz4
              clear he
              refine hK.out _ _ ?s26 (fun hHeld => ?_)
              case s26 => ((try dsimp only); (go_split_ands; (repeat' apply And.intro) <;> (first | assumption | exact set_other (set_other (by assumption) _ (.inl (by first | omega | (simp; omega)))) _ (.inl (by first | omega | (simp; omega))))))
              clear hK K
              try simp only [Act.put, List.setIfInBounds_toArray, List.set_cons_zero, List.set_cons_succ]
              refine wpAnyH_ready (rs := [9]) (by kernel_rfl) (by simp) ?_
              refine AllReadyH.cons (o := { dst := some 24, op := Go.Op.call { callee := Go.Callee.value (Go.Operand.func 32), args := #[Go.Operand.tmp 15, Go.Operand.tmp 23], argTypes := #[34, 43] }, type := 54, pos := "l02_ledger.go:235", after := #[{ on := 0, ground := Go.Ground.data }, { on := 8, ground := Go.Ground.data }, { on := 8, ground := Go.Ground.chain }], guard := none }) rfl (fun K hK => ?k27) AllReadyH.nil
              go_simp
              go_at_call 32
              obtain ⟨Q, hQ⟩ : ∃ x, (postR q ls pq ps).1 = x := ⟨_, rfl⟩
              obtain ⟨R, hR⟩ : ∃ x, (postR q ls pq ps).2.1 = x := ⟨_, rfl⟩
              obtain ⟨Cd, hC⟩ : ∃ x, (postR q ls pq ps).2.2 = x := ⟨_, rfl⟩
              have nx_r : v2.heap.size < v4.heap.size := nx_l
              have hRl : R.length ≤ 302 := by rw [← hR]; exact postR_len q ls pq ps
              refine (spec_PostR hQ hR hC _ m _ _ np _ v4 (Own.rd o (Own.le o)) (Own.rd op (Own.le op)) (by omega) (by omega) (Own.caps o) (Own.caps op)).mono ?_
              rintro e v5 ⟨Ar, nr, cr, hnr, rfl, r, hb⟩
              have hnr2 : nr ≤ 302 := by omega
              clear hnr hQ hR hC hRl
              have he5 : Eff 0 0 v4 v5 := Eff.of hb
              have hz5 : v4.heap.size ≤ v5.heap.size := he5.size
              have E5 : Eff g (g + 1) wr v5 := E4.step he5 (by omega)
              have S5 := E5.size
              replace o := o.keep he5 (by omega)
              replace op := op.keep he5 (by omega)
              replace res_f0 := (he5.frozen res_0 (by simp only; omega)).trans res_f0
              replace res_f1 := (he5.frozen res_1 (by simp only; omega)).trans res_f1
              replace l_f0 := (he5.frozen l_0 (by simp only; omega)).trans l_f0
              replace l_f1 := (he5.frozen l_1 (by simp only; omega)).trans l_f1
              replace nx_f0 := (he5.frozen nx_0 (by simp only; omega)).trans nx_f0
              replace nx_f1 := (he5.frozen nx_1 (by simp only; omega)).trans nx_f1
              replace res_0 := he5.cell res_0 (by simp only; omega)
              replace res_1 := he5.cell res_1 (by simp only; omega)
              replace l_0 := he5.cell l_0 (by simp only; omega)
              replace l_1 := he5.cell l_1 (by simp only; omega)
              replace nx_0 := he5.cell nx_0 (by simp only; omega)
              replace nx_1 := he5.cell nx_1 (by simp only; omega)
              replace res_l := Nat.lt_of_lt_of_le res_l hz5
              replace l_l := Nat.lt_of_lt_of_le l_l hz5
              replace nx_l := Nat.lt_of_lt_of_le nx_l hz5
              replace hc := hc.keep he5 (by omega) (by omega)
              clear hb
              refine hK.out _ _ ?s27 (fun hHeld => ?_)
              case s27 => ((try dsimp only); (go_split_ands; (repeat' apply And.intro) <;> (first | assumption | exact set_other (set_other (by assumption) _ (.inl (by first | omega | (simp; omega)))) _ (.inl (by first | omega | (simp; omega))))))
              clear hK K
              try simp only [Act.put, List.setIfInBounds_toArray, List.set_cons_zero, List.set_cons_succ]
              refine wpAnyH_take (i := 10) (oi := { dst := some 14, op := Go.Op.move (Go.Operand.tmp 24), type := 54, pos := "l02_ledger.go:235", after := #[{ on := 9, ground := Go.Ground.data }], guard := none }) (v := ?v28) rfl (by kernel_rfl) (by kernel_rfl) (by kernel_rfl) (fun _ _ _ h => h) (Or.inl ⟨by rfl, ?y28⟩) (by assumption) ?_
              case y28 => (intro w hSw; (try dsimp only at hSw); go_simp; first | done | with_reducible rfl)
              try simp only [Act.put, List.setIfInBounds_toArray, List.set_cons_zero, List.set_cons_succ]
              refine wpAnyH_take (i := 11) (oi := { dst := some 25, op := Go.Op.extract (Go.Operand.tmp 14) 0, type := 34, pos := "l02_ledger.go:235", after := #[{ on := 10, ground := Go.Ground.data }], guard := none }) (v := ?v29) rfl (by kernel_rfl) (by kernel_rfl) (by kernel_rfl) (fun _ _ _ h => h) (Or.inl ⟨by rfl, ?y29⟩) (by assumption) ?_
              case y29 => (intro w hSw; (try dsimp only at hSw); go_simp; first | done | with_reducible rfl)
              try simp only [Act.put, List.setIfInBounds_toArray, List.set_cons_zero, List.set_cons_succ]
              refine wpAnyH_take (i := 12) (oi := { dst := some 26, op := Go.Op.extract (Go.Operand.tmp 14) 1, type := 3, pos := "l02_ledger.go:235", after := #[{ on := 10, ground := Go.Ground.data }, { on := 14, ground := Go.Ground.gcOnly Go.Departure.lateStores }], guard := none }) (v := ?v30) rfl (by kernel_rfl) (by kernel_rfl) (by kernel_rfl) (fun _ _ _ h => h) (Or.inl ⟨by rfl, ?y30⟩) (by assumption) ?_
              case y30 => (intro w hSw; (try dsimp only at hSw); go_simp; first | done | with_reducible rfl)
              try simp only [Act.put, List.setIfInBounds_toArray, List.set_cons_zero, List.set_cons_succ]
              refine wpAnyH_ready (rs := [14]) (by kernel_rfl) (by simp) ?_
              refine AllReadyH.cons (o := { dst := none, op := Go.Op.store 34 (Go.Operand.tmp 5) (Go.Operand.tmp 25), type := 0, pos := "l02_ledger.go:235", after := #[{ on := 13, ground := Go.Ground.data }, { on := 11, ground := Go.Ground.data }, { on := 9, ground := Go.Ground.chain }, { on := 0, ground := Go.Ground.phase }, { on := 1, ground := Go.Ground.phase }, { on := 2, ground := Go.Ground.phase }, { on := 3, ground := Go.Ground.phase }, { on := 4, ground := Go.Ground.phase }, { on := 5, ground := Go.Ground.phase }, { on := 6, ground := Go.Ground.phase }, { on := 7, ground := Go.Ground.phase }, { on := 8, ground := Go.Ground.phase }, { on := 9, ground := Go.Ground.phase }, { on := 10, ground := Go.Ground.phase }, { on := 11, ground := Go.Ground.phase }, { on := 12, ground := Go.Ground.textOnly Go.Departure.lateStores }, { on := 13, ground := Go.Ground.phase }], guard := none }) rfl (fun K hK => ?k31) AllReadyH.nil
              go_simp
              refine hK.out _ _ ?s31 (fun hHeld => ?_)
              case s31 => ((try dsimp only); (go_split_ands; (repeat' apply And.intro) <;> (first | assumption | exact set_other (set_other (by assumption) _ (.inl (by first | omega | (simp; omega)))) _ (.inl (by first | omega | (simp; omega))))))
              clear hK K
              try simp only [Act.put]
              refine wpAnyH_take (i := 15) (oi := { dst := some 6, op := Go.Op.assign (Go.Operand.tmp 26), type := 3, pos := "l02_ledger.go:235", after := #[{ on := 12, ground := Go.Ground.data }, { on := 14, ground := Go.Ground.chain }, { on := 0, ground := Go.Ground.phase }, { on := 1, ground := Go.Ground.phase }, { on := 2, ground := Go.Ground.phase }, { on := 3, ground := Go.Ground.phase }, { on := 4, ground := Go.Ground.phase }, { on := 5, ground := Go.Ground.phase }, { on := 6, ground := Go.Ground.phase }, { on := 7, ground := Go.Ground.phase }, { on := 8, ground := Go.Ground.phase }, { on := 9, ground := Go.Ground.phase }, { on := 10, ground := Go.Ground.phase }, { on := 11, ground := Go.Ground.phase }, { on := 12, ground := Go.Ground.phase }, { on := 13, ground := Go.Ground.phase }, { on := 14, ground := Go.Ground.phase }], guard := none }) (v := ?v32) rfl (by kernel_rfl) (by kernel_rfl) (by kernel_rfl) (fun _ _ _ h => h) (Or.inl ⟨by rfl, ?y32⟩) (by assumption) ?_
              case y32 => (intro w hSw; (try dsimp only at hSw); go_simp; first | done | with_reducible rfl)
              try simp only [Act.put, List.setIfInBounds_toArray, List.set_cons_zero, List.set_cons_succ]
              refine wpAnyH_done (by kernel_rfl) ?_ _
              have hro := Own.blk r
              have hrle := Own.le r
              go_wp2_with fail
              go_meet
              exact ⟨Cd, rfl, MidPst.mk hnr2 r (fun k hk => by have := hro k hk; omega) hc E5 (by omega) (by omega) (by omega) ⟨nx_0, nx_1, nx_f0, nx_f1⟩⟩
        case m8 =>
          refine AllReadyH.cons (o := { dst := some 5, op := Go.Op.alloc 34, type := 0, pos := "l02_ledger.go:235", after := #[], guard := none }) rfl (fun K hK => ?k33) AllReadyH.nil
          case k33 =>
            go_simp
            have he2 : Eff 0 0 v0 (v0.alloc (.cells #[.int .i64 0, .slice none 0 0] 34)) := Eff.alloc _ _
            have hs2 : (v0.alloc (.cells #[.int .i64 0, .slice none 0 0] 34)).heap.size = v0.heap.size + 1 := (by simp)
            have nx_0 : (v0.alloc (.cells #[.int .i64 0, .slice none 0 0] 34)).cell? ⟨v0.heap.size, 0, none⟩ = some (.int .i64 0) := var_cell _ _ _ _ _ rfl
            have nx_1 : (v0.alloc (.cells #[.int .i64 0, .slice none 0 0] 34)).cell? ⟨v0.heap.size, 1, none⟩ = some (.slice none 0 0) := var_cell _ _ _ _ _ rfl
            have nx_f0 : (v0.alloc (.cells #[.int .i64 0, .slice none 0 0] 34)).frozen? ⟨v0.heap.size, 0, none⟩ = false := var_frozen _ _ _ _
            have nx_f1 : (v0.alloc (.cells #[.int .i64 0, .slice none 0 0] 34)).frozen? ⟨v0.heap.size, 1, none⟩ = false := var_frozen _ _ _ _
            generalize (v0.alloc (.cells #[.int .i64 0, .slice none 0 0] 34)) = v2 at *
            have hz2 : v0.heap.size ≤ v2.heap.size := he2.size
            have E2 : Eff g (g + 1) wr v2 := E1.step he2 (by omega)
            have S2 := E2.size
            replace o := o.keep he2 (by omega)
            replace res_f0 := (he2.frozen res_0 (by simp only; omega)).trans res_f0
            replace res_f1 := (he2.frozen res_1 (by simp only; omega)).trans res_f1
            replace l_f0 := (he2.frozen l_0 (by simp only; omega)).trans l_f0
            replace l_f1 := (he2.frozen l_1 (by simp only; omega)).trans l_f1
            replace res_0 := he2.cell res_0 (by simp only; omega)
            replace res_1 := he2.cell res_1 (by simp only; omega)
            replace l_0 := he2.cell l_0 (by simp only; omega)
            replace l_1 := he2.cell l_1 (by simp only; omega)
            replace res_l := Nat.lt_of_lt_of_le res_l hz2
            replace l_l := Nat.lt_of_lt_of_le l_l hz2
            replace hc := hc.keep he2 (by omega) (by omega)
            have nx_l : v0.heap.size < v2.heap.size := (by omega)
            have nx_b : v0.heap.size ≤ v2.heap.size := hz2
            have res_nx : W.heap.size < v0.heap.size := by omega
            have l_nx : W.heap.size + 1 < v0.heap.size := by omega
            clear hs2
            refine hK.out _ _ ?s33 (fun hHeld => ?_)
            case s33 => ((try dsimp only); (go_split_ands; (repeat' apply And.intro) <;> (first | assumption | exact set_other (set_other (by assumption) _ (.inl (by first | omega | (simp; omega)))) _ (.inl (by first | omega | (simp; omega))))))
            clear hK K
            try simp only [Act.put, List.setIfInBounds_toArray, List.set_cons_zero, List.set_cons_succ]
            refine wpAnyH_ready (rs := [6]) (by kernel_rfl) (by simp) ?_
            refine AllReadyH.cons (o := { dst := some 21, op := Go.Op.call { callee := Go.Callee.value (Go.Operand.func 61), args := #[Go.Operand.tmp 20, Go.Operand.const (Go.Value.int Go.IntKind.i64 3)], argTypes := #[85, 3] }, type := 3, pos := "l02_ledger.go:235", after := #[{ on := 5, ground := Go.Ground.data }], guard := none }) rfl (fun K hK => ?k34) AllReadyH.nil
            go_simp
            go_at_call 61
            refine (l01Below_any B g 3 (by omega) v2 hc).mono ?_
            rintro e v3 hpost
            obtain ⟨z, rfl, ⟨z_0, z_1, -⟩, hc, he⟩ := hpost.eff
            clear hpost
            replace z_1 := z_1 (by omega)
            have he3 : Eff (g) (g + 1) v2 v3 := he
            have hz3 : v2.heap.size ≤ v3.heap.size := he3.size
            have E3 : Eff g (g + 1) wr v3 := E2.step he3 (by omega)
            have S3 := E3.size
            replace o := o.keep he3 (by omega)
            replace res_f0 := (he3.frozen res_0 (by simp only; omega)).trans res_f0
            replace res_f1 := (he3.frozen res_1 (by simp only; omega)).trans res_f1
            replace l_f0 := (he3.frozen l_0 (by simp only; omega)).trans l_f0
            replace l_f1 := (he3.frozen l_1 (by simp only; omega)).trans l_f1
            replace nx_f0 := (he3.frozen nx_0 (by simp only; omega)).trans nx_f0
            replace nx_f1 := (he3.frozen nx_1 (by simp only; omega)).trans nx_f1
            replace res_0 := he3.cell res_0 (by simp only; omega)
            replace res_1 := he3.cell res_1 (by simp only; omega)
            replace l_0 := he3.cell l_0 (by simp only; omega)
            replace l_1 := he3.cell l_1 (by simp only; omega)
            replace nx_0 := he3.cell nx_0 (by simp only; omega)
            replace nx_1 := he3.cell nx_1 (by simp only; omega)
            replace res_l := Nat.lt_of_lt_of_le res_l hz3
            replace l_l := Nat.lt_of_lt_of_le l_l hz3
            replace nx_l := Nat.lt_of_lt_of_le nx_l hz3
            clear he
            refine hK.out _ _ ?s34 (fun hHeld => ?_)
            case s34 => ((try dsimp only); (go_split_ands; (repeat' apply And.intro) <;> (first | assumption | exact set_other (set_other (by assumption) _ (.inl (by first | omega | (simp; omega)))) _ (.inl (by first | omega | (simp; omega))))))
            clear hK K
            try simp only [Act.put, List.setIfInBounds_toArray, List.set_cons_zero, List.set_cons_succ]
            refine wpAnyH_take (i := 7) (oi := { dst := some 22, op := Go.Op.binOp Go.BinOp.add 3 (Go.Operand.tmp 19) (Go.Operand.tmp 21) 3, type := 3, pos := "l02_ledger.go:235", after := #[{ on := 4, ground := Go.Ground.data }, { on := 6, ground := Go.Ground.data }], guard := none }) (v := ?v35) rfl (by kernel_rfl) (by kernel_rfl) (by kernel_rfl) (fun _ _ _ h => h) (Or.inl ⟨by rfl, ?y35⟩) (by assumption) ?_
            case y35 => (intro w hSw; (try dsimp only at hSw); go_simp; first | done | with_reducible rfl)
            try simp only [Act.put, List.setIfInBounds_toArray, List.set_cons_zero, List.set_cons_succ]
            refine wpAnyH_ready (rs := [8]) (by kernel_rfl) (by simp) ?_
            refine AllReadyH.cons (o := { dst := some 23, op := Go.Op.call { callee := Go.Callee.value (Go.Operand.func 60), args := #[Go.Operand.tmp 16, Go.Operand.tmp 22], argTypes := #[85, 3] }, type := 43, pos := "l02_ledger.go:235", after := #[{ on := 1, ground := Go.Ground.data }, { on := 7, ground := Go.Ground.data }, { on := 6, ground := Go.Ground.chain }], guard := none }) rfl (fun K hK => ?k36) AllReadyH.nil
            go_simp
            go_at_call 60
            refine (l02Posting_any B g _ v3 hc).mono ?_
            rintro e v4 hpost
            obtain ⟨pq, Ap, np, cp, ps, rfl, hnp, hc, op, he⟩ := hpost
            have he4 : Eff (g) (g + 1) v3 v4 := he
            have hz4 : v3.heap.size ≤ v4.heap.size := he4.size
            have E4 : Eff g (g + 1) wr v4 := E3.step he4 (by omega)
            have S4 := E4.size
            replace o := o.keep he4 (by omega)
            replace res_f0 := (he4.frozen res_0 (by simp only; omega)).trans res_f0
            replace res_f1 := (he4.frozen res_1 (by simp only; omega)).trans res_f1
            replace l_f0 := (he4.frozen l_0 (by simp only; omega)).trans l_f0
            replace l_f1 := (he4.frozen l_1 (by simp only; omega)).trans l_f1
            replace nx_f0 := (he4.frozen nx_0 (by simp only; omega)).trans nx_f0
            replace nx_f1 := (he4.frozen nx_1 (by simp only; omega)).trans nx_f1
            replace res_0 := he4.cell res_0 (by simp only; omega)
            replace res_1 := he4.cell res_1 (by simp only; omega)
            replace l_0 := he4.cell l_0 (by simp only; omega)
            replace l_1 := he4.cell l_1 (by simp only; omega)
            replace nx_0 := he4.cell nx_0 (by simp only; omega)
            replace nx_1 := he4.cell nx_1 (by simp only; omega)
            replace res_l := Nat.lt_of_lt_of_le res_l hz4
            replace l_l := Nat.lt_of_lt_of_le l_l hz4
            replace nx_l := Nat.lt_of_lt_of_le nx_l hz4
            clear he
            refine hK.out _ _ ?s36 (fun hHeld => ?_)
            case s36 => ((try dsimp only); (go_split_ands; (repeat' apply And.intro) <;> (first | assumption | exact set_other (set_other (by assumption) _ (.inl (by first | omega | (simp; omega)))) _ (.inl (by first | omega | (simp; omega))))))
            clear hK K
            try simp only [Act.put, List.setIfInBounds_toArray, List.set_cons_zero, List.set_cons_succ]
            refine wpAnyH_ready (rs := [9]) (by kernel_rfl) (by simp) ?_
            refine AllReadyH.cons (o := { dst := some 24, op := Go.Op.call { callee := Go.Callee.value (Go.Operand.func 32), args := #[Go.Operand.tmp 15, Go.Operand.tmp 23], argTypes := #[34, 43] }, type := 54, pos := "l02_ledger.go:235", after := #[{ on := 0, ground := Go.Ground.data }, { on := 8, ground := Go.Ground.data }, { on := 8, ground := Go.Ground.chain }], guard := none }) rfl (fun K hK => ?k37) AllReadyH.nil
            go_simp
            go_at_call 32
            obtain ⟨Q, hQ⟩ : ∃ x, (postR q ls pq ps).1 = x := ⟨_, rfl⟩
            obtain ⟨R, hR⟩ : ∃ x, (postR q ls pq ps).2.1 = x := ⟨_, rfl⟩
            obtain ⟨Cd, hC⟩ : ∃ x, (postR q ls pq ps).2.2 = x := ⟨_, rfl⟩
            have nx_r : v0.heap.size < v4.heap.size := nx_l
            have hRl : R.length ≤ 302 := by rw [← hR]; exact postR_len q ls pq ps
            refine (spec_PostR hQ hR hC _ m _ _ np _ v4 (Own.rd o (Own.le o)) (Own.rd op (Own.le op)) (by omega) (by omega) (Own.caps o) (Own.caps op)).mono ?_
            rintro e v5 ⟨Ar, nr, cr, hnr, rfl, r, hb⟩
            have hnr2 : nr ≤ 302 := by omega
            clear hnr hQ hR hC hRl
            have he5 : Eff 0 0 v4 v5 := Eff.of hb
            have hz5 : v4.heap.size ≤ v5.heap.size := he5.size
            have E5 : Eff g (g + 1) wr v5 := E4.step he5 (by omega)
            have S5 := E5.size
            replace o := o.keep he5 (by omega)
            replace op := op.keep he5 (by omega)
            replace res_f0 := (he5.frozen res_0 (by simp only; omega)).trans res_f0
            replace res_f1 := (he5.frozen res_1 (by simp only; omega)).trans res_f1
            replace l_f0 := (he5.frozen l_0 (by simp only; omega)).trans l_f0
            replace l_f1 := (he5.frozen l_1 (by simp only; omega)).trans l_f1
            replace nx_f0 := (he5.frozen nx_0 (by simp only; omega)).trans nx_f0
            replace nx_f1 := (he5.frozen nx_1 (by simp only; omega)).trans nx_f1
            replace res_0 := he5.cell res_0 (by simp only; omega)
            replace res_1 := he5.cell res_1 (by simp only; omega)
            replace l_0 := he5.cell l_0 (by simp only; omega)
            replace l_1 := he5.cell l_1 (by simp only; omega)
            replace nx_0 := he5.cell nx_0 (by simp only; omega)
            replace nx_1 := he5.cell nx_1 (by simp only; omega)
            replace res_l := Nat.lt_of_lt_of_le res_l hz5
            replace l_l := Nat.lt_of_lt_of_le l_l hz5
            replace nx_l := Nat.lt_of_lt_of_le nx_l hz5
            replace hc := hc.keep he5 (by omega) (by omega)
            clear hb
            refine hK.out _ _ ?s37 (fun hHeld => ?_)
            case s37 => ((try dsimp only); (go_split_ands; (repeat' apply And.intro) <;> (first | assumption | exact set_other (set_other (by assumption) _ (.inl (by first | omega | (simp; omega)))) _ (.inl (by first | omega | (simp; omega))))))
            clear hK K
            try simp only [Act.put, List.setIfInBounds_toArray, List.set_cons_zero, List.set_cons_succ]
            refine wpAnyH_take (i := 10) (oi := { dst := some 14, op := Go.Op.move (Go.Operand.tmp 24), type := 54, pos := "l02_ledger.go:235", after := #[{ on := 9, ground := Go.Ground.data }], guard := none }) (v := ?v38) rfl (by kernel_rfl) (by kernel_rfl) (by kernel_rfl) (fun _ _ _ h => h) (Or.inl ⟨by rfl, ?y38⟩) (by assumption) ?_
            case y38 => (intro w hSw; (try dsimp only at hSw); go_simp; first | done | with_reducible rfl)
            try simp only [Act.put, List.setIfInBounds_toArray, List.set_cons_zero, List.set_cons_succ]
            refine wpAnyH_take (i := 11) (oi := { dst := some 25, op := Go.Op.extract (Go.Operand.tmp 14) 0, type := 34, pos := "l02_ledger.go:235", after := #[{ on := 10, ground := Go.Ground.data }], guard := none }) (v := ?v39) rfl (by kernel_rfl) (by kernel_rfl) (by kernel_rfl) (fun _ _ _ h => h) (Or.inl ⟨by rfl, ?y39⟩) (by assumption) ?_
            case y39 => (intro w hSw; (try dsimp only at hSw); go_simp; first | done | with_reducible rfl)
            try simp only [Act.put, List.setIfInBounds_toArray, List.set_cons_zero, List.set_cons_succ]
            refine wpAnyH_take (i := 12) (oi := { dst := some 26, op := Go.Op.extract (Go.Operand.tmp 14) 1, type := 3, pos := "l02_ledger.go:235", after := #[{ on := 10, ground := Go.Ground.data }, { on := 14, ground := Go.Ground.gcOnly Go.Departure.lateStores }], guard := none }) (v := ?v40) rfl (by kernel_rfl) (by kernel_rfl) (by kernel_rfl) (fun _ _ _ h => h) (Or.inl ⟨by rfl, ?y40⟩) (by assumption) ?_
            case y40 => (intro w hSw; (try dsimp only at hSw); go_simp; first | done | with_reducible rfl)
            try simp only [Act.put, List.setIfInBounds_toArray, List.set_cons_zero, List.set_cons_succ]
            refine wpAnyH_ready (rs := [14]) (by kernel_rfl) (by simp) ?_
            refine AllReadyH.cons (o := { dst := none, op := Go.Op.store 34 (Go.Operand.tmp 5) (Go.Operand.tmp 25), type := 0, pos := "l02_ledger.go:235", after := #[{ on := 13, ground := Go.Ground.data }, { on := 11, ground := Go.Ground.data }, { on := 9, ground := Go.Ground.chain }, { on := 0, ground := Go.Ground.phase }, { on := 1, ground := Go.Ground.phase }, { on := 2, ground := Go.Ground.phase }, { on := 3, ground := Go.Ground.phase }, { on := 4, ground := Go.Ground.phase }, { on := 5, ground := Go.Ground.phase }, { on := 6, ground := Go.Ground.phase }, { on := 7, ground := Go.Ground.phase }, { on := 8, ground := Go.Ground.phase }, { on := 9, ground := Go.Ground.phase }, { on := 10, ground := Go.Ground.phase }, { on := 11, ground := Go.Ground.phase }, { on := 12, ground := Go.Ground.textOnly Go.Departure.lateStores }, { on := 13, ground := Go.Ground.phase }], guard := none }) rfl (fun K hK => ?k41) AllReadyH.nil
            go_simp
            refine hK.out _ _ ?s41 (fun hHeld => ?_)
            case s41 => ((try dsimp only); (go_split_ands; (repeat' apply And.intro) <;> (first | assumption | exact set_other (set_other (by assumption) _ (.inl (by first | omega | (simp; omega)))) _ (.inl (by first | omega | (simp; omega))))))
            clear hK K
            try simp only [Act.put]
            refine wpAnyH_take (i := 15) (oi := { dst := some 6, op := Go.Op.assign (Go.Operand.tmp 26), type := 3, pos := "l02_ledger.go:235", after := #[{ on := 12, ground := Go.Ground.data }, { on := 14, ground := Go.Ground.chain }, { on := 0, ground := Go.Ground.phase }, { on := 1, ground := Go.Ground.phase }, { on := 2, ground := Go.Ground.phase }, { on := 3, ground := Go.Ground.phase }, { on := 4, ground := Go.Ground.phase }, { on := 5, ground := Go.Ground.phase }, { on := 6, ground := Go.Ground.phase }, { on := 7, ground := Go.Ground.phase }, { on := 8, ground := Go.Ground.phase }, { on := 9, ground := Go.Ground.phase }, { on := 10, ground := Go.Ground.phase }, { on := 11, ground := Go.Ground.phase }, { on := 12, ground := Go.Ground.phase }, { on := 13, ground := Go.Ground.phase }, { on := 14, ground := Go.Ground.phase }], guard := none }) (v := ?v42) rfl (by kernel_rfl) (by kernel_rfl) (by kernel_rfl) (fun _ _ _ h => h) (Or.inl ⟨by rfl, ?y42⟩) (by assumption) ?_
            case y42 => (intro w hSw; (try dsimp only at hSw); go_simp; first | done | with_reducible rfl)
            try simp only [Act.put, List.setIfInBounds_toArray, List.set_cons_zero, List.set_cons_succ]
            refine wpAnyH_done (by kernel_rfl) ?_ _
            have hro := Own.blk r
            have hrle := Own.le r
            go_wp2_with fail
            go_meet
            exact ⟨Cd, rfl, MidPst.mk hnr2 r (fun k hk => by have := hro k hk; omega) hc E5 (by omega) (by omega) (by omega) ⟨nx_0, nx_1, nx_f0, nx_f1⟩⟩
      case rest =>
        obtain ⟨Cd, rfl, b2, q2, A2, n2, c2, lo2, hi2, ls2, rfl, hn2, hb1, hb2, hne, hlo, ⟨nx_0, nx_1, nx_f0, nx_f1⟩, r, hcn, he⟩ := hcut
        have he1 : Eff g (g + 1) wr wc := he
        have hz1 : wr.heap.size ≤ wc.heap.size := he1.size
        have E1 : Eff g (g + 1) W wc := E0.step he1 (by omega)
        have S1 := E1.size
        replace o := o.keep he1 (by omega)
        replace res_f0 := (he1.frozen res_0 (by simp only; omega)).trans res_f0
        replace res_f1 := (he1.frozen res_1 (by simp only; omega)).trans res_f1
        replace l_f0 := (he1.frozen l_0 (by simp only; omega)).trans l_f0
        replace l_f1 := (he1.frozen l_1 (by simp only; omega)).trans l_f1
        replace res_0 := he1.cell res_0 (by simp only; omega)
        replace res_1 := he1.cell res_1 (by simp only; omega)
        replace l_0 := he1.cell l_0 (by simp only; omega)
        replace l_1 := he1.cell l_1 (by simp only; omega)
        replace res_l := Nat.lt_of_lt_of_le res_l hz1
        replace l_l := Nat.lt_of_lt_of_le l_l hz1
        clear hc he
        have hc := hcn
        clear hcn
        by_cases hcd : Cd = 0
        · skip
          subst hcd
          go_upto_region 4 with fail
          have he2 : Eff (W.heap.size + 1) (W.heap.size + 1 + 1) wc (wc.setCell ⟨W.heap.size + 1, 0, none⟩ (.int .i64 q2)) := eff_set _ _ _ _
          replace res_f0 := (he2.frozen res_0 (by simp only; omega)).trans res_f0
          replace res_f1 := (he2.frozen res_1 (by simp only; omega)).trans res_f1
          replace l_f0 := set_frozen (p := ⟨W.heap.size + 1, 0, none⟩) l_f0 (.int .i64 q2)
          replace l_f1 := set_frozen (p := ⟨W.heap.size + 1, 0, none⟩) l_f1 (.int .i64 q2)
          replace nx_f0 := (he2.frozen nx_0 (by simp only; omega)).trans nx_f0
          replace nx_f1 := (he2.frozen nx_1 (by simp only; omega)).trans nx_f1
          replace res_0 := he2.cell res_0 (by simp only; omega)
          replace res_1 := he2.cell res_1 (by simp only; omega)
          replace l_0 := set_same l_0 (.int .i64 q2)
          replace l_1 := set_other (b' := W.heap.size + 1) (o' := 0) l_1 (.int .i64 q2) (.inr (by omega))
          replace nx_0 := he2.cell nx_0 (by simp only; omega)
          replace nx_1 := he2.cell nx_1 (by simp only; omega)
          have hz2 : wc.heap.size ≤ (wc.setCell ⟨W.heap.size + 1, 0, none⟩ (.int .i64 q2)).heap.size := he2.size
          generalize (wc.setCell ⟨W.heap.size + 1, 0, none⟩ (.int .i64 q2)) = u2 at *
          have E2 : Eff g (g + 1) W u2 := E1.step he2 (by omega)
          have S2 := E2.size
          replace o := o.keep he2 (by omega)
          replace r := r.keep he2 (by omega)
          replace res_l := Nat.lt_of_lt_of_le res_l hz2
          replace l_l := Nat.lt_of_lt_of_le l_l hz2
          replace hc := hc.keep he2 (by omega) (by omega)
          have he3 : Eff (W.heap.size + 1) (W.heap.size + 1 + 1) u2 (u2.setCell ⟨W.heap.size + 1, 1, none⟩ (.slice A2 n2 c2)) := eff_set _ _ _ _
          replace res_f0 := (he3.frozen res_0 (by simp only; omega)).trans res_f0
          replace res_f1 := (he3.frozen res_1 (by simp only; omega)).trans res_f1
          replace l_f0 := set_frozen (p := ⟨W.heap.size + 1, 1, none⟩) l_f0 (.slice A2 n2 c2)
          replace l_f1 := set_frozen (p := ⟨W.heap.size + 1, 1, none⟩) l_f1 (.slice A2 n2 c2)
          replace nx_f0 := (he3.frozen nx_0 (by simp only; omega)).trans nx_f0
          replace nx_f1 := (he3.frozen nx_1 (by simp only; omega)).trans nx_f1
          replace res_0 := he3.cell res_0 (by simp only; omega)
          replace res_1 := he3.cell res_1 (by simp only; omega)
          replace l_0 := set_other (b' := W.heap.size + 1) (o' := 1) l_0 (.slice A2 n2 c2) (.inr (by omega))
          replace l_1 := set_same l_1 (.slice A2 n2 c2)
          replace nx_0 := he3.cell nx_0 (by simp only; omega)
          replace nx_1 := he3.cell nx_1 (by simp only; omega)
          have hz3 : u2.heap.size ≤ (u2.setCell ⟨W.heap.size + 1, 1, none⟩ (.slice A2 n2 c2)).heap.size := he3.size
          generalize (u2.setCell ⟨W.heap.size + 1, 1, none⟩ (.slice A2 n2 c2)) = u3 at *
          have E3 : Eff g (g + 1) W u3 := E2.step he3 (by omega)
          have S3 := E3.size
          replace o := o.keep he3 (by omega)
          replace r := r.keep he3 (by omega)
          replace res_l := Nat.lt_of_lt_of_le res_l hz3
          replace l_l := Nat.lt_of_lt_of_le l_l hz3
          replace hc := hc.keep he3 (by omega) (by omega)
          go_wp2_with fail
          go_roundw
          case rel => exact ⟨k, n2, c2, q2, A2, ls2, by omega, by omega, by go_num, Own.wide r (by omega) (Own.le r) (Nat.le_refl _), hc, E3, res_0, res_1, res_f0, res_f1, l_0, l_1, l_f0, l_f1, l_l⟩
          case measure => simp [intOf] <;> omega
        · skip
          have hcd0 : (Cd == 0) = false := by simp; exact hcd
          go_wp2_with fail
          go_roundw
          case rel => exact ⟨k, m, c, q, A, ls, by omega, hm, by go_num, Own.wide o (by omega) (Own.le o) (Nat.le_refl _), hc, E1, res_0, res_1, res_f0, res_f1, l_0, l_1, l_f0, l_f1, l_l⟩
          case measure => simp [intOf] <;> omega
    · obtain rfl : k = 0 := by omega
      have hk0 : ¬ (0 : Int) < ((0 : Nat) : Int) := by omega
      have E0 := E
      go_wp2_with fail
      have r0 : ((wr.setCell ⟨W.heap.size, 0, none⟩ (.int .i64 q)).setCell ⟨W.heap.size, 1, none⟩ (.slice A m c)).cell? ⟨W.heap.size, 0, none⟩ = some (.int .i64 q) := set_other (set_same res_0 _) _ (.inr (by omega))
      have r1 : ((wr.setCell ⟨W.heap.size, 0, none⟩ (.int .i64 q)).setCell ⟨W.heap.size, 1, none⟩ (.slice A m c)).cell? ⟨W.heap.size, 1, none⟩ = some (.slice A m c) := set_same (set_other res_1 _ (.inr (by omega))) _
      refine bodyPost_ret (v := .agg #[.int .i64 q, .slice A m c]) (by simp [results, Try.results66, go_sem, r0, r1]) rfl ?_
      exact LedPost.mk (by omega) E0 hc o (eff_set2a _ _ _ _) (by omega) (by omega) (by omega) (by omega)
set_option maxHeartbeats 4000000 in
set_option maxRecDepth 100000 in
theorem l02AnyLedger_any (B g : Nat) (W : World) (hc : Cur B W g) : Calls Try.prog 59 #[.pointer (some ⟨g, 0, none⟩)] W (LedPost B g 302 W) := by
  have hgl := hc.lt
  have hgB := hc.le
  have E0 : Eff g (g + 1) W W := Eff.refl _ _ _
  go_enter Try.func59, Try.ntmps59
  go_wp2_with fail
  have he1 : Eff 0 0 W (W.alloc (.cells #[.int .i64 0, .slice none 0 0] 34)) := Eff.alloc _ _
  have hs1 : (W.alloc (.cells #[.int .i64 0, .slice none 0 0] 34)).heap.size = W.heap.size + 1 := (by simp)
  have res_0 : (W.alloc (.cells #[.int .i64 0, .slice none 0 0] 34)).cell? ⟨W.heap.size, 0, none⟩ = some (.int .i64 0) := var_cell _ _ _ _ _ rfl
  have res_1 : (W.alloc (.cells #[.int .i64 0, .slice none 0 0] 34)).cell? ⟨W.heap.size, 1, none⟩ = some (.slice none 0 0) := var_cell _ _ _ _ _ rfl
  have res_f0 : (W.alloc (.cells #[.int .i64 0, .slice none 0 0] 34)).frozen? ⟨W.heap.size, 0, none⟩ = false := var_frozen _ _ _ _
  have res_f1 : (W.alloc (.cells #[.int .i64 0, .slice none 0 0] 34)).frozen? ⟨W.heap.size, 1, none⟩ = false := var_frozen _ _ _ _
  generalize (W.alloc (.cells #[.int .i64 0, .slice none 0 0] 34)) = w1 at *
  have hz1 : W.heap.size ≤ w1.heap.size := he1.size
  have E1 : Eff g (g + 1) W w1 := E0.step he1 (by omega)
  have S1 := E1.size
  replace hc := hc.keep he1 (by omega) (by omega)
  have res_l : W.heap.size < w1.heap.size := (by omega)
  refine (l02Ledger_any B g w1 hc).mono ?_
  rintro e w2 hpost
  obtain ⟨q, A, m, c, ls, rfl, hm, hc, o, he⟩ := hpost
  have he2 : Eff (g) (g + 1) w1 w2 := he
  have hz2 : w1.heap.size ≤ w2.heap.size := he2.size
  have E2 : Eff g (g + 1) W w2 := E1.step he2 (by omega)
  have S2 := E2.size
  replace res_f0 := (he2.frozen res_0 (by simp only; omega)).trans res_f0
  replace res_f1 := (he2.frozen res_1 (by simp only; omega)).trans res_f1
  replace res_0 := he2.cell res_0 (by simp only; omega)
  replace res_1 := he2.cell res_1 (by simp only; omega)
  replace res_l := Nat.lt_of_lt_of_le res_l hz2
  clear he
  go_upto_region 2 with fail
  have he3 : Eff 0 0 w2 (w2.alloc (.cells #[.int .i64 q, .slice A m c] 34)) := Eff.alloc _ _
  have hs3 : (w2.alloc (.cells #[.int .i64 q, .slice A m c] 34)).heap.size = w2.heap.size + 1 := (by simp)
  have l_0 : (w2.alloc (.cells #[.int .i64 q, .slice A m c] 34)).cell? ⟨w2.heap.size, 0, none⟩ = some (.int .i64 q) := var_cell _ _ _ _ _ rfl
  have l_1 : (w2.alloc (.cells #[.int .i64 q, .slice A m c] 34)).cell? ⟨w2.heap.size, 1, none⟩ = some (.slice A m c) := var_cell _ _ _ _ _ rfl
  have l_f0 : (w2.alloc (.cells #[.int .i64 q, .slice A m c] 34)).frozen? ⟨w2.heap.size, 0, none⟩ = false := var_frozen _ _ _ _
  have l_f1 : (w2.alloc (.cells #[.int .i64 q, .slice A m c] 34)).frozen? ⟨w2.heap.size, 1, none⟩ = false := var_frozen _ _ _ _
  generalize (w2.alloc (.cells #[.int .i64 q, .slice A m c] 34)) = w3 at *
  have hz3 : w2.heap.size ≤ w3.heap.size := he3.size
  have E3 : Eff g (g + 1) W w3 := E2.step he3 (by omega)
  have S3 := E3.size
  replace o := o.keep he3 (by omega)
  replace res_f0 := (he3.frozen res_0 (by simp only; omega)).trans res_f0
  replace res_f1 := (he3.frozen res_1 (by simp only; omega)).trans res_f1
  replace res_0 := he3.cell res_0 (by simp only; omega)
  replace res_1 := he3.cell res_1 (by simp only; omega)
  replace res_l := Nat.lt_of_lt_of_le res_l hz3
  replace hc := hc.keep he3 (by omega) (by omega)
  have l_l : w2.heap.size < w3.heap.size := (by omega)
  have hpW : w2.heap.size < w3.heap.size := by omega
  clear hs3
  go_wp2_with fail
  refine (l01Below_any B g (10) (by omega) w3 hc).mono ?_
  rintro e w4 hpost
  obtain ⟨k, rfl, ⟨k_0, k_1, -⟩, hc, he⟩ := hpost.eff
  clear hpost
  replace k_1 := k_1 (by omega)
  have he4 : Eff (g) (g + 1) w3 w4 := he
  have hz4 : w3.heap.size ≤ w4.heap.size := he4.size
  have E4 : Eff g (g + 1) W w4 := E3.step he4 (by omega)
  have S4 := E4.size
  replace o := o.keep he4 (by omega)
  replace res_f0 := (he4.frozen res_0 (by simp only; omega)).trans res_f0
  replace res_f1 := (he4.frozen res_1 (by simp only; omega)).trans res_f1
  replace l_f0 := (he4.frozen l_0 (by simp only; omega)).trans l_f0
  replace l_f1 := (he4.frozen l_1 (by simp only; omega)).trans l_f1
  replace res_0 := he4.cell res_0 (by simp only; omega)
  replace res_1 := he4.cell res_1 (by simp only; omega)
  replace l_0 := he4.cell l_0 (by simp only; omega)
  replace l_1 := he4.cell l_1 (by simp only; omega)
  replace res_l := Nat.lt_of_lt_of_le res_l hz4
  replace l_l := Nat.lt_of_lt_of_le l_l hz4
  clear he
  by_cases k0 : k = 0
  · skip
    subst k0
    go_wp2_with fail
    refine (l01Raw_any B g w4 hc).mono ?_
    rintro e w5 hpost
    obtain ⟨z, rfl, z_r, hc, he⟩ := hpost.eff
    clear hpost
    have he5 : Eff (g) (g + 1) w4 w5 := he
    have hz5 : w4.heap.size ≤ w5.heap.size := he5.size
    have E5 : Eff g (g + 1) W w5 := E4.step he5 (by omega)
    have S5 := E5.size
    replace o := o.keep he5 (by omega)
    replace res_f0 := (he5.frozen res_0 (by simp only; omega)).trans res_f0
    replace res_f1 := (he5.frozen res_1 (by simp only; omega)).trans res_f1
    replace l_f0 := (he5.frozen l_0 (by simp only; omega)).trans l_f0
    replace l_f1 := (he5.frozen l_1 (by simp only; omega)).trans l_f1
    replace res_0 := he5.cell res_0 (by simp only; omega)
    replace res_1 := he5.cell res_1 (by simp only; omega)
    replace l_0 := he5.cell l_0 (by simp only; omega)
    replace l_1 := he5.cell l_1 (by simp only; omega)
    replace res_l := Nat.lt_of_lt_of_le res_l hz5
    replace l_l := Nat.lt_of_lt_of_le l_l hz5
    clear he
    go_upto_region 5 with fail
    have he6 : Eff (w2.heap.size) (w2.heap.size + 1) w5 (w5.setCell ⟨w2.heap.size, 0, none⟩ (.int .i64 z)) := eff_set _ _ _ _
    replace res_f0 := (he6.frozen res_0 (by simp only; omega)).trans res_f0
    replace res_f1 := (he6.frozen res_1 (by simp only; omega)).trans res_f1
    replace l_f0 := set_frozen (p := ⟨w2.heap.size, 0, none⟩) l_f0 (.int .i64 z)
    replace l_f1 := set_frozen (p := ⟨w2.heap.size, 0, none⟩) l_f1 (.int .i64 z)
    replace res_0 := he6.cell res_0 (by simp only; omega)
    replace res_1 := he6.cell res_1 (by simp only; omega)
    replace l_0 := set_same l_0 (.int .i64 z)
    replace l_1 := set_other (b' := w2.heap.size) (o' := 0) l_1 (.int .i64 z) (.inr (by omega))
    have hz6 : w5.heap.size ≤ (w5.setCell ⟨w2.heap.size, 0, none⟩ (.int .i64 z)).heap.size := he6.size
    generalize (w5.setCell ⟨w2.heap.size, 0, none⟩ (.int .i64 z)) = w6 at *
    have E6 : Eff g (g + 1) W w6 := E5.step he6 (by omega)
    have S6 := E6.size
    replace o := o.keep he6 (by omega)
    replace res_l := Nat.lt_of_lt_of_le res_l hz6
    replace l_l := Nat.lt_of_lt_of_le l_l hz6
    replace hc := hc.keep he6 (by omega) (by omega)
    go_wp2_with fail
    have r0 : ((w6.setCell ⟨W.heap.size, 0, none⟩ (.int .i64 z)).setCell ⟨W.heap.size, 1, none⟩ (.slice A m c)).cell? ⟨W.heap.size, 0, none⟩ = some (.int .i64 z) := set_other (set_same res_0 _) _ (.inr (by omega))
    have r1 : ((w6.setCell ⟨W.heap.size, 0, none⟩ (.int .i64 z)).setCell ⟨W.heap.size, 1, none⟩ (.slice A m c)).cell? ⟨W.heap.size, 1, none⟩ = some (.slice A m c) := set_same (set_other res_1 _ (.inr (by omega))) _
    refine bodyPost_ret (v := .agg #[.int .i64 z, .slice A m c]) (by simp [results, Try.results59, go_sem, r0, r1]) rfl ?_
    exact LedPost.mk (by omega) E6 hc o (eff_set2a _ _ _ _) (by omega) (by omega) (by omega) (by omega)
  have n0 : (k == 0) = false := by simp; omega
  by_cases k1 : k = 1
  · skip
    subst k1
    go_wp2_with fail
    refine (l02Any_any B g _ _ _ _ _ _ w4 hc o (by omega) (by omega)).mono ?_
    rintro e wz ⟨A3, n3, c3, ls3, wy, rfl, hn3, hcn, o3, hE1, hE2⟩
    have he5 : Eff g (g + 1) w4 wy := hE1
    have hz5 : w4.heap.size ≤ wy.heap.size := he5.size
    have E5 : Eff g (g + 1) W wy := E4.step he5 (by omega)
    have S5 := E5.size
    replace res_f0 := (he5.frozen res_0 (by simp only; omega)).trans res_f0
    replace res_f1 := (he5.frozen res_1 (by simp only; omega)).trans res_f1
    replace l_f0 := (he5.frozen l_0 (by simp only; omega)).trans l_f0
    replace l_f1 := (he5.frozen l_1 (by simp only; omega)).trans l_f1
    replace res_0 := he5.cell res_0 (by simp only; omega)
    replace res_1 := he5.cell res_1 (by simp only; omega)
    replace l_0 := he5.cell l_0 (by simp only; omega)
    replace l_1 := he5.cell l_1 (by simp only; omega)
    replace res_l := Nat.lt_of_lt_of_le res_l hz5
    replace l_l := Nat.lt_of_lt_of_le l_l hz5
    have he6 : Eff (w1.heap.size) (w2.heap.size) wy wz := hE2
    have hz6 : wy.heap.size ≤ wz.heap.size := he6.size
    have E6 : Eff g (g + 1) W wz := E5.step he6 (by omega)
    have S6 := E6.size
    replace res_f0 := (he6.frozen res_0 (by simp only; omega)).trans res_f0
    replace res_f1 := (he6.frozen res_1 (by simp only; omega)).trans res_f1
    replace l_f0 := (he6.frozen l_0 (by simp only; omega)).trans l_f0
    replace l_f1 := (he6.frozen l_1 (by simp only; omega)).trans l_f1
    replace res_0 := he6.cell res_0 (by simp only; omega)
    replace res_1 := he6.cell res_1 (by simp only; omega)
    replace l_0 := he6.cell l_0 (by simp only; omega)
    replace l_1 := he6.cell l_1 (by simp only; omega)
    replace res_l := Nat.lt_of_lt_of_le res_l hz6
    replace l_l := Nat.lt_of_lt_of_le l_l hz6
    clear hc o hE1 hE2
    have hc := hcn
    clear hcn
    go_upto_region 7 with fail
    have he7 : Eff (w2.heap.size) (w2.heap.size + 1) wz (wz.setCell ⟨w2.heap.size, 1, none⟩ (.slice A3 n3 c3)) := eff_set _ _ _ _
    replace res_f0 := (he7.frozen res_0 (by simp only; omega)).trans res_f0
    replace res_f1 := (he7.frozen res_1 (by simp only; omega)).trans res_f1
    replace l_f0 := set_frozen (p := ⟨w2.heap.size, 1, none⟩) l_f0 (.slice A3 n3 c3)
    replace l_f1 := set_frozen (p := ⟨w2.heap.size, 1, none⟩) l_f1 (.slice A3 n3 c3)
    replace res_0 := he7.cell res_0 (by simp only; omega)
    replace res_1 := he7.cell res_1 (by simp only; omega)
    replace l_0 := set_other (b' := w2.heap.size) (o' := 1) l_0 (.slice A3 n3 c3) (.inr (by omega))
    replace l_1 := set_same l_1 (.slice A3 n3 c3)
    have hz7 : wz.heap.size ≤ (wz.setCell ⟨w2.heap.size, 1, none⟩ (.slice A3 n3 c3)).heap.size := he7.size
    generalize (wz.setCell ⟨w2.heap.size, 1, none⟩ (.slice A3 n3 c3)) = w7 at *
    have E7 : Eff g (g + 1) W w7 := E6.step he7 (by omega)
    have S7 := E7.size
    replace o3 := o3.keep he7 (by omega)
    replace res_l := Nat.lt_of_lt_of_le res_l hz7
    replace l_l := Nat.lt_of_lt_of_le l_l hz7
    replace hc := hc.keep he7 (by omega) (by omega)
    go_wp2_with fail
    have r0 : ((w7.setCell ⟨W.heap.size, 0, none⟩ (.int .i64 q)).setCell ⟨W.heap.size, 1, none⟩ (.slice A3 n3 c3)).cell? ⟨W.heap.size, 0, none⟩ = some (.int .i64 q) := set_other (set_same res_0 _) _ (.inr (by omega))
    have r1 : ((w7.setCell ⟨W.heap.size, 0, none⟩ (.int .i64 q)).setCell ⟨W.heap.size, 1, none⟩ (.slice A3 n3 c3)).cell? ⟨W.heap.size, 1, none⟩ = some (.slice A3 n3 c3) := set_same (set_other res_1 _ (.inr (by omega))) _
    refine bodyPost_ret (v := .agg #[.int .i64 q, .slice A3 n3 c3]) (by simp [results, Try.results59, go_sem, r0, r1]) rfl ?_
    exact LedPost.mk (by omega) E7 hc o3 (eff_set2a _ _ _ _) (by omega) (by omega) (by omega) (by omega)
  have n1 : (k == 1) = false := by simp; omega
  by_cases k2 : k = 2
  · skip
    subst k2
    go_upto_region 9 with fail
    have hq : ((w4.setCell ⟨w2.heap.size, 0, none⟩ (.int .i64 1)).setCell ⟨w2.heap.size, 1, none⟩ (.slice (some ⟨w4.heap.size, 0, none⟩) 2 2)).heap.size = w4.heap.size := by simp
    have he5 : Eff (w2.heap.size) (w2.heap.size + 1) w4 (w4.setCell ⟨w2.heap.size, 0, none⟩ (.int .i64 1)) := eff_set _ _ _ _
    replace res_f0 := (he5.frozen res_0 (by simp only; omega)).trans res_f0
    replace res_f1 := (he5.frozen res_1 (by simp only; omega)).trans res_f1
    replace l_f0 := set_frozen (p := ⟨w2.heap.size, 0, none⟩) l_f0 (.int .i64 1)
    replace l_f1 := set_frozen (p := ⟨w2.heap.size, 0, none⟩) l_f1 (.int .i64 1)
    replace res_0 := he5.cell res_0 (by simp only; omega)
    replace res_1 := he5.cell res_1 (by simp only; omega)
    replace l_0 := set_same l_0 (.int .i64 1)
    replace l_1 := set_other (b' := w2.heap.size) (o' := 0) l_1 (.int .i64 1) (.inr (by omega))
    have hz5 : w4.heap.size ≤ (w4.setCell ⟨w2.heap.size, 0, none⟩ (.int .i64 1)).heap.size := he5.size
    generalize (w4.setCell ⟨w2.heap.size, 0, none⟩ (.int .i64 1)) = w5 at *
    have E5 : Eff g (g + 1) W w5 := E4.step he5 (by omega)
    have S5 := E5.size
    replace o := o.keep he5 (by omega)
    replace res_l := Nat.lt_of_lt_of_le res_l hz5
    replace l_l := Nat.lt_of_lt_of_le l_l hz5
    replace hc := hc.keep he5 (by omega) (by omega)
    have he6 : Eff (w2.heap.size) (w2.heap.size + 1) w5 (w5.setCell ⟨w2.heap.size, 1, none⟩ (.slice (some ⟨w4.heap.size, 0, none⟩) 2 2)) := eff_set _ _ _ _
    replace res_f0 := (he6.frozen res_0 (by simp only; omega)).trans res_f0
    replace res_f1 := (he6.frozen res_1 (by simp only; omega)).trans res_f1
    replace l_f0 := set_frozen (p := ⟨w2.heap.size, 1, none⟩) l_f0 (.slice (some ⟨w4.heap.size, 0, none⟩) 2 2)
    replace l_f1 := set_frozen (p := ⟨w2.heap.size, 1, none⟩) l_f1 (.slice (some ⟨w4.heap.size, 0, none⟩) 2 2)
    replace res_0 := he6.cell res_0 (by simp only; omega)
    replace res_1 := he6.cell res_1 (by simp only; omega)
    replace l_0 := set_other (b' := w2.heap.size) (o' := 1) l_0 (.slice (some ⟨w4.heap.size, 0, none⟩) 2 2) (.inr (by omega))
    replace l_1 := set_same l_1 (.slice (some ⟨w4.heap.size, 0, none⟩) 2 2)
    have hz6 : w5.heap.size ≤ (w5.setCell ⟨w2.heap.size, 1, none⟩ (.slice (some ⟨w4.heap.size, 0, none⟩) 2 2)).heap.size := he6.size
    generalize (w5.setCell ⟨w2.heap.size, 1, none⟩ (.slice (some ⟨w4.heap.size, 0, none⟩) 2 2)) = w6 at *
    have E6 : Eff g (g + 1) W w6 := E5.step he6 (by omega)
    have S6 := E6.size
    replace o := o.keep he6 (by omega)
    replace res_l := Nat.lt_of_lt_of_le res_l hz6
    replace l_l := Nat.lt_of_lt_of_le l_l hz6
    replace hc := hc.keep he6 (by omega) (by omega)
    have he7 : Eff 0 0 w6 (w6.alloc (.cells #[.int .i64 1, .int .i64 0, .int .i64 1125899906842624, .int .i64 2, .int .i64 0, .int .i64 (-1125899906842624)] 63)) := Eff.alloc _ _
    have hs7 : (w6.alloc (.cells #[.int .i64 1, .int .i64 0, .int .i64 1125899906842624, .int .i64 2, .int .i64 0, .int .i64 (-1125899906842624)] 63)).heap.size = w6.heap.size + 1 := (by simp)
    have o2 : OwnL (w6.alloc (.cells #[.int .i64 1, .int .i64 0, .int .i64 1125899906842624, .int .i64 2, .int .i64 0, .int .i64 (-1125899906842624)] 63)) w6.heap.size (w6.heap.size + 1) (some ⟨w6.heap.size, 0, none⟩) 2 2 [⟨1, 0, 1125899906842624⟩, ⟨2, 0, (-1125899906842624)⟩] := new_lns w6 [⟨1, 0, 1125899906842624⟩, ⟨2, 0, (-1125899906842624)⟩] (by simp)
    generalize (w6.alloc (.cells #[.int .i64 1, .int .i64 0, .int .i64 1125899906842624, .int .i64 2, .int .i64 0, .int .i64 (-1125899906842624)] 63)) = w7 at *
    have hz7 : w6.heap.size ≤ w7.heap.size := he7.size
    have E7 : Eff g (g + 1) W w7 := E6.step he7 (by omega)
    have S7 := E7.size
    replace o := o.keep he7 (by omega)
    replace res_f0 := (he7.frozen res_0 (by simp only; omega)).trans res_f0
    replace res_f1 := (he7.frozen res_1 (by simp only; omega)).trans res_f1
    replace l_f0 := (he7.frozen l_0 (by simp only; omega)).trans l_f0
    replace l_f1 := (he7.frozen l_1 (by simp only; omega)).trans l_f1
    replace res_0 := he7.cell res_0 (by simp only; omega)
    replace res_1 := he7.cell res_1 (by simp only; omega)
    replace l_0 := he7.cell l_0 (by simp only; omega)
    replace l_1 := he7.cell l_1 (by simp only; omega)
    replace res_l := Nat.lt_of_lt_of_le res_l hz7
    replace l_l := Nat.lt_of_lt_of_le l_l hz7
    replace hc := hc.keep he7 (by omega) (by omega)
    clear hs7
    rw [hq] at o2
    clear hq
    go_wp2_with fail
    have r0 : ((w7.setCell ⟨W.heap.size, 0, none⟩ (.int .i64 1)).setCell ⟨W.heap.size, 1, none⟩ (.slice (some ⟨w4.heap.size, 0, none⟩) 2 2)).cell? ⟨W.heap.size, 0, none⟩ = some (.int .i64 1) := set_other (set_same res_0 _) _ (.inr (by omega))
    have r1 : ((w7.setCell ⟨W.heap.size, 0, none⟩ (.int .i64 1)).setCell ⟨W.heap.size, 1, none⟩ (.slice (some ⟨w4.heap.size, 0, none⟩) 2 2)).cell? ⟨W.heap.size, 1, none⟩ = some (.slice (some ⟨w4.heap.size, 0, none⟩) 2 2) := set_same (set_other res_1 _ (.inr (by omega))) _
    refine bodyPost_ret (v := .agg #[.int .i64 1, .slice (some ⟨w4.heap.size, 0, none⟩) 2 2]) (by simp [results, Try.results59, go_sem, r0, r1]) rfl ?_
    exact LedPost.mk (by omega) E7 hc o2 (eff_set2a _ _ _ _) (by omega) (by omega) (by omega) (by omega)
  have n2 : (k == 2) = false := by simp; omega
  go_wp2_with fail
  have r0 : ((w4.setCell ⟨W.heap.size, 0, none⟩ (.int .i64 q)).setCell ⟨W.heap.size, 1, none⟩ (.slice A m c)).cell? ⟨W.heap.size, 0, none⟩ = some (.int .i64 q) := set_other (set_same res_0 _) _ (.inr (by omega))
  have r1 : ((w4.setCell ⟨W.heap.size, 0, none⟩ (.int .i64 q)).setCell ⟨W.heap.size, 1, none⟩ (.slice A m c)).cell? ⟨W.heap.size, 1, none⟩ = some (.slice A m c) := set_same (set_other res_1 _ (.inr (by omega))) _
  refine bodyPost_ret (v := .agg #[.int .i64 q, .slice A m c]) (by simp [results, Try.results59, go_sem, r0, r1]) rfl ?_
  exact LedPost.mk (by omega) E4 hc o (eff_set2a _ _ _ _) (by omega) (by omega) (by omega) (by omega)
end Go.Proofs.Ytgjphejmppehjaa
