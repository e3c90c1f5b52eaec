/- DrawPost: a ledger and a posting, drawn. -/
import Derived.Test.YtgjphejmppehjaaDled
import Derived.Test.YtgjphejmppehjaaRws
import Derived.RegionTactic
namespace Go.Proofs.Ytgjphejmppehjaa
open Go.RowKit
/-- A ledger and a posting whose lines are the call's own. -/
def DPost (w : World) (e : Ending) (w' : World) : Prop :=
  ∃ (q : Int) (A1 : Option Addr) (m c1 : Nat) (ls : List Ln) (p : Int) (A2 : Option Addr) (n c2 : Nat) (ps : List Ln), e = .returned (.tuple #[.agg #[.int .i64 q, .slice A1 m c1], .agg #[.int .i64 p, .slice A2 n c2]]) ∧ m ≤ 302 ∧ n ≤ 15 ∧
    OwnL w' w.heap.size w'.heap.size A1 m c1 ls ∧ OwnL w' w.heap.size w'.heap.size A2 n c2 ps ∧ Below w.heap.size w w'
theorem DPost.mk {w w1 w2 : World} {q p : Int} {A1 A2 : Option Addr} {m c1 n c2 lo hi lo' hi' b : Nat} {ls ps : List Ln} (hm : m ≤ 302) (hn : n ≤ 15) (o : OwnL w1 lo hi A1 m c1 ls) (r : OwnL w1 lo' hi' A2 n c2 ps) (hb : Below w.heap.size w w1) (he : Eff b (b + 2) w1 w2) (h1 : w.heap.size ≤ b) (h2 : b + 2 ≤ lo) (h3 : b + 2 ≤ lo') :
    DPost w (.returned (.tuple #[.agg #[.int .i64 q, .slice A1 m c1], .agg #[.int .i64 p, .slice A2 n c2]])) w2 :=
  ⟨q, A1, m, c1, ls, p, A2, n, c2, ps, rfl, hm, hn, Own.made o he (by omega) (by omega), Own.made r he (by omega) (by omega), hb.trans (he.below hb.size (.inl h1))⟩
theorem eff_set4 {b : Nat} (w : World) (u0 u1 v0 v1 : Value) : Eff b (b + 2) w ((((w.setCell ⟨b, 0, none⟩ u0).setCell ⟨b, 1, none⟩ u1).setCell ⟨b + 1, 0, none⟩ v0).setCell ⟨b + 1, 1, none⟩ v1) :=
  ((eff_set2a w b u0 u1).wide (Nat.le_refl _) (by omega)).trans ((eff_set2a _ (b + 1) v0 v1).wide (by omega) (by omega))
theorem eff_set4' {b : Nat} (w : World) (u0 u1 v0 v1 : Value) : Eff b (b + 2) w ((((w.setCell ⟨b + 1, 0, none⟩ v0).setCell ⟨b + 1, 1, none⟩ v1).setCell ⟨b, 0, none⟩ u0).setCell ⟨b, 1, none⟩ u1) :=
  ((eff_set2a w (b + 1) v0 v1).wide (by omega) (by omega)).trans ((eff_set2a _ b u0 u1).wide (Nat.le_refl _) (by omega))
set_option maxHeartbeats 8000000 in
set_option maxRecDepth 100000 in
theorem DrawPost_any (W : World) (A : Option Addr) (n c : Nat) (l : List UInt8) (hr : Rd W W.heap.size 1 A n (Lib.byteCells l)) (hn : n ≤ 1048576) : Calls Try.prog 37 #[.slice A n c] W (DPost W) := by
  go_enter Try.func37, Try.ntmps37
  go_wp2_with fail
  have he1 : Eff 0 0 W (W.alloc (.cells #[.int .i64 0, .slice none 0 0] 34)) := Eff.alloc _ _
  have hs1 : (W.alloc (.cells #[.int .i64 0, .slice none 0 0] 34)).heap.size = W.heap.size + 1 := (by simp)
  have ra_0 : (W.alloc (.cells #[.int .i64 0, .slice none 0 0] 34)).cell? ⟨W.heap.size, 0, none⟩ = some (.int .i64 0) := var_cell _ _ _ _ _ rfl
  have ra_1 : (W.alloc (.cells #[.int .i64 0, .slice none 0 0] 34)).cell? ⟨W.heap.size, 1, none⟩ = some (.slice none 0 0) := var_cell _ _ _ _ _ rfl
  have ra_f0 : (W.alloc (.cells #[.int .i64 0, .slice none 0 0] 34)).frozen? ⟨W.heap.size, 0, none⟩ = false := var_frozen _ _ _ _
  have ra_f1 : (W.alloc (.cells #[.int .i64 0, .slice none 0 0] 34)).frozen? ⟨W.heap.size, 1, none⟩ = false := var_frozen _ _ _ _
  generalize (W.alloc (.cells #[.int .i64 0, .slice none 0 0] 34)) = w1 at *
  have hz1 : W.heap.size ≤ w1.heap.size := he1.size
  have b1 : Below W.heap.size W w1 := he1.below (Nat.le_refl _) (by omega)
  replace hr := (hr.below (he1.below (B := W.heap.size) (by omega) (by omega)) (Nat.le_refl _))
  have ra_l : W.heap.size < w1.heap.size := (by omega)
  have he2 : Eff 0 0 w1 (w1.alloc (.cells #[.int .i64 0, .slice none 0 0] 43)) := Eff.alloc _ _
  have hs2 : (w1.alloc (.cells #[.int .i64 0, .slice none 0 0] 43)).heap.size = w1.heap.size + 1 := (by simp)
  have rb_0 : (w1.alloc (.cells #[.int .i64 0, .slice none 0 0] 43)).cell? ⟨w1.heap.size, 0, none⟩ = some (.int .i64 0) := var_cell _ _ _ _ _ rfl
  have rb_1 : (w1.alloc (.cells #[.int .i64 0, .slice none 0 0] 43)).cell? ⟨w1.heap.size, 1, none⟩ = some (.slice none 0 0) := var_cell _ _ _ _ _ rfl
  have rb_f0 : (w1.alloc (.cells #[.int .i64 0, .slice none 0 0] 43)).frozen? ⟨w1.heap.size, 0, none⟩ = false := var_frozen _ _ _ _
  have rb_f1 : (w1.alloc (.cells #[.int .i64 0, .slice none 0 0] 43)).frozen? ⟨w1.heap.size, 1, none⟩ = false := var_frozen _ _ _ _
  generalize (w1.alloc (.cells #[.int .i64 0, .slice none 0 0] 43)) = w2 at *
  have hz2 : w1.heap.size ≤ w2.heap.size := he2.size
  have b2 : Below W.heap.size W w2 := b1.trans (he2.below b1.size (by omega))
  replace hr := (hr.below (he2.below (B := W.heap.size) (by omega) (by omega)) (Nat.le_refl _))
  replace ra_f0 := (he2.frozen ra_0 (by simp only; omega)).trans ra_f0
  replace ra_f1 := (he2.frozen ra_1 (by simp only; omega)).trans ra_f1
  replace ra_0 := he2.cell ra_0 (by simp only; omega)
  replace ra_1 := he2.cell ra_1 (by simp only; omega)
  replace ra_l := Nat.lt_of_lt_of_le ra_l hz2
  rw [hs1] at rb_0 rb_f0
  rw [hs1] at rb_1 rb_f1
  have rb_l : W.heap.size + 1 < w2.heap.size := (by omega)
  have hw2 : w2.heap.size = W.heap.size + 2 := by omega
  clear hs1 hs2
  refine (l01New_any w2 A n c l (hr.more (by omega)) hn).mono ?_
  rintro e w3 ⟨g, hgE, rfl, hc, hb⟩
  have hg1 : w2.heap.size ≤ g := by omega
  have hg2 := hc.lt
  clear hgE
  have he3 : Eff 0 0 w2 w3 := Eff.of hb
  have hz3 : w2.heap.size ≤ w3.heap.size := he3.size
  have b3 : Below W.heap.size W w3 := b2.trans (he3.below b2.size (by omega))
  replace hr := (hr.below (he3.below (B := W.heap.size) (by omega) (by omega)) (Nat.le_refl _))
  replace ra_f0 := (he3.frozen ra_0 (by simp only; omega)).trans ra_f0
  replace ra_f1 := (he3.frozen ra_1 (by simp only; omega)).trans ra_f1
  replace rb_f0 := (he3.frozen rb_0 (by simp only; omega)).trans rb_f0
  replace rb_f1 := (he3.frozen rb_1 (by simp only; omega)).trans rb_f1
  replace ra_0 := he3.cell ra_0 (by simp only; omega)
  replace ra_1 := he3.cell ra_1 (by simp only; omega)
  replace rb_0 := he3.cell rb_0 (by simp only; omega)
  replace rb_1 := he3.cell rb_1 (by simp only; omega)
  replace ra_l := Nat.lt_of_lt_of_le ra_l hz3
  replace rb_l := Nat.lt_of_lt_of_le rb_l hz3
  clear hb
  clear hr
  go_wp2_with fail
  refine (l02AnyLedger_any w2.heap.size g w3 hc).mono ?_
  rintro e w4 hpost
  obtain ⟨q, A1, m, c1, ls, rfl, hm, hc, o, he⟩ := hpost
  have he4 : Eff (g) (g + 1) w3 w4 := he
  have hz4 : w3.heap.size ≤ w4.heap.size := he4.size
  have b4 : Below W.heap.size W w4 := b3.trans (he4.below b3.size (by omega))
  replace ra_f0 := (he4.frozen ra_0 (by simp only; omega)).trans ra_f0
  replace ra_f1 := (he4.frozen ra_1 (by simp only; omega)).trans ra_f1
  replace rb_f0 := (he4.frozen rb_0 (by simp only; omega)).trans rb_f0
  replace rb_f1 := (he4.frozen rb_1 (by simp only; omega)).trans rb_f1
  replace ra_0 := he4.cell ra_0 (by simp only; omega)
  replace ra_1 := he4.cell ra_1 (by simp only; omega)
  replace rb_0 := he4.cell rb_0 (by simp only; omega)
  replace rb_1 := he4.cell rb_1 (by simp only; omega)
  replace ra_l := Nat.lt_of_lt_of_le ra_l hz4
  replace rb_l := Nat.lt_of_lt_of_le rb_l hz4
  clear he
  go_upto_region 3 with fail
  have he5 : Eff 0 0 w4 (w4.alloc (.cells #[.int .i64 q, .slice A1 m c1] 34)) := Eff.alloc _ _
  have hs5 : (w4.alloc (.cells #[.int .i64 q, .slice A1 m c1] 34)).heap.size = w4.heap.size + 1 := (by simp)
  have l_0 : (w4.alloc (.cells #[.int .i64 q, .slice A1 m c1] 34)).cell? ⟨w4.heap.size, 0, none⟩ = some (.int .i64 q) := var_cell _ _ _ _ _ rfl
  have l_1 : (w4.alloc (.cells #[.int .i64 q, .slice A1 m c1] 34)).cell? ⟨w4.heap.size, 1, none⟩ = some (.slice A1 m c1) := var_cell _ _ _ _ _ rfl
  have l_f0 : (w4.alloc (.cells #[.int .i64 q, .slice A1 m c1] 34)).frozen? ⟨w4.heap.size, 0, none⟩ = false := var_frozen _ _ _ _
  have l_f1 : (w4.alloc (.cells #[.int .i64 q, .slice A1 m c1] 34)).frozen? ⟨w4.heap.size, 1, none⟩ = false := var_frozen _ _ _ _
  generalize (w4.alloc (.cells #[.int .i64 q, .slice A1 m c1] 34)) = w5 at *
  have hz5 : w4.heap.size ≤ w5.heap.size := he5.size
  have b5 : Below W.heap.size W w5 := b4.trans (he5.below b4.size (by omega))
  replace o := o.keep he5 (by omega)
  replace ra_f0 := (he5.frozen ra_0 (by simp only; omega)).trans ra_f0
  replace ra_f1 := (he5.frozen ra_1 (by simp only; omega)).trans ra_f1
  replace rb_f0 := (he5.frozen rb_0 (by simp only; omega)).trans rb_f0
  replace rb_f1 := (he5.frozen rb_1 (by simp only; omega)).trans rb_f1
  replace ra_0 := he5.cell ra_0 (by simp only; omega)
  replace ra_1 := he5.cell ra_1 (by simp only; omega)
  replace rb_0 := he5.cell rb_0 (by simp only; omega)
  replace rb_1 := he5.cell rb_1 (by simp only; omega)
  replace ra_l := Nat.lt_of_lt_of_le ra_l hz5
  replace rb_l := Nat.lt_of_lt_of_le rb_l hz5
  replace hc := hc.keep he5 (by omega) (by omega)
  have l_l : w4.heap.size < w5.heap.size := (by omega)
  have hlb : w4.heap.size < w5.heap.size := by omega
  clear hs5
  have hgS := hc.lt
  have hgB := hc.le
  have hole := Own.le o
  go_cut [6] (fun v6 wx => MidPst w2.heap.size g w5 15 v6 wx)
  case first =>
    have hgl := hgS
    have hlW : w4.heap.size < w5.heap.size := l_l
    have E0 : Eff g (g + 1) w5 w5 := Eff.refl _ _ _
    have S0 := E0.size
    have he1 : Eff 0 0 w5 w5.drew := (Eff.refl _ _ _).drew
    have hz1 : w5.heap.size ≤ w5.drew.heap.size := he1.size
    have E1 : Eff g (g + 1) w5 w5.drew := E0.step he1 (by omega)
    have S1 := E1.size
    replace o := o.keep he1 (by omega)
    replace l_f0 := (he1.frozen l_0 (by simp only; omega)).trans l_f0
    replace l_f1 := (he1.frozen l_1 (by simp only; omega)).trans l_f1
    replace l_0 := he1.cell l_0 (by simp only; omega)
    replace l_1 := he1.cell l_1 (by simp only; omega)
    replace l_l := Nat.lt_of_lt_of_le l_l hz1
    replace hc := hc.keep he1 (by omega) (by omega)
    refine wp_region_held_drew (S := fun w' => w'.cell? ⟨w4.heap.size, 0, none⟩ = some (.int .i64 q) ∧ w'.cell? ⟨w4.heap.size, 1, none⟩ = some (.slice A1 m c1)) (by kernel_rfl) ?rg1 (fun hHeld => ?_)
    case rg1 => ((try dsimp only); (go_split_ands; (repeat' apply And.intro) <;> (first | assumption | exact set_other (set_other (by assumption) _ (.inl (by first | omega | (simp; omega)))) _ (.inl (by first | omega | (simp; omega))))))
    generalize w5.drew = v0 at *
    refine wpAnyH_take (i := 0) (oi := { dst := some 12, op := Go.Op.move (Go.Operand.tmp 4), type := 85, pos := "l02_ledger.go:307", after := #[], guard := none }) (v := ?v2) rfl (by kernel_rfl) (by kernel_rfl) (by kernel_rfl) (fun _ _ _ h => h) (Or.inl ⟨by rfl, ?y2⟩) (by assumption) ?_
    case y2 => (intro w hSw; (try dsimp only at hSw); go_simp; first | done | with_reducible rfl)
    try simp only [Act.put, List.setIfInBounds_toArray, List.set_cons_zero, List.set_cons_succ]
    refine wpAnyH_take (i := 1) (oi := { dst := some 13, op := Go.Op.fieldAddr 34 (Go.Operand.tmp 5) 0, type := 0, pos := "l02_ledger.go:307", after := #[], guard := none }) (v := ?v3) rfl (by kernel_rfl) (by kernel_rfl) (by kernel_rfl) (fun _ _ _ h => h) (Or.inl ⟨by rfl, ?y3⟩) (by assumption) ?_
    case y3 => (intro w hSw; (try dsimp only at hSw); go_simp; first | done | with_reducible rfl)
    try simp only [Act.put, List.setIfInBounds_toArray, List.set_cons_zero, List.set_cons_succ]
    refine wpAnyH_take (i := 2) (oi := { dst := some 14, op := Go.Op.load 3 (Go.Operand.tmp 13), type := 3, pos := "l02_ledger.go:307", after := #[{ on := 1, ground := Go.Ground.data }], guard := none }) (v := ?v4) rfl (by kernel_rfl) (by kernel_rfl) (by kernel_rfl) (fun _ _ _ h => h) (Or.inl ⟨by rfl, ?y4⟩) (by assumption) ?_
    case y4 => (intro w hSw; (try dsimp only at hSw); go_simp; first | done | with_reducible rfl)
    try simp only [Act.put, List.setIfInBounds_toArray, List.set_cons_zero, List.set_cons_succ]
    refine wpAnyH_take (i := 3) (oi := { dst := some 15, op := Go.Op.binOp Go.BinOp.add 3 (Go.Operand.tmp 14) (Go.Operand.const (Go.Value.int Go.IntKind.i64 1)) 3, type := 3, pos := "l02_ledger.go:307", after := #[{ on := 2, ground := Go.Ground.data }], guard := none }) (v := ?v5) rfl (by kernel_rfl) (by kernel_rfl) (by kernel_rfl) (fun _ _ _ h => h) (Or.inl ⟨by rfl, ?y5⟩) (by assumption) ?_
    case y5 => (intro w hSw; (try dsimp only at hSw); go_simp; first | done | with_reducible rfl)
    try simp only [Act.put, List.setIfInBounds_toArray, List.set_cons_zero, List.set_cons_succ]
    refine wpAnyH_take (i := 4) (oi := { dst := some 16, op := Go.Op.move (Go.Operand.tmp 4), type := 85, pos := "l02_ledger.go:307", after := #[], guard := none }) (v := ?v6) rfl (by kernel_rfl) (by kernel_rfl) (by kernel_rfl) (fun _ _ _ h => h) (Or.inl ⟨by rfl, ?y6⟩) (by assumption) ?_
    case y6 => (intro w hSw; (try dsimp only at hSw); go_simp; first | done | with_reducible rfl)
    try simp only [Act.put, List.setIfInBounds_toArray, List.set_cons_zero, List.set_cons_succ]
    refine wpAnyH_ready (rs := [5, 9]) (by kernel_rfl) (by simp) ?_
    refine AllReadyH.cons (o := { dst := some 17, op := Go.Op.call { callee := Go.Callee.value (Go.Operand.func 61), args := #[Go.Operand.tmp 16, Go.Operand.const (Go.Value.int Go.IntKind.i64 8)], argTypes := #[85, 3] }, type := 3, pos := "l02_ledger.go:307", after := #[{ on := 4, ground := Go.Ground.data }], guard := none }) rfl (fun K hK => ?k7) ?m7
    case k7 =>
      go_simp
      go_at_call 61
      refine (l01Below_any w2.heap.size g 8 (by omega) v0 hc).mono ?_
      rintro e v2 hpost
      obtain ⟨z, rfl, ⟨z_0, z_1, -⟩, hc, he⟩ := hpost.eff
      clear hpost
      replace z_1 := z_1 (by omega)
      have he2 : Eff (g) (g + 1) v0 v2 := he
      have hz2 : v0.heap.size ≤ v2.heap.size := he2.size
      have E2 : Eff g (g + 1) w5 v2 := E1.step he2 (by omega)
      have S2 := E2.size
      replace o := o.keep he2 (by omega)
      replace l_f0 := (he2.frozen l_0 (by simp only; omega)).trans l_f0
      replace l_f1 := (he2.frozen l_1 (by simp only; omega)).trans l_f1
      replace l_0 := he2.cell l_0 (by simp only; omega)
      replace l_1 := he2.cell l_1 (by simp only; omega)
      replace l_l := Nat.lt_of_lt_of_le l_l hz2
      clear he
      refine hK.out _ _ ?s7 (fun hHeld => ?_)
      case s7 => ((try dsimp only); (go_split_ands; (repeat' apply And.intro) <;> (first | assumption | exact set_other (set_other (by assumption) _ (.inl (by first | omega | (simp; omega)))) _ (.inl (by first | omega | (simp; omega))))))
      clear hK K
      try simp only [Act.put, List.setIfInBounds_toArray, List.set_cons_zero, List.set_cons_succ]
      refine wpAnyH_take (i := 6) (oi := { dst := some 18, op := Go.Op.binOp Go.BinOp.quo 3 (Go.Operand.tmp 17) (Go.Operand.const (Go.Value.int Go.IntKind.i64 7)) 3, type := 3, pos := "l02_ledger.go:307", after := #[{ on := 5, ground := Go.Ground.data }], guard := none }) (v := ?v8) rfl (by kernel_rfl) (by kernel_rfl) (by kernel_rfl) (fun _ _ _ h => h) (Or.inl ⟨by rfl, ?y8⟩) (by assumption) ?_
      case y8 => (intro w hSw; (try dsimp only at hSw); go_simp; first | done | with_reducible rfl)
      try simp only [Act.put, List.setIfInBounds_toArray, List.set_cons_zero, List.set_cons_succ]
      refine wpAnyH_take (i := 7) (oi := { dst := some 19, op := Go.Op.binOp Go.BinOp.sub 3 (Go.Operand.tmp 15) (Go.Operand.tmp 18) 3, type := 3, pos := "l02_ledger.go:307", after := #[{ on := 3, ground := Go.Ground.data }, { on := 6, ground := Go.Ground.data }], guard := none }) (v := ?v9) rfl (by kernel_rfl) (by kernel_rfl) (by kernel_rfl) (fun _ _ _ h => h) (Or.inl ⟨by rfl, ?y9⟩) (by assumption) ?_
      case y9 => (intro w hSw; (try dsimp only at hSw); go_simp; first | done | with_reducible rfl)
      try simp only [Act.put, List.setIfInBounds_toArray, List.set_cons_zero, List.set_cons_succ]
      refine wpAnyH_ready (rs := [8, 9]) (by kernel_rfl) (by simp) ?_
      refine AllReadyH.cons (o := { dst := some 20, op := Go.Op.call { callee := Go.Callee.value (Go.Operand.func 60), args := #[Go.Operand.tmp 12, Go.Operand.tmp 19], argTypes := #[85, 3] }, type := 43, pos := "l02_ledger.go:307", after := #[{ on := 0, ground := Go.Ground.data }, { on := 7, ground := Go.Ground.data }, { on := 5, ground := Go.Ground.chain }], guard := none }) rfl (fun K hK => ?k10) ?m10
      case k10 =>
        go_simp
        go_at_call 60
        refine (l02Posting_any w2.heap.size g _ v2 hc).mono ?_
        rintro e v3 hpost
        obtain ⟨pq, Ap, np, cp, ps, rfl, hnp, hc, op, he⟩ := hpost
        have he3 : Eff (g) (g + 1) v2 v3 := he
        have hz3 : v2.heap.size ≤ v3.heap.size := he3.size
        have E3 : Eff g (g + 1) w5 v3 := E2.step he3 (by omega)
        have S3 := E3.size
        replace o := o.keep he3 (by omega)
        replace l_f0 := (he3.frozen l_0 (by simp only; omega)).trans l_f0
        replace l_f1 := (he3.frozen l_1 (by simp only; omega)).trans l_f1
        replace l_0 := he3.cell l_0 (by simp only; omega)
        replace l_1 := he3.cell l_1 (by simp only; omega)
        replace l_l := Nat.lt_of_lt_of_le l_l hz3
        clear he
        refine hK.out _ _ ?s10 (fun hHeld => ?_)
        case s10 => ((try dsimp only); (go_split_ands; (repeat' apply And.intro) <;> (first | assumption | exact set_other (set_other (by assumption) _ (.inl (by first | omega | (simp; omega)))) _ (.inl (by first | omega | (simp; omega))))))
        clear hK K
        try simp only [Act.put, List.setIfInBounds_toArray, List.set_cons_zero, List.set_cons_succ]
        refine wpAnyH_ready (rs := [9]) (by kernel_rfl) (by simp) ?_
        refine AllReadyH.cons (o := { dst := some 6, op := Go.Op.alloc 43, type := 0, pos := "l02_ledger.go:307", after := #[], guard := none }) rfl (fun K hK => ?k11) AllReadyH.nil
        go_simp
        have he4 : Eff 0 0 v3 (v3.alloc (.cells #[.int .i64 0, .slice none 0 0] 43)) := Eff.alloc _ _
        have hs4 : (v3.alloc (.cells #[.int .i64 0, .slice none 0 0] 43)).heap.size = v3.heap.size + 1 := (by simp)
        have nx_0 : (v3.alloc (.cells #[.int .i64 0, .slice none 0 0] 43)).cell? ⟨v3.heap.size, 0, none⟩ = some (.int .i64 0) := var_cell _ _ _ _ _ rfl
        have nx_1 : (v3.alloc (.cells #[.int .i64 0, .slice none 0 0] 43)).cell? ⟨v3.heap.size, 1, none⟩ = some (.slice none 0 0) := var_cell _ _ _ _ _ rfl
        have nx_f0 : (v3.alloc (.cells #[.int .i64 0, .slice none 0 0] 43)).frozen? ⟨v3.heap.size, 0, none⟩ = false := var_frozen _ _ _ _
        have nx_f1 : (v3.alloc (.cells #[.int .i64 0, .slice none 0 0] 43)).frozen? ⟨v3.heap.size, 1, none⟩ = false := var_frozen _ _ _ _
        generalize (v3.alloc (.cells #[.int .i64 0, .slice none 0 0] 43)) = v4 at *
        have hz4 : v3.heap.size ≤ v4.heap.size := he4.size
        have E4 : Eff g (g + 1) w5 v4 := E3.step he4 (by omega)
        have S4 := E4.size
        replace o := o.keep he4 (by omega)
        replace op := op.keep he4 (by omega)
        replace l_f0 := (he4.frozen l_0 (by simp only; omega)).trans l_f0
        replace l_f1 := (he4.frozen l_1 (by simp only; omega)).trans l_f1
        replace l_0 := he4.cell l_0 (by simp only; omega)
        replace l_1 := he4.cell l_1 (by simp only; omega)
        replace l_l := Nat.lt_of_lt_of_le l_l hz4
        replace hc := hc.keep he4 (by omega) (by omega)
        have nx_l : v3.heap.size < v4.heap.size := (by omega)
        have nx_b : v3.heap.size ≤ v4.heap.size := hz4
        have l_nx : w4.heap.size < v3.heap.size := by omega
        clear hs4
        refine hK.out _ _ ?s11 (fun hHeld => ?_)
        case s11 => ((try dsimp only); (go_split_ands; (repeat' apply And.intro) <;> (first | assumption | exact set_other (set_other (by assumption) _ (.inl (by first | omega | (simp; omega)))) _ (.inl (by first | omega | (simp; omega))))))
        clear hK K
        try simp only [Act.put, List.setIfInBounds_toArray, List.set_cons_zero, List.set_cons_succ]
        refine wpAnyH_ready (rs := [10]) (by kernel_rfl) (by simp) ?_
        refine AllReadyH.cons (o := { dst := none, op := Go.Op.store 43 (Go.Operand.tmp 6) (Go.Operand.tmp 20), type := 0, pos := "l02_ledger.go:307", after := #[{ on := 9, ground := Go.Ground.data }, { on := 8, ground := Go.Ground.data }, { on := 8, ground := Go.Ground.chain }, { on := 0, ground := Go.Ground.phase }, { on := 1, ground := Go.Ground.phase }, { on := 2, ground := Go.Ground.phase }, { on := 3, ground := Go.Ground.phase }, { on := 4, ground := Go.Ground.phase }, { on := 5, ground := Go.Ground.phase }, { on := 6, ground := Go.Ground.phase }, { on := 7, ground := Go.Ground.phase }, { on := 8, ground := Go.Ground.phase }, { on := 9, ground := Go.Ground.phase }], guard := none }) rfl (fun K hK => ?k12) AllReadyH.nil
        go_simp
        refine hK.out _ _ ?s12 (fun hHeld => ?_)
        case s12 => ((try dsimp only); (go_split_ands; (repeat' apply And.intro) <;> (first | assumption | exact set_other (set_other (by assumption) _ (.inl (by first | omega | (simp; omega)))) _ (.inl (by first | omega | (simp; omega))))))
        clear hK K
        try simp only [Act.put]
        refine wpAnyH_done (by kernel_rfl) ?_ _
        have hro := Own.blk op
        have hrle := Own.le op
        go_wp2_with fail
        go_meet
        exact MidPst.mk hnp op (fun k hk => by have := hro k hk; omega) hc E4 (by omega) (by omega) (by omega) ⟨nx_0, nx_1, nx_f0, nx_f1⟩
      case m10 =>
        refine AllReadyH.cons (o := { dst := some 6, op := Go.Op.alloc 43, type := 0, pos := "l02_ledger.go:307", after := #[], guard := none }) rfl (fun K hK => ?k13) AllReadyH.nil
        case k13 =>
          go_simp
          have he3 : Eff 0 0 v2 (v2.alloc (.cells #[.int .i64 0, .slice none 0 0] 43)) := Eff.alloc _ _
          have hs3 : (v2.alloc (.cells #[.int .i64 0, .slice none 0 0] 43)).heap.size = v2.heap.size + 1 := (by simp)
          have nx_0 : (v2.alloc (.cells #[.int .i64 0, .slice none 0 0] 43)).cell? ⟨v2.heap.size, 0, none⟩ = some (.int .i64 0) := var_cell _ _ _ _ _ rfl
          have nx_1 : (v2.alloc (.cells #[.int .i64 0, .slice none 0 0] 43)).cell? ⟨v2.heap.size, 1, none⟩ = some (.slice none 0 0) := var_cell _ _ _ _ _ rfl
          have nx_f0 : (v2.alloc (.cells #[.int .i64 0, .slice none 0 0] 43)).frozen? ⟨v2.heap.size, 0, none⟩ = false := var_frozen _ _ _ _
          have nx_f1 : (v2.alloc (.cells #[.int .i64 0, .slice none 0 0] 43)).frozen? ⟨v2.heap.size, 1, none⟩ = false := var_frozen _ _ _ _
          generalize (v2.alloc (.cells #[.int .i64 0, .slice none 0 0] 43)) = v3 at *
          have hz3 : v2.heap.size ≤ v3.heap.size := he3.size
          have E3 : Eff g (g + 1) w5 v3 := E2.step he3 (by omega)
          have S3 := E3.size
          replace o := o.keep he3 (by omega)
          replace l_f0 := (he3.frozen l_0 (by simp only; omega)).trans l_f0
          replace l_f1 := (he3.frozen l_1 (by simp only; omega)).trans l_f1
          replace l_0 := he3.cell l_0 (by simp only; omega)
          replace l_1 := he3.cell l_1 (by simp only; omega)
          replace l_l := Nat.lt_of_lt_of_le l_l hz3
          replace hc := hc.keep he3 (by omega) (by omega)
          have nx_l : v2.heap.size < v3.heap.size := (by omega)
          have nx_b : v2.heap.size ≤ v3.heap.size := hz3
          have l_nx : w4.heap.size < v2.heap.size := by omega
          clear hs3
          refine hK.out _ _ ?s13 (fun hHeld => ?_)
          case s13 => ((try dsimp only); (go_split_ands; (repeat' apply And.intro) <;> (first | assumption | exact set_other (set_other (by assumption) _ (.inl (by first | omega | (simp; omega)))) _ (.inl (by first | omega | (simp; omega))))))
          clear hK K
          try simp only [Act.put, List.setIfInBounds_toArray, List.set_cons_zero, List.set_cons_succ]
          refine wpAnyH_ready (rs := [8]) (by kernel_rfl) (by simp) ?_
          refine AllReadyH.cons (o := { dst := some 20, op := Go.Op.call { callee := Go.Callee.value (Go.Operand.func 60), args := #[Go.Operand.tmp 12, Go.Operand.tmp 19], argTypes := #[85, 3] }, type := 43, pos := "l02_ledger.go:307", after := #[{ on := 0, ground := Go.Ground.data }, { on := 7, ground := Go.Ground.data }, { on := 5, ground := Go.Ground.chain }], guard := none }) rfl (fun K hK => ?k14) AllReadyH.nil
          go_simp
          go_at_call 60
          have nx_r : v2.heap.size < v3.heap.size := nx_l
          refine (l02Posting_any w2.heap.size g _ v3 hc).mono ?_
          rintro e v4 hpost
          obtain ⟨pq, Ap, np, cp, ps, rfl, hnp, hc, op, he⟩ := hpost
          have he4 : Eff (g) (g + 1) v3 v4 := he
          have hz4 : v3.heap.size ≤ v4.heap.size := he4.size
          have E4 : Eff g (g + 1) w5 v4 := E3.step he4 (by omega)
          have S4 := E4.size
          replace o := o.keep he4 (by omega)
          replace l_f0 := (he4.frozen l_0 (by simp only; omega)).trans l_f0
          replace l_f1 := (he4.frozen l_1 (by simp only; omega)).trans l_f1
          replace nx_f0 := (he4.frozen nx_0 (by simp only; omega)).trans nx_f0
          replace nx_f1 := (he4.frozen nx_1 (by simp only; omega)).trans nx_f1
          replace l_0 := he4.cell l_0 (by simp only; omega)
          replace l_1 := he4.cell l_1 (by simp only; omega)
          replace nx_0 := he4.cell nx_0 (by simp only; omega)
          replace nx_1 := he4.cell nx_1 (by simp only; omega)
          replace l_l := Nat.lt_of_lt_of_le l_l hz4
          replace nx_l := Nat.lt_of_lt_of_le nx_l hz4
          clear he
          refine hK.out _ _ ?s14 (fun hHeld => ?_)
          case s14 => ((try dsimp only); (go_split_ands; (repeat' apply And.intro) <;> (first | assumption | exact set_other (set_other (by assumption) _ (.inl (by first | omega | (simp; omega)))) _ (.inl (by first | omega | (simp; omega))))))
          clear hK K
          try simp only [Act.put, List.setIfInBounds_toArray, List.set_cons_zero, List.set_cons_succ]
          refine wpAnyH_ready (rs := [10]) (by kernel_rfl) (by simp) ?_
          refine AllReadyH.cons (o := { dst := none, op := Go.Op.store 43 (Go.Operand.tmp 6) (Go.Operand.tmp 20), type := 0, pos := "l02_ledger.go:307", after := #[{ on := 9, ground := Go.Ground.data }, { on := 8, ground := Go.Ground.data }, { on := 8, ground := Go.Ground.chain }, { on := 0, ground := Go.Ground.phase }, { on := 1, ground := Go.Ground.phase }, { on := 2, ground := Go.Ground.phase }, { on := 3, ground := Go.Ground.phase }, { on := 4, ground := Go.Ground.phase }, { on := 5, ground := Go.Ground.phase }, { on := 6, ground := Go.Ground.phase }, { on := 7, ground := Go.Ground.phase }, { on := 8, ground := Go.Ground.phase }, { on := 9, ground := Go.Ground.phase }], guard := none }) rfl (fun K hK => ?k15) AllReadyH.nil
          go_simp
          refine hK.out _ _ ?s15 (fun hHeld => ?_)
          case s15 => ((try dsimp only); (go_split_ands; (repeat' apply And.intro) <;> (first | assumption | exact set_other (set_other (by assumption) _ (.inl (by first | omega | (simp; omega)))) _ (.inl (by first | omega | (simp; omega))))))
          clear hK K
          try simp only [Act.put]
          refine wpAnyH_done (by kernel_rfl) ?_ _
          have hro := Own.blk op
          have hrle := Own.le op
          go_wp2_with fail
          go_meet
          exact MidPst.mk hnp op (fun k hk => by have := hro k hk; omega) hc E4 (by omega) (by omega) (by omega) ⟨nx_0, nx_1, nx_f0, nx_f1⟩
    case m7 =>
      refine AllReadyH.cons (o := { dst := some 6, op := Go.Op.alloc 43, type := 0, pos := "l02_ledger.go:307", after := #[], guard := none }) rfl (fun K hK => ?k16) AllReadyH.nil
      case k16 =>
        go_simp
        have he2 : Eff 0 0 v0 (v0.alloc (.cells #[.int .i64 0, .slice none 0 0] 43)) := Eff.alloc _ _
        have hs2 : (v0.alloc (.cells #[.int .i64 0, .slice none 0 0] 43)).heap.size = v0.heap.size + 1 := (by simp)
        have nx_0 : (v0.alloc (.cells #[.int .i64 0, .slice none 0 0] 43)).cell? ⟨v0.heap.size, 0, none⟩ = some (.int .i64 0) := var_cell _ _ _ _ _ rfl
        have nx_1 : (v0.alloc (.cells #[.int .i64 0, .slice none 0 0] 43)).cell? ⟨v0.heap.size, 1, none⟩ = some (.slice none 0 0) := var_cell _ _ _ _ _ rfl
        have nx_f0 : (v0.alloc (.cells #[.int .i64 0, .slice none 0 0] 43)).frozen? ⟨v0.heap.size, 0, none⟩ = false := var_frozen _ _ _ _
        have nx_f1 : (v0.alloc (.cells #[.int .i64 0, .slice none 0 0] 43)).frozen? ⟨v0.heap.size, 1, none⟩ = false := var_frozen _ _ _ _
        generalize (v0.alloc (.cells #[.int .i64 0, .slice none 0 0] 43)) = v2 at *
        have hz2 : v0.heap.size ≤ v2.heap.size := he2.size
        have E2 : Eff g (g + 1) w5 v2 := E1.step he2 (by omega)
        have S2 := E2.size
        replace o := o.keep he2 (by omega)
        replace l_f0 := (he2.frozen l_0 (by simp only; omega)).trans l_f0
        replace l_f1 := (he2.frozen l_1 (by simp only; omega)).trans l_f1
        replace l_0 := he2.cell l_0 (by simp only; omega)
        replace l_1 := he2.cell l_1 (by simp only; omega)
        replace l_l := Nat.lt_of_lt_of_le l_l hz2
        replace hc := hc.keep he2 (by omega) (by omega)
        have nx_l : v0.heap.size < v2.heap.size := (by omega)
        have nx_b : v0.heap.size ≤ v2.heap.size := hz2
        have l_nx : w4.heap.size < v0.heap.size := by omega
        clear hs2
        refine hK.out _ _ ?s16 (fun hHeld => ?_)
        case s16 => ((try dsimp only); (go_split_ands; (repeat' apply And.intro) <;> (first | assumption | exact set_other (set_other (by assumption) _ (.inl (by first | omega | (simp; omega)))) _ (.inl (by first | omega | (simp; omega))))))
        clear hK K
        try simp only [Act.put, List.setIfInBounds_toArray, List.set_cons_zero, List.set_cons_succ]
        refine wpAnyH_ready (rs := [5]) (by kernel_rfl) (by simp) ?_
        refine AllReadyH.cons (o := { dst := some 17, op := Go.Op.call { callee := Go.Callee.value (Go.Operand.func 61), args := #[Go.Operand.tmp 16, Go.Operand.const (Go.Value.int Go.IntKind.i64 8)], argTypes := #[85, 3] }, type := 3, pos := "l02_ledger.go:307", after := #[{ on := 4, ground := Go.Ground.data }], guard := none }) rfl (fun K hK => ?k17) AllReadyH.nil
        go_simp
        go_at_call 61
        refine (l01Below_any w2.heap.size g 8 (by omega) v2 hc).mono ?_
        rintro e v3 hpost
        obtain ⟨z, rfl, ⟨z_0, z_1, -⟩, hc, he⟩ := hpost.eff
        clear hpost
        replace z_1 := z_1 (by omega)
        have he3 : Eff (g) (g + 1) v2 v3 := he
        have hz3 : v2.heap.size ≤ v3.heap.size := he3.size
        have E3 : Eff g (g + 1) w5 v3 := E2.step he3 (by omega)
        have S3 := E3.size
        replace o := o.keep he3 (by omega)
        replace l_f0 := (he3.frozen l_0 (by simp only; omega)).trans l_f0
        replace l_f1 := (he3.frozen l_1 (by simp only; omega)).trans l_f1
        replace nx_f0 := (he3.frozen nx_0 (by simp only; omega)).trans nx_f0
        replace nx_f1 := (he3.frozen nx_1 (by simp only; omega)).trans nx_f1
        replace l_0 := he3.cell l_0 (by simp only; omega)
        replace l_1 := he3.cell l_1 (by simp only; omega)
        replace nx_0 := he3.cell nx_0 (by simp only; omega)
        replace nx_1 := he3.cell nx_1 (by simp only; omega)
        replace l_l := Nat.lt_of_lt_of_le l_l hz3
        replace nx_l := Nat.lt_of_lt_of_le nx_l hz3
        clear he
        refine hK.out _ _ ?s17 (fun hHeld => ?_)
        case s17 => ((try dsimp only); (go_split_ands; (repeat' apply And.intro) <;> (first | assumption | exact set_other (set_other (by assumption) _ (.inl (by first | omega | (simp; omega)))) _ (.inl (by first | omega | (simp; omega))))))
        clear hK K
        try simp only [Act.put, List.setIfInBounds_toArray, List.set_cons_zero, List.set_cons_succ]
        refine wpAnyH_take (i := 6) (oi := { dst := some 18, op := Go.Op.binOp Go.BinOp.quo 3 (Go.Operand.tmp 17) (Go.Operand.const (Go.Value.int Go.IntKind.i64 7)) 3, type := 3, pos := "l02_ledger.go:307", after := #[{ on := 5, ground := Go.Ground.data }], guard := none }) (v := ?v18) rfl (by kernel_rfl) (by kernel_rfl) (by kernel_rfl) (fun _ _ _ h => h) (Or.inl ⟨by rfl, ?y18⟩) (by assumption) ?_
        case y18 => (intro w hSw; (try dsimp only at hSw); go_simp; first | done | with_reducible rfl)
        try simp only [Act.put, List.setIfInBounds_toArray, List.set_cons_zero, List.set_cons_succ]
        refine wpAnyH_take (i := 7) (oi := { dst := some 19, op := Go.Op.binOp Go.BinOp.sub 3 (Go.Operand.tmp 15) (Go.Operand.tmp 18) 3, type := 3, pos := "l02_ledger.go:307", after := #[{ on := 3, ground := Go.Ground.data }, { on := 6, ground := Go.Ground.data }], guard := none }) (v := ?v19) rfl (by kernel_rfl) (by kernel_rfl) (by kernel_rfl) (fun _ _ _ h => h) (Or.inl ⟨by rfl, ?y19⟩) (by assumption) ?_
        case y19 => (intro w hSw; (try dsimp only at hSw); go_simp; first | done | with_reducible rfl)
        try simp only [Act.put, List.setIfInBounds_toArray, List.set_cons_zero, List.set_cons_succ]
        refine wpAnyH_ready (rs := [8]) (by kernel_rfl) (by simp) ?_
        refine AllReadyH.cons (o := { dst := some 20, op := Go.Op.call { callee := Go.Callee.value (Go.Operand.func 60), args := #[Go.Operand.tmp 12, Go.Operand.tmp 19], argTypes := #[85, 3] }, type := 43, pos := "l02_ledger.go:307", after := #[{ on := 0, ground := Go.Ground.data }, { on := 7, ground := Go.Ground.data }, { on := 5, ground := Go.Ground.chain }], guard := none }) rfl (fun K hK => ?k20) AllReadyH.nil
        go_simp
        go_at_call 60
        have nx_r : v0.heap.size < v3.heap.size := nx_l
        refine (l02Posting_any w2.heap.size g _ v3 hc).mono ?_
        rintro e v4 hpost
        obtain ⟨pq, Ap, np, cp, ps, rfl, hnp, hc, op, he⟩ := hpost
        have he4 : Eff (g) (g + 1) v3 v4 := he
        have hz4 : v3.heap.size ≤ v4.heap.size := he4.size
        have E4 : Eff g (g + 1) w5 v4 := E3.step he4 (by omega)
        have S4 := E4.size
        replace o := o.keep he4 (by omega)
        replace l_f0 := (he4.frozen l_0 (by simp only; omega)).trans l_f0
        replace l_f1 := (he4.frozen l_1 (by simp only; omega)).trans l_f1
        replace nx_f0 := (he4.frozen nx_0 (by simp only; omega)).trans nx_f0
        replace nx_f1 := (he4.frozen nx_1 (by simp only; omega)).trans nx_f1
        replace l_0 := he4.cell l_0 (by simp only; omega)
        replace l_1 := he4.cell l_1 (by simp only; omega)
        replace nx_0 := he4.cell nx_0 (by simp only; omega)
        replace nx_1 := he4.cell nx_1 (by simp only; omega)
        replace l_l := Nat.lt_of_lt_of_le l_l hz4
        replace nx_l := Nat.lt_of_lt_of_le nx_l hz4
        clear he
        refine hK.out _ _ ?s20 (fun hHeld => ?_)
        case s20 => ((try dsimp only); (go_split_ands; (repeat' apply And.intro) <;> (first | assumption | exact set_other (set_other (by assumption) _ (.inl (by first | omega | (simp; omega)))) _ (.inl (by first | omega | (simp; omega))))))
        clear hK K
        try simp only [Act.put, List.setIfInBounds_toArray, List.set_cons_zero, List.set_cons_succ]
        refine wpAnyH_ready (rs := [10]) (by kernel_rfl) (by simp) ?_
        refine AllReadyH.cons (o := { dst := none, op := Go.Op.store 43 (Go.Operand.tmp 6) (Go.Operand.tmp 20), type := 0, pos := "l02_ledger.go:307", after := #[{ on := 9, ground := Go.Ground.data }, { on := 8, ground := Go.Ground.data }, { on := 8, ground := Go.Ground.chain }, { on := 0, ground := Go.Ground.phase }, { on := 1, ground := Go.Ground.phase }, { on := 2, ground := Go.Ground.phase }, { on := 3, ground := Go.Ground.phase }, { on := 4, ground := Go.Ground.phase }, { on := 5, ground := Go.Ground.phase }, { on := 6, ground := Go.Ground.phase }, { on := 7, ground := Go.Ground.phase }, { on := 8, ground := Go.Ground.phase }, { on := 9, ground := Go.Ground.phase }], guard := none }) rfl (fun K hK => ?k21) AllReadyH.nil
        go_simp
        refine hK.out _ _ ?s21 (fun hHeld => ?_)
        case s21 => ((try dsimp only); (go_split_ands; (repeat' apply And.intro) <;> (first | assumption | exact set_other (set_other (by assumption) _ (.inl (by first | omega | (simp; omega)))) _ (.inl (by first | omega | (simp; omega))))))
        clear hK K
        try simp only [Act.put]
        refine wpAnyH_done (by kernel_rfl) ?_ _
        have hro := Own.blk op
        have hrle := Own.le op
        go_wp2_with fail
        go_meet
        exact MidPst.mk hnp op (fun k hk => by have := hro k hk; omega) hc E4 (by omega) (by omega) (by omega) ⟨nx_0, nx_1, nx_f0, nx_f1⟩
  case rest =>
    obtain ⟨b2, q2, A2, n2, c2, lo2, hi2, ls2, rfl, hn2, hb1, hb2, hne, hlo, ⟨nx_0, nx_1, nx_f0, nx_f1⟩, r, hcn, he⟩ := hcut
    have he6 : Eff g (g + 1) w5 wc := he
    have hz6 : w5.heap.size ≤ wc.heap.size := he6.size
    have b6 : Below W.heap.size W wc := b5.trans (he6.below b5.size (by omega))
    replace o := o.keep he6 (by omega)
    replace ra_f0 := (he6.frozen ra_0 (by simp only; omega)).trans ra_f0
    replace ra_f1 := (he6.frozen ra_1 (by simp only; omega)).trans ra_f1
    replace rb_f0 := (he6.frozen rb_0 (by simp only; omega)).trans rb_f0
    replace rb_f1 := (he6.frozen rb_1 (by simp only; omega)).trans rb_f1
    replace l_f0 := (he6.frozen l_0 (by simp only; omega)).trans l_f0
    replace l_f1 := (he6.frozen l_1 (by simp only; omega)).trans l_f1
    replace ra_0 := he6.cell ra_0 (by simp only; omega)
    replace ra_1 := he6.cell ra_1 (by simp only; omega)
    replace rb_0 := he6.cell rb_0 (by simp only; omega)
    replace rb_1 := he6.cell rb_1 (by simp only; omega)
    replace l_0 := he6.cell l_0 (by simp only; omega)
    replace l_1 := he6.cell l_1 (by simp only; omega)
    replace ra_l := Nat.lt_of_lt_of_le ra_l hz6
    replace rb_l := Nat.lt_of_lt_of_le rb_l hz6
    replace l_l := Nat.lt_of_lt_of_le l_l hz6
    clear hc he
    have hc := hcn
    clear hcn
    have nx_l : b2 < wc.heap.size := hb2
    replace r : OwnL wc w5.heap.size wc.heap.size A2 n2 c2 ls2 := Own.wide r hlo (Own.le r) (Nat.le_refl _)
    obtain ⟨ta, tb, rt, hta, htab, htb, htt⟩ := Own.tight r (by omega)
    have hbt : b2 < ta ∨ tb ≤ b2 := by
      by_cases h : ta ≤ b2 ∧ b2 < tb
      · exact absurd rfl (hne b2 (htt b2 h.1 h.2))
      · omega
    clear r htt hne
    have rt : OwnL wc ta tb A2 n2 c2 ls2 := rt
    go_wp2_with fail
    refine (l01Below_any w2.heap.size g 10 (by omega) wc hc).mono ?_
    rintro e w7 hpost
    obtain ⟨k, rfl, ⟨k_0, k_1, -⟩, hc, he⟩ := hpost.eff
    clear hpost
    replace k_1 := k_1 (by omega)
    have he7 : Eff (g) (g + 1) wc w7 := he
    have hz7 : wc.heap.size ≤ w7.heap.size := he7.size
    have b7 : Below W.heap.size W w7 := b6.trans (he7.below b6.size (by omega))
    replace o := o.keep he7 (by omega)
    replace rt := rt.keep he7 (by omega)
    replace ra_f0 := (he7.frozen ra_0 (by simp only; omega)).trans ra_f0
    replace ra_f1 := (he7.frozen ra_1 (by simp only; omega)).trans ra_f1
    replace rb_f0 := (he7.frozen rb_0 (by simp only; omega)).trans rb_f0
    replace rb_f1 := (he7.frozen rb_1 (by simp only; omega)).trans rb_f1
    replace l_f0 := (he7.frozen l_0 (by simp only; omega)).trans l_f0
    replace l_f1 := (he7.frozen l_1 (by simp only; omega)).trans l_f1
    replace nx_f0 := (he7.frozen nx_0 (by simp only; omega)).trans nx_f0
    replace nx_f1 := (he7.frozen nx_1 (by simp only; omega)).trans nx_f1
    replace ra_0 := he7.cell ra_0 (by simp only; omega)
    replace ra_1 := he7.cell ra_1 (by simp only; omega)
    replace rb_0 := he7.cell rb_0 (by simp only; omega)
    replace rb_1 := he7.cell rb_1 (by simp only; omega)
    replace l_0 := he7.cell l_0 (by simp only; omega)
    replace l_1 := he7.cell l_1 (by simp only; omega)
    replace nx_0 := he7.cell nx_0 (by simp only; omega)
    replace nx_1 := he7.cell nx_1 (by simp only; omega)
    replace ra_l := Nat.lt_of_lt_of_le ra_l hz7
    replace rb_l := Nat.lt_of_lt_of_le rb_l hz7
    replace l_l := Nat.lt_of_lt_of_le l_l hz7
    replace nx_l := Nat.lt_of_lt_of_le nx_l hz7
    clear he
    by_cases k0 : k = 0
    · skip
      subst k0
      have n1 : ((0 : Int) == 1) = false := by decide
      go_wp2_with fail
      refine (l02Any_any w2.heap.size g _ _ _ _ _ _ w7 hc rt (by omega) (by omega)).mono ?_
      rintro e wz ⟨A3, n3, c3, ls3, wy, rfl, hn3, hcn, o3, hE1, hE2⟩
      have he8 : Eff g (g + 1) w7 wy := hE1
      have hz8 : w7.heap.size ≤ wy.heap.size := he8.size
      have b8 : Below W.heap.size W wy := b7.trans (he8.below b7.size (by omega))
      replace o := o.keep he8 (by omega)
      replace ra_f0 := (he8.frozen ra_0 (by simp only; omega)).trans ra_f0
      replace ra_f1 := (he8.frozen ra_1 (by simp only; omega)).trans ra_f1
      replace rb_f0 := (he8.frozen rb_0 (by simp only; omega)).trans rb_f0
      replace rb_f1 := (he8.frozen rb_1 (by simp only; omega)).trans rb_f1
      replace l_f0 := (he8.frozen l_0 (by simp only; omega)).trans l_f0
      replace l_f1 := (he8.frozen l_1 (by simp only; omega)).trans l_f1
      replace nx_f0 := (he8.frozen nx_0 (by simp only; omega)).trans nx_f0
      replace nx_f1 := (he8.frozen nx_1 (by simp only; omega)).trans nx_f1
      replace ra_0 := he8.cell ra_0 (by simp only; omega)
      replace ra_1 := he8.cell ra_1 (by simp only; omega)
      replace rb_0 := he8.cell rb_0 (by simp only; omega)
      replace rb_1 := he8.cell rb_1 (by simp only; omega)
      replace l_0 := he8.cell l_0 (by simp only; omega)
      replace l_1 := he8.cell l_1 (by simp only; omega)
      replace nx_0 := he8.cell nx_0 (by simp only; omega)
      replace nx_1 := he8.cell nx_1 (by simp only; omega)
      replace ra_l := Nat.lt_of_lt_of_le ra_l hz8
      replace rb_l := Nat.lt_of_lt_of_le rb_l hz8
      replace l_l := Nat.lt_of_lt_of_le l_l hz8
      replace nx_l := Nat.lt_of_lt_of_le nx_l hz8
      have he9 : Eff ta tb wy wz := hE2
      have hz9 : wy.heap.size ≤ wz.heap.size := he9.size
      have b9 : Below W.heap.size W wz := b8.trans (he9.below b8.size (by omega))
      replace o := o.keep he9 (by omega)
      replace ra_f0 := (he9.frozen ra_0 (by simp only; omega)).trans ra_f0
      replace ra_f1 := (he9.frozen ra_1 (by simp only; omega)).trans ra_f1
      replace rb_f0 := (he9.frozen rb_0 (by simp only; omega)).trans rb_f0
      replace rb_f1 := (he9.frozen rb_1 (by simp only; omega)).trans rb_f1
      replace l_f0 := (he9.frozen l_0 (by simp only; omega)).trans l_f0
      replace l_f1 := (he9.frozen l_1 (by simp only; omega)).trans l_f1
      replace nx_f0 := (he9.frozen nx_0 (by simp only; omega)).trans nx_f0
      replace nx_f1 := (he9.frozen nx_1 (by simp only; omega)).trans nx_f1
      replace ra_0 := he9.cell ra_0 (by simp only; omega)
      replace ra_1 := he9.cell ra_1 (by simp only; omega)
      replace rb_0 := he9.cell rb_0 (by simp only; omega)
      replace rb_1 := he9.cell rb_1 (by simp only; omega)
      replace l_0 := he9.cell l_0 (by simp only; omega)
      replace l_1 := he9.cell l_1 (by simp only; omega)
      replace nx_0 := he9.cell nx_0 (by simp only; omega)
      replace nx_1 := he9.cell nx_1 (by simp only; omega)
      replace ra_l := Nat.lt_of_lt_of_le ra_l hz9
      replace rb_l := Nat.lt_of_lt_of_le rb_l hz9
      replace l_l := Nat.lt_of_lt_of_le l_l hz9
      replace nx_l := Nat.lt_of_lt_of_le nx_l hz9
      clear hc rt hE1 hE2
      have hc := hcn
      clear hcn
      go_upto_region 7 with fail
      have he10 : Eff (b2) (b2 + 1) wz (wz.setCell ⟨b2, 1, none⟩ (.slice A3 n3 c3)) := eff_set _ _ _ _
      replace ra_f0 := (he10.frozen ra_0 (by simp only; omega)).trans ra_f0
      replace ra_f1 := (he10.frozen ra_1 (by simp only; omega)).trans ra_f1
      replace rb_f0 := (he10.frozen rb_0 (by simp only; omega)).trans rb_f0
      replace rb_f1 := (he10.frozen rb_1 (by simp only; omega)).trans rb_f1
      replace l_f0 := (he10.frozen l_0 (by simp only; omega)).trans l_f0
      replace l_f1 := (he10.frozen l_1 (by simp only; omega)).trans l_f1
      replace nx_f0 := set_frozen (p := ⟨b2, 1, none⟩) nx_f0 (.slice A3 n3 c3)
      replace nx_f1 := set_frozen (p := ⟨b2, 1, none⟩) nx_f1 (.slice A3 n3 c3)
      replace ra_0 := he10.cell ra_0 (by simp only; omega)
      replace ra_1 := he10.cell ra_1 (by simp only; omega)
      replace rb_0 := he10.cell rb_0 (by simp only; omega)
      replace rb_1 := he10.cell rb_1 (by simp only; omega)
      replace l_0 := he10.cell l_0 (by simp only; omega)
      replace l_1 := he10.cell l_1 (by simp only; omega)
      replace nx_0 := set_other (b' := b2) (o' := 1) nx_0 (.slice A3 n3 c3) (.inr (by omega))
      replace nx_1 := set_same nx_1 (.slice A3 n3 c3)
      have hz10 : wz.heap.size ≤ (wz.setCell ⟨b2, 1, none⟩ (.slice A3 n3 c3)).heap.size := he10.size
      generalize (wz.setCell ⟨b2, 1, none⟩ (.slice A3 n3 c3)) = w10 at *
      have b10 : Below W.heap.size W w10 := b9.trans (he10.below b9.size (by omega))
      replace o := o.keep he10 (by omega)
      replace o3 := o3.keep he10 (by omega)
      replace ra_l := Nat.lt_of_lt_of_le ra_l hz10
      replace rb_l := Nat.lt_of_lt_of_le rb_l hz10
      replace l_l := Nat.lt_of_lt_of_le l_l hz10
      replace nx_l := Nat.lt_of_lt_of_le nx_l hz10
      replace hc := hc.keep he10 (by omega) (by omega)
      go_upto_region 9 with fail
      go_region
      all_goals (go_wp2_with fail)
      all_goals (first | (refine bodyPost_ret (v := .tuple #[.agg #[.int .i64 q, .slice A1 m c1], .agg #[.int .i64 q2, .slice A3 n3 c3]]) (by simp [results, Try.results37, go_sem, *]) rfl ?_))
      all_goals exact DPost.mk hm (by omega) o o3 b10 ((eff_set4 _ _ _ _ _).drew) (Nat.le_refl _) (by omega) (by omega)
    have n0 : (k == 0) = false := by simp; omega
    by_cases k1 : k = 1
    · skip
      subst k1
      go_wp2_with fail
      refine (l01Raw_any w2.heap.size g w7 hc).mono ?_
      rintro e w8 hpost
      obtain ⟨z, rfl, z_r, hc, he⟩ := hpost.eff
      clear hpost
      have he8 : Eff (g) (g + 1) w7 w8 := he
      have hz8 : w7.heap.size ≤ w8.heap.size := he8.size
      have b8 : Below W.heap.size W w8 := b7.trans (he8.below b7.size (by omega))
      replace o := o.keep he8 (by omega)
      replace rt := rt.keep he8 (by omega)
      replace ra_f0 := (he8.frozen ra_0 (by simp only; omega)).trans ra_f0
      replace ra_f1 := (he8.frozen ra_1 (by simp only; omega)).trans ra_f1
      replace rb_f0 := (he8.frozen rb_0 (by simp only; omega)).trans rb_f0
      replace rb_f1 := (he8.frozen rb_1 (by simp only; omega)).trans rb_f1
      replace l_f0 := (he8.frozen l_0 (by simp only; omega)).trans l_f0
      replace l_f1 := (he8.frozen l_1 (by simp only; omega)).trans l_f1
      replace nx_f0 := (he8.frozen nx_0 (by simp only; omega)).trans nx_f0
      replace nx_f1 := (he8.frozen nx_1 (by simp only; omega)).trans nx_f1
      replace ra_0 := he8.cell ra_0 (by simp only; omega)
      replace ra_1 := he8.cell ra_1 (by simp only; omega)
      replace rb_0 := he8.cell rb_0 (by simp only; omega)
      replace rb_1 := he8.cell rb_1 (by simp only; omega)
      replace l_0 := he8.cell l_0 (by simp only; omega)
      replace l_1 := he8.cell l_1 (by simp only; omega)
      replace nx_0 := he8.cell nx_0 (by simp only; omega)
      replace nx_1 := he8.cell nx_1 (by simp only; omega)
      replace ra_l := Nat.lt_of_lt_of_le ra_l hz8
      replace rb_l := Nat.lt_of_lt_of_le rb_l hz8
      replace l_l := Nat.lt_of_lt_of_le l_l hz8
      replace nx_l := Nat.lt_of_lt_of_le nx_l hz8
      clear he
      go_upto_region 9 with fail
      have he9 : Eff (b2) (b2 + 1) w8 (w8.setCell ⟨b2, 0, none⟩ (.int .i64 z)) := eff_set _ _ _ _
      replace ra_f0 := (he9.frozen ra_0 (by simp only; omega)).trans ra_f0
      replace ra_f1 := (he9.frozen ra_1 (by simp only; omega)).trans ra_f1
      replace rb_f0 := (he9.frozen rb_0 (by simp only; omega)).trans rb_f0
      replace rb_f1 := (he9.frozen rb_1 (by simp only; omega)).trans rb_f1
      replace l_f0 := (he9.frozen l_0 (by simp only; omega)).trans l_f0
      replace l_f1 := (he9.frozen l_1 (by simp only; omega)).trans l_f1
      replace nx_f0 := set_frozen (p := ⟨b2, 0, none⟩) nx_f0 (.int .i64 z)
      replace nx_f1 := set_frozen (p := ⟨b2, 0, none⟩) nx_f1 (.int .i64 z)
      replace ra_0 := he9.cell ra_0 (by simp only; omega)
      replace ra_1 := he9.cell ra_1 (by simp only; omega)
      replace rb_0 := he9.cell rb_0 (by simp only; omega)
      replace rb_1 := he9.cell rb_1 (by simp only; omega)
      replace l_0 := he9.cell l_0 (by simp only; omega)
      replace l_1 := he9.cell l_1 (by simp only; omega)
      replace nx_0 := set_same nx_0 (.int .i64 z)
      replace nx_1 := set_other (b' := b2) (o' := 0) nx_1 (.int .i64 z) (.inr (by omega))
      have hz9 : w8.heap.size ≤ (w8.setCell ⟨b2, 0, none⟩ (.int .i64 z)).heap.size := he9.size
      generalize (w8.setCell ⟨b2, 0, none⟩ (.int .i64 z)) = w9 at *
      have b9 : Below W.heap.size W w9 := b8.trans (he9.below b8.size (by omega))
      replace o := o.keep he9 (by omega)
      replace rt := rt.keep he9 (by omega)
      replace ra_l := Nat.lt_of_lt_of_le ra_l hz9
      replace rb_l := Nat.lt_of_lt_of_le rb_l hz9
      replace l_l := Nat.lt_of_lt_of_le l_l hz9
      replace nx_l := Nat.lt_of_lt_of_le nx_l hz9
      replace hc := hc.keep he9 (by omega) (by omega)
      go_upto_region 9 with fail
      go_region
      all_goals (go_wp2_with fail)
      all_goals (first | (refine bodyPost_ret (v := .tuple #[.agg #[.int .i64 q, .slice A1 m c1], .agg #[.int .i64 z, .slice A2 n2 c2]]) (by simp [results, Try.results37, go_sem, *]) rfl ?_))
      all_goals exact DPost.mk hm (by omega) o rt b9 ((eff_set4 _ _ _ _ _).drew) (Nat.le_refl _) (by omega) (by omega)
    have n1 : (k == 1) = false := by simp; omega
    go_upto_region 9 with fail
    go_region
    all_goals (go_wp2_with fail)
    all_goals (first | (refine bodyPost_ret (v := .tuple #[.agg #[.int .i64 q, .slice A1 m c1], .agg #[.int .i64 q2, .slice A2 n2 c2]]) (by simp [results, Try.results37, go_sem, *]) rfl ?_))
    all_goals exact DPost.mk hm (by omega) o rt b7 ((eff_set4 _ _ _ _ _).drew) (Nat.le_refl _) (by omega) (by omega)
end Go.Proofs.Ytgjphejmppehjaa
