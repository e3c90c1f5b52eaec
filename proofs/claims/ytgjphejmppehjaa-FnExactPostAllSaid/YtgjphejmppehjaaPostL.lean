/- The walk of the law on Post. -/
import Derived.Test.YtgjphejmppehjaaPosS
namespace Go.Proofs.Ytgjphejmppehjaa
open Go.RowKit
theorem postR_len (q : Int) (ls : List Ln) (p : Int) (ps : List Ln) : (postR q ls p ps).2.1.length ≤ 302 := by
  unfold postR
  split
  · rename_i h
    simp only [Bool.and_eq_true] at h
    split
    · simp
    · split
      · rename_i h2
        have := mrg_lines h.1 h.2
        exact linesOk_len (by rw [this, h2])
      · simp
  · simp
theorem spec_PostR {q : Int} {ls : List Ln} {p : Int} {ps : List Ln} {Q Cd : Int} {R : List Ln} (hQ : (postR q ls p ps).1 = Q) (hR : (postR q ls p ps).2.1 = R) (hC : (postR q ls p ps).2.2 = Cd) (A : Option Addr) (n c : Nat) (A' : Option Addr) (n' c' : Nat) (W : World) (hr : Rd W W.heap.size 3 A n (lnCells ls)) (hr' : Rd W W.heap.size 3 A' n' (lnCells ps)) (hn : n ≤ 1099511627776) (hn' : n' ≤ 1099511627776) (hc : n ≤ c ∧ c ≤ maxLen) (hc' : n' ≤ c' ∧ c' ≤ maxLen) :
    Calls Try.prog 32 #[.agg #[.int .i64 q, .slice A n c], .agg #[.int .i64 p, .slice A' n' c']] W (MadePost Q R Cd W) := by
  rw [← hQ, ← hR, ← hC]; exact spec_Post q A n c ls p A' n' c' ps W hr hr' hn hn' hc hc'
theorem impl_PostR {q : Int} {ls : List Ln} {p : Int} {ps : List Ln} {Q Cd : Int} {R : List Ln} (hQ : (postR q ls p ps).1 = Q) (hR : (postR q ls p ps).2.1 = R) (hC : (postR q ls p ps).2.2 = Cd) (A : Option Addr) (n c : Nat) (A' : Option Addr) (n' c' : Nat) (W : World) (hr : Rd W W.heap.size 3 A n (lnCells ls)) (hr' : Rd W W.heap.size 3 A' n' (lnCells ps)) (hn : n ≤ 1099511627776) (hn' : n' ≤ 1099511627776) (hc : n ≤ c ∧ c ≤ maxLen) (hc' : n' ≤ c' ∧ c' ≤ maxLen) :
    Calls Try.prog 33 #[.agg #[.int .i64 q, .slice A n c], .agg #[.int .i64 p, .slice A' n' c']] W (MadePost Q R Cd W) := by
  rw [← hQ, ← hR, ← hC]; exact impl_Post q A n c ls p A' n' c' ps W hr hr' hn hn' hc hc'
theorem markLedger_z (q : Int) (A : Option Addr) (n c : Nat) (ls : List Ln) (lo hi k0 : Nat) (w : World) (ho : OwnL w lo hi A n c ls) (hk0 : k0 ≤ 4611686018427387904) (hn : n ≤ 1099511627776) (z : Int) (hz : z = (k0 : Int)) :
    Calls Try.prog 34 #[.agg #[.int .i64 q, .slice A n c], .int .i64 z] w (MarkedL A n c k0 lo hi w) := by subst hz; exact markLedger_any q A n c ls lo hi k0 w ho hk0 hn
theorem heldLedger_z (q : Int) (A : Option Addr) (n c k0 : Nat) (w : World) (hr : Rd w w.heap.size 3 A n (lnCells (marksL k0 n))) (hk0 : k0 ≤ 4611686018427387904) (hn : n ≤ 1099511627776) (z : Int) (hz : z = (k0 : Int)) :
    Calls Try.prog 36 #[.agg #[.int .i64 q, .slice A n c], .int .i64 z] w fun e w' => e = .returned (.int .i64 ((k0 + n * 3 : Nat) : Int)) ∧ Below w.heap.size w w' := by subst hz; exact heldLedger_yes q A n c k0 w hr hk0 hn
theorem markPosting_z (q : Int) (A : Option Addr) (n c : Nat) (ls : List Ln) (lo hi k0 : Nat) (w : World) (ho : OwnL w lo hi A n c ls) (hk0 : k0 ≤ 4611686018427387904) (hn : n ≤ 1099511627776) (z : Int) (hz : z = (k0 : Int)) :
    Calls Try.prog 35 #[.agg #[.int .i64 q, .slice A n c], .int .i64 z] w (MarkedL A n c k0 lo hi w) := by subst hz; exact markPosting_any q A n c ls lo hi k0 w ho hk0 hn
set_option maxHeartbeats 8000000 in
set_option maxRecDepth 100000 in
theorem walk_FnExactPost (q : Int) (A : Option Addr) (n c : Nat) (ls : List Ln) (p : Int) (A' : Option Addr) (n' c' : Nat) (ps : List Ln) (W : World) (_hnc : n ≤ c) (_hm : c ≤ maxLen) (hr : Rd W W.heap.size 3 A n (lnCells ls)) (_hnc' : n' ≤ c') (_hm' : c' ≤ maxLen) (hr' : Rd W W.heap.size 3 A' n' (lnCells ps)) :
    Calls Try.prog 8 #[.agg #[.int .i64 q, .slice A n c], .agg #[.int .i64 p, .slice A' n' c']] W fun e w' => e = .returned (.bool true) ∧ Below W.heap.size W w' := by
  unfold maxLen at _hm _hm'
  by_cases hn1 : 1048576 < n
  · go_enter Try.func8, Try.ntmps8
    go_wp2_with (go_at_call 17; refine (szLedger_any q A n c 1048576 (by omega) (by omega) _).mono ?_; rintro e w1 ⟨rfl, hb1⟩; rw [if_pos (by omega)])
    go_ret
    exact ⟨rfl, (((Below.refl _ _).alloc (Nat.le_refl _) _).alloc (by simp) _).trans (hb1.mono (by simp; omega))⟩
  · have hn : n ≤ 1048576 := by omega
    clear hn1
    by_cases hn2 : 1048576 < n + n'
    · go_enter Try.func8, Try.ntmps8
      go_wp2_with (first | (go_at_call 17; refine (szLedger_any q A n c 1048576 (by omega) (by omega) _).mono ?_; rintro e w1 ⟨rfl, hb1⟩; rw [if_neg (by omega)]; have hk1 := fun o => hb1.cell (p := ⟨W.heap.size + 1, o, none⟩) (by simp)) | (go_at_call 22; refine (szPosting_any p A' n' c' (1048576 - (n : Int)) (by omega) (by omega) _).mono ?_; rintro e w2 ⟨rfl, hb2⟩; rw [if_pos (by omega)]))
      go_ret
      exact ⟨rfl, ((((Below.refl _ _).alloc (Nat.le_refl _) _).alloc (by simp) _).trans (hb1.mono (by simp; omega))).trans (hb2.mono (by have := hb1.size; simp at this; omega))⟩
    have hn' : n' ≤ 1048576 := by omega
    obtain ⟨Q, hQ⟩ : ∃ x, (postR q ls p ps).1 = x := ⟨_, rfl⟩
    obtain ⟨R, hR⟩ : ∃ x, (postR q ls p ps).2.1 = x := ⟨_, rfl⟩
    obtain ⟨Cd, hC⟩ : ∃ x, (postR q ls p ps).2.2 = x := ⟨_, rfl⟩
    obtain ⟨N, hN⟩ : ∃ N, R.length = N := ⟨_, rfl⟩
    have hN2 : N ≤ 302 := by rw [← hN, ← hR]; exact postR_len q ls p ps
    have HQ := Lib.hid hQ
    have HR := Lib.hid hR
    have HC := Lib.hid hC
    have HN := Lib.hid hN
    have hcc : (Cd != Cd) = false := by simp
    clear hQ hR hC hN
    go_enter Try.func8, Try.ntmps8
    go_wp2_with fail
    have he1 : Eff 0 0 W (W.alloc (.cells #[.int .i64 q, .slice A n c] 30)) := Eff.alloc _ _
    have hs1 : (W.alloc (.cells #[.int .i64 q, .slice A n c] 30)).heap.size = W.heap.size + 1 := (by simp)
    have aL_0 : (W.alloc (.cells #[.int .i64 q, .slice A n c] 30)).cell? ⟨W.heap.size, 0, none⟩ = some (.int .i64 q) := var_cell _ _ _ _ _ rfl
    have aL_1 : (W.alloc (.cells #[.int .i64 q, .slice A n c] 30)).cell? ⟨W.heap.size, 1, none⟩ = some (.slice A n c) := var_cell _ _ _ _ _ rfl
    generalize (W.alloc (.cells #[.int .i64 q, .slice A n c] 30)) = w1 at *
    have hz1 : W.heap.size ≤ w1.heap.size := he1.size
    have b1 : Below W.heap.size W w1 := he1.below (Nat.le_refl _) (by omega)
    replace hr := (hr.below (he1.below (B := W.heap.size) (by omega) (by omega)) (Nat.le_refl _))
    replace hr' := (hr'.below (he1.below (B := W.heap.size) (by omega) (by omega)) (Nat.le_refl _))
    have aL_l : W.heap.size < w1.heap.size := (by omega)
    have he2 : Eff 0 0 w1 (w1.alloc (.cells #[.int .i64 p, .slice A' n' c'] 39)) := Eff.alloc _ _
    have hs2 : (w1.alloc (.cells #[.int .i64 p, .slice A' n' c'] 39)).heap.size = w1.heap.size + 1 := (by simp)
    have aP_0 : (w1.alloc (.cells #[.int .i64 p, .slice A' n' c'] 39)).cell? ⟨w1.heap.size, 0, none⟩ = some (.int .i64 p) := var_cell _ _ _ _ _ rfl
    have aP_1 : (w1.alloc (.cells #[.int .i64 p, .slice A' n' c'] 39)).cell? ⟨w1.heap.size, 1, none⟩ = some (.slice A' n' c') := var_cell _ _ _ _ _ rfl
    generalize (w1.alloc (.cells #[.int .i64 p, .slice A' n' c'] 39)) = w2 at *
    have hz2 : w1.heap.size ≤ w2.heap.size := he2.size
    have b2 : Below W.heap.size W w2 := b1.trans (he2.below b1.size (by omega))
    replace hr := (hr.below (he2.below (B := W.heap.size) (by omega) (by omega)) (Nat.le_refl _))
    replace hr' := (hr'.below (he2.below (B := W.heap.size) (by omega) (by omega)) (Nat.le_refl _))
    replace aL_0 := he2.cell aL_0 (by simp only; omega)
    replace aL_1 := he2.cell aL_1 (by simp only; omega)
    replace aL_l := Nat.lt_of_lt_of_le aL_l hz2
    rw [hs1] at aP_0
    rw [hs1] at aP_1
    have aP_l : W.heap.size + 1 < w2.heap.size := (by omega)
    refine (szLedger_any q A n c 1048576 (by omega) (by omega) w2).mono ?_
    rintro e w3 ⟨rfl, hb⟩
    have he3 : Eff 0 0 w2 w3 := Eff.of hb
    have hz3 : w2.heap.size ≤ w3.heap.size := he3.size
    have b3 : Below W.heap.size W w3 := b2.trans (he3.below b2.size (by omega))
    replace hr := (hr.below (he3.below (B := W.heap.size) (by omega) (by omega)) (Nat.le_refl _))
    replace hr' := (hr'.below (he3.below (B := W.heap.size) (by omega) (by omega)) (Nat.le_refl _))
    replace aL_0 := he3.cell aL_0 (by simp only; omega)
    replace aL_1 := he3.cell aL_1 (by simp only; omega)
    replace aP_0 := he3.cell aP_0 (by simp only; omega)
    replace aP_1 := he3.cell aP_1 (by simp only; omega)
    replace aL_l := Nat.lt_of_lt_of_le aL_l hz3
    replace aP_l := Nat.lt_of_lt_of_le aP_l hz3
    clear hb
    rw [if_neg (by omega)]
    go_wp2_with fail
    refine (szPosting_any p A' n' c' (1048576 - (n : Int)) (by omega) (by omega) w3).mono ?_
    rintro e w4 ⟨rfl, hb⟩
    have he4 : Eff 0 0 w3 w4 := Eff.of hb
    have hz4 : w3.heap.size ≤ w4.heap.size := he4.size
    have b4 : Below W.heap.size W w4 := b3.trans (he4.below b3.size (by omega))
    replace hr := (hr.below (he4.below (B := W.heap.size) (by omega) (by omega)) (Nat.le_refl _))
    replace hr' := (hr'.below (he4.below (B := W.heap.size) (by omega) (by omega)) (Nat.le_refl _))
    replace aL_0 := he4.cell aL_0 (by simp only; omega)
    replace aL_1 := he4.cell aL_1 (by simp only; omega)
    replace aP_0 := he4.cell aP_0 (by simp only; omega)
    replace aP_1 := he4.cell aP_1 (by simp only; omega)
    replace aL_l := Nat.lt_of_lt_of_le aL_l hz4
    replace aP_l := Nat.lt_of_lt_of_le aP_l hz4
    clear hb
    rw [if_neg (by omega)]
    go_wp2_with fail
    go_cut [6, 7] (fun v6 v7 wx => v7 = .int .i64 Cd ∧ MidPost Q R w4 v6 wx)
    case first =>
      clear he1 he2 he3 he4 b1 b2 b3
      have hB0 : Below W.heap.size W w4.drew := b4.drew
      have hE0 : Eff 0 0 w4 w4.drew := (Eff.refl _ _ _).drew
      refine wp_region_held_drew (S := fun w' => w'.cell? ⟨W.heap.size, 0, none⟩ = some (.int .i64 q) ∧ w'.cell? ⟨W.heap.size, 1, none⟩ = some (.slice A n c) ∧ w'.cell? ⟨W.heap.size + 1, 0, none⟩ = some (.int .i64 p) ∧ w'.cell? ⟨W.heap.size + 1, 1, none⟩ = some (.slice A' n' c')) (by kernel_rfl) ?rg1 (fun hHeld => ?_)
      case rg1 => ((try dsimp only); (go_split_ands; (repeat' apply And.intro) <;> (first | assumption | exact cell_kept hb (by assumption) (by first | omega | (simp; done) | (simp; omega)) | exact set_other (set_other (by assumption) _ (.inl (by first | omega | (simp; omega)))) _ (.inl (by first | omega | (simp; omega))))))
      have hvz : w4.heap.size ≤ w4.drew.heap.size := Nat.le_refl _
      generalize w4.drew = v0 at *
      refine wpAnyH_take (i := 0) (oi := { dst := some 28, op := Go.Op.load 30 (Go.Operand.tmp 2), type := 30, pos := "exact.go:2992", after := #[], guard := none }) (v := ?v2) rfl (by kernel_rfl) (by kernel_rfl) (by kernel_rfl) (fun _ _ _ h => h) (Or.inl ⟨by rfl, ?y2⟩) (by assumption) ?_
      case y2 => (intro w hSw; (try dsimp only at hSw); go_simp; first | done | with_reducible rfl)
      try simp only [Act.put, List.setIfInBounds_toArray, List.set_cons_zero, List.set_cons_succ]
      refine wpAnyH_take (i := 2) (oi := { dst := some 30, op := Go.Op.load 39 (Go.Operand.tmp 3), type := 39, pos := "exact.go:2992", after := #[], guard := none }) (v := ?v3) rfl (by kernel_rfl) (by kernel_rfl) (by kernel_rfl) (fun _ _ _ h => h) (Or.inl ⟨by rfl, ?y3⟩) (by assumption) ?_
      case y3 => (intro w hSw; (try dsimp only at hSw); go_simp; first | done | with_reducible rfl)
      try simp only [Act.put, List.setIfInBounds_toArray, List.set_cons_zero, List.set_cons_succ]
      refine wpAnyH_ready (rs := [1, 8]) (by kernel_rfl) (by simp) ?_
      refine AllReadyH.cons (o := { dst := some 29, op := Go.Op.call { callee := Go.Callee.value (Go.Operand.func 19), args := #[Go.Operand.tmp 28], argTypes := #[30] }, type := 34, pos := "exact.go:2992", after := #[{ on := 0, ground := Go.Ground.data }], guard := none }) rfl (fun K hK => ?k4) ?m4
      case k4 =>
        go_simp
        go_at_call 19
        refine (toLedger_any q A n c ls v0 ((Rd.keep hr (fun p hp => (hB0.cell hp).trans (b4.cell hp).symm)).more hB0.size) (by omega)).mono ?_
        rintro e va ⟨Ata, cta, rfl, ta, hb⟩
        have hB1 : Below W.heap.size W va := hB0.trans (hb.mono hB0.size)
        have hE1 : Eff 0 0 w4 va := hE0.trans (Eff.of hb)
        have hZ1 : v0.heap.size ≤ va.heap.size := hb.size
        refine hK.out _ _ ?s4 (fun hHeld => ?_)
        case s4 => ((try dsimp only); (go_split_ands; (repeat' apply And.intro) <;> (first | assumption | exact cell_kept hb (by assumption) (by first | omega | (simp; done) | (simp; omega)) | exact set_other (set_other (by assumption) _ (.inl (by first | omega | (simp; omega)))) _ (.inl (by first | omega | (simp; omega))))))
        clear hK K
        try simp only [Act.put, List.setIfInBounds_toArray, List.set_cons_zero, List.set_cons_succ]
        refine wpAnyH_ready (rs := [3, 8]) (by kernel_rfl) (by simp) ?_
        refine AllReadyH.cons (o := { dst := some 31, op := Go.Op.call { callee := Go.Callee.value (Go.Operand.func 24), args := #[Go.Operand.tmp 30], argTypes := #[39] }, type := 43, pos := "exact.go:2992", after := #[{ on := 2, ground := Go.Ground.data }, { on := 1, ground := Go.Ground.chain }], guard := none }) rfl (fun K hK => ?k5) ?m5
        case k5 =>
          go_simp
          go_at_call 24
          refine (toPosting_any p A' n' c' ps va ((Rd.keep hr' (fun p hp => (hB1.cell hp).trans (b4.cell hp).symm)).more hB1.size) (by omega)).mono ?_
          rintro e vab ⟨Atb, ctb, rfl, tb, hb⟩
          have hB2 : Below W.heap.size W vab := hB1.trans (hb.mono hB1.size)
          have hE2 : Eff 0 0 w4 vab := hE1.trans (Eff.of hb)
          have hZ2 : va.heap.size ≤ vab.heap.size := hb.size
          replace ta := Own.keep ta (Eff.of hb) (.inr (.inr (Nat.le_refl _)))
          refine hK.out _ _ ?s5 (fun hHeld => ?_)
          case s5 => ((try dsimp only); (go_split_ands; (repeat' apply And.intro) <;> (first | assumption | exact cell_kept hb (by assumption) (by first | omega | (simp; done) | (simp; omega)) | exact set_other (set_other (by assumption) _ (.inl (by first | omega | (simp; omega)))) _ (.inl (by first | omega | (simp; omega))))))
          clear hK K
          try simp only [Act.put, List.setIfInBounds_toArray, List.set_cons_zero, List.set_cons_succ]
          refine wpAnyH_ready (rs := [4, 8]) (by kernel_rfl) (by simp) ?_
          refine AllReadyH.cons (o := { dst := some 32, op := Go.Op.call { callee := Go.Callee.value (Go.Operand.func 32), args := #[Go.Operand.tmp 29, Go.Operand.tmp 31], argTypes := #[34, 43] }, type := 54, pos := "exact.go:2992", after := #[{ on := 1, ground := Go.Ground.data }, { on := 3, ground := Go.Ground.data }, { on := 3, ground := Go.Ground.chain }], guard := none }) rfl (fun K hK => ?k6) ?m6
          case k6 =>
            go_simp
            go_at_call 32
            refine (spec_PostR HQ.out HR.out HC.out _ n _ _ n' _ vab (Own.rd ta (Own.le ta)) (Own.rd tb (Own.le tb)) (by omega) (by omega) (Own.caps ta) (Own.caps tb)).mono ?_
            rintro e vabp ⟨Ar, nr, cr, hnr, rfl, r, hb⟩
            have HNR := Lib.hid hnr
            clear hnr
            have hB3 : Below W.heap.size W vabp := hB2.trans (hb.mono hB2.size)
            have hE3 : Eff 0 0 w4 vabp := hE2.trans (Eff.of hb)
            have hZ3 : vab.heap.size ≤ vabp.heap.size := hb.size
            replace ta := Own.keep ta (Eff.of hb) (.inr (.inr (Nat.le_refl _)))
            replace tb := Own.keep tb (Eff.of hb) (.inr (.inr (Nat.le_refl _)))
            refine hK.out _ _ ?s6 (fun hHeld => ?_)
            case s6 => ((try dsimp only); (go_split_ands; (repeat' apply And.intro) <;> (first | assumption | exact cell_kept hb (by assumption) (by first | omega | (simp; done) | (simp; omega)) | exact set_other (set_other (by assumption) _ (.inl (by first | omega | (simp; omega)))) _ (.inl (by first | omega | (simp; omega))))))
            clear hK K
            try simp only [Act.put, List.setIfInBounds_toArray, List.set_cons_zero, List.set_cons_succ]
            refine wpAnyH_take (i := 5) (oi := { dst := some 27, op := Go.Op.move (Go.Operand.tmp 32), type := 54, pos := "exact.go:2992", after := #[{ on := 4, ground := Go.Ground.data }], guard := none }) (v := ?v7) rfl (by kernel_rfl) (by kernel_rfl) (by kernel_rfl) (fun _ _ _ h => h) (Or.inl ⟨by rfl, ?y7⟩) (by assumption) ?_
            case y7 => (intro w hSw; (try dsimp only at hSw); go_simp; first | done | with_reducible rfl)
            try simp only [Act.put, List.setIfInBounds_toArray, List.set_cons_zero, List.set_cons_succ]
            refine wpAnyH_take (i := 6) (oi := { dst := some 33, op := Go.Op.extract (Go.Operand.tmp 27) 0, type := 34, pos := "exact.go:2992", after := #[{ on := 5, ground := Go.Ground.data }], guard := none }) (v := ?v8) rfl (by kernel_rfl) (by kernel_rfl) (by kernel_rfl) (fun _ _ _ h => h) (Or.inl ⟨by rfl, ?y8⟩) (by assumption) ?_
            case y8 => (intro w hSw; (try dsimp only at hSw); go_simp; first | done | with_reducible rfl)
            try simp only [Act.put, List.setIfInBounds_toArray, List.set_cons_zero, List.set_cons_succ]
            refine wpAnyH_take (i := 7) (oi := { dst := some 34, op := Go.Op.extract (Go.Operand.tmp 27) 1, type := 3, pos := "exact.go:2992", after := #[{ on := 5, ground := Go.Ground.data }, { on := 9, ground := Go.Ground.gcOnly Go.Departure.lateStores }], guard := none }) (v := ?v9) rfl (by kernel_rfl) (by kernel_rfl) (by kernel_rfl) (fun _ _ _ h => h) (Or.inl ⟨by rfl, ?y9⟩) (by assumption) ?_
            case y9 => (intro w hSw; (try dsimp only at hSw); go_simp; first | done | with_reducible rfl)
            try simp only [Act.put, List.setIfInBounds_toArray, List.set_cons_zero, List.set_cons_succ]
            refine wpAnyH_ready (rs := [8]) (by kernel_rfl) (by simp) ?_
            refine AllReadyH.cons (o := { dst := some 6, op := Go.Op.alloc 34, type := 0, pos := "exact.go:2992", after := #[], guard := none }) rfl (fun K hK => ?k10) AllReadyH.nil
            go_simp
            have bx := var4 vabp (.int .i64 0) (.slice none 0 0) 34 (g := vabp.heap.size) rfl
            have hb : Below vabp.heap.size vabp (vabp.alloc (.cells #[.int .i64 0, .slice none 0 0] 34)) := (Below.refl _ _).alloc (Nat.le_refl _) _
            have hxs : (vabp.alloc (.cells #[.int .i64 0, .slice none 0 0] 34)).heap.size = vabp.heap.size + 1 := (by simp)
            generalize (vabp.alloc (.cells #[.int .i64 0, .slice none 0 0] 34)) = vabpx at *
            have hB4 : Below W.heap.size W vabpx := hB3.trans (hb.mono hB3.size)
            have hE4 : Eff 0 0 w4 vabpx := hE3.trans (Eff.of hb)
            have hZ4 : vabp.heap.size ≤ vabpx.heap.size := hb.size
            replace ta := Own.keep ta (Eff.of hb) (.inr (.inr (Nat.le_refl _)))
            replace tb := Own.keep tb (Eff.of hb) (.inr (.inr (Nat.le_refl _)))
            replace r := Own.keep r (Eff.of hb) (.inr (.inr (Nat.le_refl _)))
            refine hK.out _ _ ?s10 (fun hHeld => ?_)
            case s10 => ((try dsimp only); (go_split_ands; (repeat' apply And.intro) <;> (first | assumption | exact cell_kept hb (by assumption) (by first | omega | (simp; done) | (simp; omega)) | exact set_other (set_other (by assumption) _ (.inl (by first | omega | (simp; omega)))) _ (.inl (by first | omega | (simp; omega))))))
            clear hK K
            try simp only [Act.put, List.setIfInBounds_toArray, List.set_cons_zero, List.set_cons_succ]
            refine wpAnyH_ready (rs := [9]) (by kernel_rfl) (by simp) ?_
            refine AllReadyH.cons (o := { dst := none, op := Go.Op.store 34 (Go.Operand.tmp 6) (Go.Operand.tmp 33), type := 0, pos := "exact.go:2992", after := #[{ on := 8, ground := Go.Ground.data }, { on := 6, ground := Go.Ground.data }, { on := 4, ground := Go.Ground.chain }, { on := 0, ground := Go.Ground.phase }, { on := 1, ground := Go.Ground.phase }, { on := 2, ground := Go.Ground.phase }, { on := 3, ground := Go.Ground.phase }, { on := 4, ground := Go.Ground.phase }, { on := 5, ground := Go.Ground.phase }, { on := 6, ground := Go.Ground.phase }, { on := 7, ground := Go.Ground.textOnly Go.Departure.lateStores }, { on := 8, ground := Go.Ground.phase }], guard := none }) rfl (fun K hK => ?k11) AllReadyH.nil
            obtain ⟨q0, q1, q2, q3⟩ := bx
            go_simp
            refine hK.out _ _ ?s11 (fun hHeld => ?_)
            case s11 => ((try dsimp only); (go_split_ands; (repeat' apply And.intro) <;> (first | assumption | exact cell_kept hb (by assumption) (by first | omega | (simp; done) | (simp; omega)) | exact set_other (set_other (by assumption) _ (.inl (by first | omega | (simp; omega)))) _ (.inl (by first | omega | (simp; omega))))))
            clear hK K
            try simp only [Act.put]
            refine wpAnyH_take (i := 10) (oi := { dst := some 7, op := Go.Op.assign (Go.Operand.tmp 34), type := 3, pos := "exact.go:2992", after := #[{ on := 7, ground := Go.Ground.data }, { on := 9, ground := Go.Ground.chain }, { on := 0, ground := Go.Ground.phase }, { on := 1, ground := Go.Ground.phase }, { on := 2, ground := Go.Ground.phase }, { on := 3, ground := Go.Ground.phase }, { on := 4, ground := Go.Ground.phase }, { on := 5, ground := Go.Ground.phase }, { on := 6, ground := Go.Ground.phase }, { on := 7, ground := Go.Ground.phase }, { on := 8, ground := Go.Ground.phase }, { on := 9, ground := Go.Ground.phase }], guard := none }) (v := ?v12) rfl (by kernel_rfl) (by kernel_rfl) (by kernel_rfl) (fun _ _ _ h => h) (Or.inl ⟨by rfl, ?y12⟩) (by assumption) ?_
            case y12 => (intro w hSw; (try dsimp only at hSw); go_simp; first | done | with_reducible rfl)
            try simp only [Act.put, List.setIfInBounds_toArray, List.set_cons_zero, List.set_cons_succ]
            refine wpAnyH_done (by kernel_rfl) ?_ _
            go_wp2_with fail
            go_meet
            exact ⟨rfl, MidPost.mk r HNR.out (fun k hk => by have := Own.blk r k hk; omega) hE4 (by omega) (by omega) ⟨q0, q1, q2, q3⟩⟩
          case m6 =>
            refine AllReadyH.cons (o := { dst := some 6, op := Go.Op.alloc 34, type := 0, pos := "exact.go:2992", after := #[], guard := none }) rfl (fun K hK => ?k13) AllReadyH.nil
            case k13 =>
              go_simp
              have bx := var4 vab (.int .i64 0) (.slice none 0 0) 34 (g := vab.heap.size) rfl
              have hb : Below vab.heap.size vab (vab.alloc (.cells #[.int .i64 0, .slice none 0 0] 34)) := (Below.refl _ _).alloc (Nat.le_refl _) _
              have hxs : (vab.alloc (.cells #[.int .i64 0, .slice none 0 0] 34)).heap.size = vab.heap.size + 1 := (by simp)
              generalize (vab.alloc (.cells #[.int .i64 0, .slice none 0 0] 34)) = vabx at *
              have hB3 : Below W.heap.size W vabx := hB2.trans (hb.mono hB2.size)
              have hE3 : Eff 0 0 w4 vabx := hE2.trans (Eff.of hb)
              have hZ3 : vab.heap.size ≤ vabx.heap.size := hb.size
              replace ta := Own.keep ta (Eff.of hb) (.inr (.inr (Nat.le_refl _)))
              replace tb := Own.keep tb (Eff.of hb) (.inr (.inr (Nat.le_refl _)))
              refine hK.out _ _ ?s13 (fun hHeld => ?_)
              case s13 => ((try dsimp only); (go_split_ands; (repeat' apply And.intro) <;> (first | assumption | exact cell_kept hb (by assumption) (by first | omega | (simp; done) | (simp; omega)) | exact set_other (set_other (by assumption) _ (.inl (by first | omega | (simp; omega)))) _ (.inl (by first | omega | (simp; omega))))))
              clear hK K
              try simp only [Act.put, List.setIfInBounds_toArray, List.set_cons_zero, List.set_cons_succ]
              refine wpAnyH_ready (rs := [4]) (by kernel_rfl) (by simp) ?_
              refine AllReadyH.cons (o := { dst := some 32, op := Go.Op.call { callee := Go.Callee.value (Go.Operand.func 32), args := #[Go.Operand.tmp 29, Go.Operand.tmp 31], argTypes := #[34, 43] }, type := 54, pos := "exact.go:2992", after := #[{ on := 1, ground := Go.Ground.data }, { on := 3, ground := Go.Ground.data }, { on := 3, ground := Go.Ground.chain }], guard := none }) rfl (fun K hK => ?k14) AllReadyH.nil
              go_simp
              go_at_call 32
              refine (spec_PostR HQ.out HR.out HC.out _ n _ _ n' _ vabx (Own.rd ta (Own.le ta)) (Own.rd tb (Own.le tb)) (by omega) (by omega) (Own.caps ta) (Own.caps tb)).mono ?_
              rintro e vabxp ⟨Ar, nr, cr, hnr, rfl, r, hb⟩
              have HNR := Lib.hid hnr
              clear hnr
              have hB4 : Below W.heap.size W vabxp := hB3.trans (hb.mono hB3.size)
              have hE4 : Eff 0 0 w4 vabxp := hE3.trans (Eff.of hb)
              have hZ4 : vabx.heap.size ≤ vabxp.heap.size := hb.size
              replace ta := Own.keep ta (Eff.of hb) (.inr (.inr (Nat.le_refl _)))
              replace tb := Own.keep tb (Eff.of hb) (.inr (.inr (Nat.le_refl _)))
              replace bx := bx.eff (Eff.of hb) (.inr (Nat.zero_le _))
              refine hK.out _ _ ?s14 (fun hHeld => ?_)
              case s14 => ((try dsimp only); (go_split_ands; (repeat' apply And.intro) <;> (first | assumption | exact cell_kept hb (by assumption) (by first | omega | (simp; done) | (simp; omega)) | exact set_other (set_other (by assumption) _ (.inl (by first | omega | (simp; omega)))) _ (.inl (by first | omega | (simp; omega))))))
              clear hK K
              try simp only [Act.put, List.setIfInBounds_toArray, List.set_cons_zero, List.set_cons_succ]
              refine wpAnyH_take (i := 5) (oi := { dst := some 27, op := Go.Op.move (Go.Operand.tmp 32), type := 54, pos := "exact.go:2992", after := #[{ on := 4, ground := Go.Ground.data }], guard := none }) (v := ?v15) rfl (by kernel_rfl) (by kernel_rfl) (by kernel_rfl) (fun _ _ _ h => h) (Or.inl ⟨by rfl, ?y15⟩) (by assumption) ?_
              case y15 => (intro w hSw; (try dsimp only at hSw); go_simp; first | done | with_reducible rfl)
              try simp only [Act.put, List.setIfInBounds_toArray, List.set_cons_zero, List.set_cons_succ]
              refine wpAnyH_take (i := 6) (oi := { dst := some 33, op := Go.Op.extract (Go.Operand.tmp 27) 0, type := 34, pos := "exact.go:2992", after := #[{ on := 5, ground := Go.Ground.data }], guard := none }) (v := ?v16) rfl (by kernel_rfl) (by kernel_rfl) (by kernel_rfl) (fun _ _ _ h => h) (Or.inl ⟨by rfl, ?y16⟩) (by assumption) ?_
              case y16 => (intro w hSw; (try dsimp only at hSw); go_simp; first | done | with_reducible rfl)
              try simp only [Act.put, List.setIfInBounds_toArray, List.set_cons_zero, List.set_cons_succ]
              refine wpAnyH_take (i := 7) (oi := { dst := some 34, op := Go.Op.extract (Go.Operand.tmp 27) 1, type := 3, pos := "exact.go:2992", after := #[{ on := 5, ground := Go.Ground.data }, { on := 9, ground := Go.Ground.gcOnly Go.Departure.lateStores }], guard := none }) (v := ?v17) rfl (by kernel_rfl) (by kernel_rfl) (by kernel_rfl) (fun _ _ _ h => h) (Or.inl ⟨by rfl, ?y17⟩) (by assumption) ?_
              case y17 => (intro w hSw; (try dsimp only at hSw); go_simp; first | done | with_reducible rfl)
              try simp only [Act.put, List.setIfInBounds_toArray, List.set_cons_zero, List.set_cons_succ]
              refine wpAnyH_ready (rs := [9]) (by kernel_rfl) (by simp) ?_
              refine AllReadyH.cons (o := { dst := none, op := Go.Op.store 34 (Go.Operand.tmp 6) (Go.Operand.tmp 33), type := 0, pos := "exact.go:2992", after := #[{ on := 8, ground := Go.Ground.data }, { on := 6, ground := Go.Ground.data }, { on := 4, ground := Go.Ground.chain }, { on := 0, ground := Go.Ground.phase }, { on := 1, ground := Go.Ground.phase }, { on := 2, ground := Go.Ground.phase }, { on := 3, ground := Go.Ground.phase }, { on := 4, ground := Go.Ground.phase }, { on := 5, ground := Go.Ground.phase }, { on := 6, ground := Go.Ground.phase }, { on := 7, ground := Go.Ground.textOnly Go.Departure.lateStores }, { on := 8, ground := Go.Ground.phase }], guard := none }) rfl (fun K hK => ?k18) AllReadyH.nil
              obtain ⟨q0, q1, q2, q3⟩ := bx
              go_simp
              refine hK.out _ _ ?s18 (fun hHeld => ?_)
              case s18 => ((try dsimp only); (go_split_ands; (repeat' apply And.intro) <;> (first | assumption | exact cell_kept hb (by assumption) (by first | omega | (simp; done) | (simp; omega)) | exact set_other (set_other (by assumption) _ (.inl (by first | omega | (simp; omega)))) _ (.inl (by first | omega | (simp; omega))))))
              clear hK K
              try simp only [Act.put]
              refine wpAnyH_take (i := 10) (oi := { dst := some 7, op := Go.Op.assign (Go.Operand.tmp 34), type := 3, pos := "exact.go:2992", after := #[{ on := 7, ground := Go.Ground.data }, { on := 9, ground := Go.Ground.chain }, { on := 0, ground := Go.Ground.phase }, { on := 1, ground := Go.Ground.phase }, { on := 2, ground := Go.Ground.phase }, { on := 3, ground := Go.Ground.phase }, { on := 4, ground := Go.Ground.phase }, { on := 5, ground := Go.Ground.phase }, { on := 6, ground := Go.Ground.phase }, { on := 7, ground := Go.Ground.phase }, { on := 8, ground := Go.Ground.phase }, { on := 9, ground := Go.Ground.phase }], guard := none }) (v := ?v19) rfl (by kernel_rfl) (by kernel_rfl) (by kernel_rfl) (fun _ _ _ h => h) (Or.inl ⟨by rfl, ?y19⟩) (by assumption) ?_
              case y19 => (intro w hSw; (try dsimp only at hSw); go_simp; first | done | with_reducible rfl)
              try simp only [Act.put, List.setIfInBounds_toArray, List.set_cons_zero, List.set_cons_succ]
              refine wpAnyH_done (by kernel_rfl) ?_ _
              go_wp2_with fail
              go_meet
              exact ⟨rfl, MidPost.mk r HNR.out (fun k hk => by have := Own.blk r k hk; omega) hE4 (by omega) (by omega) ⟨q0, q1, q2, q3⟩⟩
        case m5 =>
          refine AllReadyH.cons (o := { dst := some 6, op := Go.Op.alloc 34, type := 0, pos := "exact.go:2992", after := #[], guard := none }) rfl (fun K hK => ?k20) AllReadyH.nil
          case k20 =>
            go_simp
            have bx := var4 va (.int .i64 0) (.slice none 0 0) 34 (g := va.heap.size) rfl
            have hb : Below va.heap.size va (va.alloc (.cells #[.int .i64 0, .slice none 0 0] 34)) := (Below.refl _ _).alloc (Nat.le_refl _) _
            have hxs : (va.alloc (.cells #[.int .i64 0, .slice none 0 0] 34)).heap.size = va.heap.size + 1 := (by simp)
            generalize (va.alloc (.cells #[.int .i64 0, .slice none 0 0] 34)) = vax at *
            have hB2 : Below W.heap.size W vax := hB1.trans (hb.mono hB1.size)
            have hE2 : Eff 0 0 w4 vax := hE1.trans (Eff.of hb)
            have hZ2 : va.heap.size ≤ vax.heap.size := hb.size
            replace ta := Own.keep ta (Eff.of hb) (.inr (.inr (Nat.le_refl _)))
            refine hK.out _ _ ?s20 (fun hHeld => ?_)
            case s20 => ((try dsimp only); (go_split_ands; (repeat' apply And.intro) <;> (first | assumption | exact cell_kept hb (by assumption) (by first | omega | (simp; done) | (simp; omega)) | exact set_other (set_other (by assumption) _ (.inl (by first | omega | (simp; omega)))) _ (.inl (by first | omega | (simp; omega))))))
            clear hK K
            try simp only [Act.put, List.setIfInBounds_toArray, List.set_cons_zero, List.set_cons_succ]
            refine wpAnyH_ready (rs := [3]) (by kernel_rfl) (by simp) ?_
            refine AllReadyH.cons (o := { dst := some 31, op := Go.Op.call { callee := Go.Callee.value (Go.Operand.func 24), args := #[Go.Operand.tmp 30], argTypes := #[39] }, type := 43, pos := "exact.go:2992", after := #[{ on := 2, ground := Go.Ground.data }, { on := 1, ground := Go.Ground.chain }], guard := none }) rfl (fun K hK => ?k21) AllReadyH.nil
            go_simp
            go_at_call 24
            refine (toPosting_any p A' n' c' ps vax ((Rd.keep hr' (fun p hp => (hB2.cell hp).trans (b4.cell hp).symm)).more hB2.size) (by omega)).mono ?_
            rintro e vaxb ⟨Atb, ctb, rfl, tb, hb⟩
            have hB3 : Below W.heap.size W vaxb := hB2.trans (hb.mono hB2.size)
            have hE3 : Eff 0 0 w4 vaxb := hE2.trans (Eff.of hb)
            have hZ3 : vax.heap.size ≤ vaxb.heap.size := hb.size
            replace ta := Own.keep ta (Eff.of hb) (.inr (.inr (Nat.le_refl _)))
            replace bx := bx.eff (Eff.of hb) (.inr (Nat.zero_le _))
            refine hK.out _ _ ?s21 (fun hHeld => ?_)
            case s21 => ((try dsimp only); (go_split_ands; (repeat' apply And.intro) <;> (first | assumption | exact cell_kept hb (by assumption) (by first | omega | (simp; done) | (simp; omega)) | exact set_other (set_other (by assumption) _ (.inl (by first | omega | (simp; omega)))) _ (.inl (by first | omega | (simp; omega))))))
            clear hK K
            try simp only [Act.put, List.setIfInBounds_toArray, List.set_cons_zero, List.set_cons_succ]
            refine wpAnyH_ready (rs := [4]) (by kernel_rfl) (by simp) ?_
            refine AllReadyH.cons (o := { dst := some 32, op := Go.Op.call { callee := Go.Callee.value (Go.Operand.func 32), args := #[Go.Operand.tmp 29, Go.Operand.tmp 31], argTypes := #[34, 43] }, type := 54, pos := "exact.go:2992", after := #[{ on := 1, ground := Go.Ground.data }, { on := 3, ground := Go.Ground.data }, { on := 3, ground := Go.Ground.chain }], guard := none }) rfl (fun K hK => ?k22) AllReadyH.nil
            go_simp
            go_at_call 32
            refine (spec_PostR HQ.out HR.out HC.out _ n _ _ n' _ vaxb (Own.rd ta (Own.le ta)) (Own.rd tb (Own.le tb)) (by omega) (by omega) (Own.caps ta) (Own.caps tb)).mono ?_
            rintro e vaxbp ⟨Ar, nr, cr, hnr, rfl, r, hb⟩
            have HNR := Lib.hid hnr
            clear hnr
            have hB4 : Below W.heap.size W vaxbp := hB3.trans (hb.mono hB3.size)
            have hE4 : Eff 0 0 w4 vaxbp := hE3.trans (Eff.of hb)
            have hZ4 : vaxb.heap.size ≤ vaxbp.heap.size := hb.size
            replace ta := Own.keep ta (Eff.of hb) (.inr (.inr (Nat.le_refl _)))
            replace bx := bx.eff (Eff.of hb) (.inr (Nat.zero_le _))
            replace tb := Own.keep tb (Eff.of hb) (.inr (.inr (Nat.le_refl _)))
            refine hK.out _ _ ?s22 (fun hHeld => ?_)
            case s22 => ((try dsimp only); (go_split_ands; (repeat' apply And.intro) <;> (first | assumption | exact cell_kept hb (by assumption) (by first | omega | (simp; done) | (simp; omega)) | exact set_other (set_other (by assumption) _ (.inl (by first | omega | (simp; omega)))) _ (.inl (by first | omega | (simp; omega))))))
            clear hK K
            try simp only [Act.put, List.setIfInBounds_toArray, List.set_cons_zero, List.set_cons_succ]
            refine wpAnyH_take (i := 5) (oi := { dst := some 27, op := Go.Op.move (Go.Operand.tmp 32), type := 54, pos := "exact.go:2992", after := #[{ on := 4, ground := Go.Ground.data }], guard := none }) (v := ?v23) rfl (by kernel_rfl) (by kernel_rfl) (by kernel_rfl) (fun _ _ _ h => h) (Or.inl ⟨by rfl, ?y23⟩) (by assumption) ?_
            case y23 => (intro w hSw; (try dsimp only at hSw); go_simp; first | done | with_reducible rfl)
            try simp only [Act.put, List.setIfInBounds_toArray, List.set_cons_zero, List.set_cons_succ]
            refine wpAnyH_take (i := 6) (oi := { dst := some 33, op := Go.Op.extract (Go.Operand.tmp 27) 0, type := 34, pos := "exact.go:2992", after := #[{ on := 5, ground := Go.Ground.data }], guard := none }) (v := ?v24) rfl (by kernel_rfl) (by kernel_rfl) (by kernel_rfl) (fun _ _ _ h => h) (Or.inl ⟨by rfl, ?y24⟩) (by assumption) ?_
            case y24 => (intro w hSw; (try dsimp only at hSw); go_simp; first | done | with_reducible rfl)
            try simp only [Act.put, List.setIfInBounds_toArray, List.set_cons_zero, List.set_cons_succ]
            refine wpAnyH_take (i := 7) (oi := { dst := some 34, op := Go.Op.extract (Go.Operand.tmp 27) 1, type := 3, pos := "exact.go:2992", after := #[{ on := 5, ground := Go.Ground.data }, { on := 9, ground := Go.Ground.gcOnly Go.Departure.lateStores }], guard := none }) (v := ?v25) rfl (by kernel_rfl) (by kernel_rfl) (by kernel_rfl) (fun _ _ _ h => h) (Or.inl ⟨by rfl, ?y25⟩) (by assumption) ?_
            case y25 => (intro w hSw; (try dsimp only at hSw); go_simp; first | done | with_reducible rfl)
            try simp only [Act.put, List.setIfInBounds_toArray, List.set_cons_zero, List.set_cons_succ]
            refine wpAnyH_ready (rs := [9]) (by kernel_rfl) (by simp) ?_
            refine AllReadyH.cons (o := { dst := none, op := Go.Op.store 34 (Go.Operand.tmp 6) (Go.Operand.tmp 33), type := 0, pos := "exact.go:2992", after := #[{ on := 8, ground := Go.Ground.data }, { on := 6, ground := Go.Ground.data }, { on := 4, ground := Go.Ground.chain }, { on := 0, ground := Go.Ground.phase }, { on := 1, ground := Go.Ground.phase }, { on := 2, ground := Go.Ground.phase }, { on := 3, ground := Go.Ground.phase }, { on := 4, ground := Go.Ground.phase }, { on := 5, ground := Go.Ground.phase }, { on := 6, ground := Go.Ground.phase }, { on := 7, ground := Go.Ground.textOnly Go.Departure.lateStores }, { on := 8, ground := Go.Ground.phase }], guard := none }) rfl (fun K hK => ?k26) AllReadyH.nil
            obtain ⟨q0, q1, q2, q3⟩ := bx
            go_simp
            refine hK.out _ _ ?s26 (fun hHeld => ?_)
            case s26 => ((try dsimp only); (go_split_ands; (repeat' apply And.intro) <;> (first | assumption | exact cell_kept hb (by assumption) (by first | omega | (simp; done) | (simp; omega)) | exact set_other (set_other (by assumption) _ (.inl (by first | omega | (simp; omega)))) _ (.inl (by first | omega | (simp; omega))))))
            clear hK K
            try simp only [Act.put]
            refine wpAnyH_take (i := 10) (oi := { dst := some 7, op := Go.Op.assign (Go.Operand.tmp 34), type := 3, pos := "exact.go:2992", after := #[{ on := 7, ground := Go.Ground.data }, { on := 9, ground := Go.Ground.chain }, { on := 0, ground := Go.Ground.phase }, { on := 1, ground := Go.Ground.phase }, { on := 2, ground := Go.Ground.phase }, { on := 3, ground := Go.Ground.phase }, { on := 4, ground := Go.Ground.phase }, { on := 5, ground := Go.Ground.phase }, { on := 6, ground := Go.Ground.phase }, { on := 7, ground := Go.Ground.phase }, { on := 8, ground := Go.Ground.phase }, { on := 9, ground := Go.Ground.phase }], guard := none }) (v := ?v27) rfl (by kernel_rfl) (by kernel_rfl) (by kernel_rfl) (fun _ _ _ h => h) (Or.inl ⟨by rfl, ?y27⟩) (by assumption) ?_
            case y27 => (intro w hSw; (try dsimp only at hSw); go_simp; first | done | with_reducible rfl)
            try simp only [Act.put, List.setIfInBounds_toArray, List.set_cons_zero, List.set_cons_succ]
            refine wpAnyH_done (by kernel_rfl) ?_ _
            go_wp2_with fail
            go_meet
            exact ⟨rfl, MidPost.mk r HNR.out (fun k hk => by have := Own.blk r k hk; omega) hE4 (by omega) (by omega) ⟨q0, q1, q2, q3⟩⟩
      case m4 =>
        refine AllReadyH.cons (o := { dst := some 6, op := Go.Op.alloc 34, type := 0, pos := "exact.go:2992", after := #[], guard := none }) rfl (fun K hK => ?k28) AllReadyH.nil
        case k28 =>
          go_simp
          have bx := var4 v0 (.int .i64 0) (.slice none 0 0) 34 (g := v0.heap.size) rfl
          have hb : Below v0.heap.size v0 (v0.alloc (.cells #[.int .i64 0, .slice none 0 0] 34)) := (Below.refl _ _).alloc (Nat.le_refl _) _
          have hxs : (v0.alloc (.cells #[.int .i64 0, .slice none 0 0] 34)).heap.size = v0.heap.size + 1 := (by simp)
          generalize (v0.alloc (.cells #[.int .i64 0, .slice none 0 0] 34)) = vx at *
          have hB1 : Below W.heap.size W vx := hB0.trans (hb.mono hB0.size)
          have hE1 : Eff 0 0 w4 vx := hE0.trans (Eff.of hb)
          have hZ1 : v0.heap.size ≤ vx.heap.size := hb.size
          refine hK.out _ _ ?s28 (fun hHeld => ?_)
          case s28 => ((try dsimp only); (go_split_ands; (repeat' apply And.intro) <;> (first | assumption | exact cell_kept hb (by assumption) (by first | omega | (simp; done) | (simp; omega)) | exact set_other (set_other (by assumption) _ (.inl (by first | omega | (simp; omega)))) _ (.inl (by first | omega | (simp; omega))))))
          clear hK K
          try simp only [Act.put, List.setIfInBounds_toArray, List.set_cons_zero, List.set_cons_succ]
          refine wpAnyH_ready (rs := [1]) (by kernel_rfl) (by simp) ?_
          refine AllReadyH.cons (o := { dst := some 29, op := Go.Op.call { callee := Go.Callee.value (Go.Operand.func 19), args := #[Go.Operand.tmp 28], argTypes := #[30] }, type := 34, pos := "exact.go:2992", after := #[{ on := 0, ground := Go.Ground.data }], guard := none }) rfl (fun K hK => ?k29) AllReadyH.nil
          go_simp
          go_at_call 19
          refine (toLedger_any q A n c ls vx ((Rd.keep hr (fun p hp => (hB1.cell hp).trans (b4.cell hp).symm)).more hB1.size) (by omega)).mono ?_
          rintro e vxa ⟨Ata, cta, rfl, ta, hb⟩
          have hB2 : Below W.heap.size W vxa := hB1.trans (hb.mono hB1.size)
          have hE2 : Eff 0 0 w4 vxa := hE1.trans (Eff.of hb)
          have hZ2 : vx.heap.size ≤ vxa.heap.size := hb.size
          replace bx := bx.eff (Eff.of hb) (.inr (Nat.zero_le _))
          refine hK.out _ _ ?s29 (fun hHeld => ?_)
          case s29 => ((try dsimp only); (go_split_ands; (repeat' apply And.intro) <;> (first | assumption | exact cell_kept hb (by assumption) (by first | omega | (simp; done) | (simp; omega)) | exact set_other (set_other (by assumption) _ (.inl (by first | omega | (simp; omega)))) _ (.inl (by first | omega | (simp; omega))))))
          clear hK K
          try simp only [Act.put, List.setIfInBounds_toArray, List.set_cons_zero, List.set_cons_succ]
          refine wpAnyH_ready (rs := [3]) (by kernel_rfl) (by simp) ?_
          refine AllReadyH.cons (o := { dst := some 31, op := Go.Op.call { callee := Go.Callee.value (Go.Operand.func 24), args := #[Go.Operand.tmp 30], argTypes := #[39] }, type := 43, pos := "exact.go:2992", after := #[{ on := 2, ground := Go.Ground.data }, { on := 1, ground := Go.Ground.chain }], guard := none }) rfl (fun K hK => ?k30) AllReadyH.nil
          go_simp
          go_at_call 24
          refine (toPosting_any p A' n' c' ps vxa ((Rd.keep hr' (fun p hp => (hB2.cell hp).trans (b4.cell hp).symm)).more hB2.size) (by omega)).mono ?_
          rintro e vxab ⟨Atb, ctb, rfl, tb, hb⟩
          have hB3 : Below W.heap.size W vxab := hB2.trans (hb.mono hB2.size)
          have hE3 : Eff 0 0 w4 vxab := hE2.trans (Eff.of hb)
          have hZ3 : vxa.heap.size ≤ vxab.heap.size := hb.size
          replace bx := bx.eff (Eff.of hb) (.inr (Nat.zero_le _))
          replace ta := Own.keep ta (Eff.of hb) (.inr (.inr (Nat.le_refl _)))
          refine hK.out _ _ ?s30 (fun hHeld => ?_)
          case s30 => ((try dsimp only); (go_split_ands; (repeat' apply And.intro) <;> (first | assumption | exact cell_kept hb (by assumption) (by first | omega | (simp; done) | (simp; omega)) | exact set_other (set_other (by assumption) _ (.inl (by first | omega | (simp; omega)))) _ (.inl (by first | omega | (simp; omega))))))
          clear hK K
          try simp only [Act.put, List.setIfInBounds_toArray, List.set_cons_zero, List.set_cons_succ]
          refine wpAnyH_ready (rs := [4]) (by kernel_rfl) (by simp) ?_
          refine AllReadyH.cons (o := { dst := some 32, op := Go.Op.call { callee := Go.Callee.value (Go.Operand.func 32), args := #[Go.Operand.tmp 29, Go.Operand.tmp 31], argTypes := #[34, 43] }, type := 54, pos := "exact.go:2992", after := #[{ on := 1, ground := Go.Ground.data }, { on := 3, ground := Go.Ground.data }, { on := 3, ground := Go.Ground.chain }], guard := none }) rfl (fun K hK => ?k31) AllReadyH.nil
          go_simp
          go_at_call 32
          refine (spec_PostR HQ.out HR.out HC.out _ n _ _ n' _ vxab (Own.rd ta (Own.le ta)) (Own.rd tb (Own.le tb)) (by omega) (by omega) (Own.caps ta) (Own.caps tb)).mono ?_
          rintro e vxabp ⟨Ar, nr, cr, hnr, rfl, r, hb⟩
          have HNR := Lib.hid hnr
          clear hnr
          have hB4 : Below W.heap.size W vxabp := hB3.trans (hb.mono hB3.size)
          have hE4 : Eff 0 0 w4 vxabp := hE3.trans (Eff.of hb)
          have hZ4 : vxab.heap.size ≤ vxabp.heap.size := hb.size
          replace bx := bx.eff (Eff.of hb) (.inr (Nat.zero_le _))
          replace ta := Own.keep ta (Eff.of hb) (.inr (.inr (Nat.le_refl _)))
          replace tb := Own.keep tb (Eff.of hb) (.inr (.inr (Nat.le_refl _)))
          refine hK.out _ _ ?s31 (fun hHeld => ?_)
          case s31 => ((try dsimp only); (go_split_ands; (repeat' apply And.intro) <;> (first | assumption | exact cell_kept hb (by assumption) (by first | omega | (simp; done) | (simp; omega)) | exact set_other (set_other (by assumption) _ (.inl (by first | omega | (simp; omega)))) _ (.inl (by first | omega | (simp; omega))))))
          clear hK K
          try simp only [Act.put, List.setIfInBounds_toArray, List.set_cons_zero, List.set_cons_succ]
          refine wpAnyH_take (i := 5) (oi := { dst := some 27, op := Go.Op.move (Go.Operand.tmp 32), type := 54, pos := "exact.go:2992", after := #[{ on := 4, ground := Go.Ground.data }], guard := none }) (v := ?v32) rfl (by kernel_rfl) (by kernel_rfl) (by kernel_rfl) (fun _ _ _ h => h) (Or.inl ⟨by rfl, ?y32⟩) (by assumption) ?_
          case y32 => (intro w hSw; (try dsimp only at hSw); go_simp; first | done | with_reducible rfl)
          try simp only [Act.put, List.setIfInBounds_toArray, List.set_cons_zero, List.set_cons_succ]
          refine wpAnyH_take (i := 6) (oi := { dst := some 33, op := Go.Op.extract (Go.Operand.tmp 27) 0, type := 34, pos := "exact.go:2992", after := #[{ on := 5, ground := Go.Ground.data }], guard := none }) (v := ?v33) rfl (by kernel_rfl) (by kernel_rfl) (by kernel_rfl) (fun _ _ _ h => h) (Or.inl ⟨by rfl, ?y33⟩) (by assumption) ?_
          case y33 => (intro w hSw; (try dsimp only at hSw); go_simp; first | done | with_reducible rfl)
          try simp only [Act.put, List.setIfInBounds_toArray, List.set_cons_zero, List.set_cons_succ]
          refine wpAnyH_take (i := 7) (oi := { dst := some 34, op := Go.Op.extract (Go.Operand.tmp 27) 1, type := 3, pos := "exact.go:2992", after := #[{ on := 5, ground := Go.Ground.data }, { on := 9, ground := Go.Ground.gcOnly Go.Departure.lateStores }], guard := none }) (v := ?v34) rfl (by kernel_rfl) (by kernel_rfl) (by kernel_rfl) (fun _ _ _ h => h) (Or.inl ⟨by rfl, ?y34⟩) (by assumption) ?_
          case y34 => (intro w hSw; (try dsimp only at hSw); go_simp; first | done | with_reducible rfl)
          try simp only [Act.put, List.setIfInBounds_toArray, List.set_cons_zero, List.set_cons_succ]
          refine wpAnyH_ready (rs := [9]) (by kernel_rfl) (by simp) ?_
          refine AllReadyH.cons (o := { dst := none, op := Go.Op.store 34 (Go.Operand.tmp 6) (Go.Operand.tmp 33), type := 0, pos := "exact.go:2992", after := #[{ on := 8, ground := Go.Ground.data }, { on := 6, ground := Go.Ground.data }, { on := 4, ground := Go.Ground.chain }, { on := 0, ground := Go.Ground.phase }, { on := 1, ground := Go.Ground.phase }, { on := 2, ground := Go.Ground.phase }, { on := 3, ground := Go.Ground.phase }, { on := 4, ground := Go.Ground.phase }, { on := 5, ground := Go.Ground.phase }, { on := 6, ground := Go.Ground.phase }, { on := 7, ground := Go.Ground.textOnly Go.Departure.lateStores }, { on := 8, ground := Go.Ground.phase }], guard := none }) rfl (fun K hK => ?k35) AllReadyH.nil
          obtain ⟨q0, q1, q2, q3⟩ := bx
          go_simp
          refine hK.out _ _ ?s35 (fun hHeld => ?_)
          case s35 => ((try dsimp only); (go_split_ands; (repeat' apply And.intro) <;> (first | assumption | exact cell_kept hb (by assumption) (by first | omega | (simp; done) | (simp; omega)) | exact set_other (set_other (by assumption) _ (.inl (by first | omega | (simp; omega)))) _ (.inl (by first | omega | (simp; omega))))))
          clear hK K
          try simp only [Act.put]
          refine wpAnyH_take (i := 10) (oi := { dst := some 7, op := Go.Op.assign (Go.Operand.tmp 34), type := 3, pos := "exact.go:2992", after := #[{ on := 7, ground := Go.Ground.data }, { on := 9, ground := Go.Ground.chain }, { on := 0, ground := Go.Ground.phase }, { on := 1, ground := Go.Ground.phase }, { on := 2, ground := Go.Ground.phase }, { on := 3, ground := Go.Ground.phase }, { on := 4, ground := Go.Ground.phase }, { on := 5, ground := Go.Ground.phase }, { on := 6, ground := Go.Ground.phase }, { on := 7, ground := Go.Ground.phase }, { on := 8, ground := Go.Ground.phase }, { on := 9, ground := Go.Ground.phase }], guard := none }) (v := ?v36) rfl (by kernel_rfl) (by kernel_rfl) (by kernel_rfl) (fun _ _ _ h => h) (Or.inl ⟨by rfl, ?y36⟩) (by assumption) ?_
          case y36 => (intro w hSw; (try dsimp only at hSw); go_simp; first | done | with_reducible rfl)
          try simp only [Act.put, List.setIfInBounds_toArray, List.set_cons_zero, List.set_cons_succ]
          refine wpAnyH_done (by kernel_rfl) ?_ _
          go_wp2_with fail
          go_meet
          exact ⟨rfl, MidPost.mk r HNR.out (fun k hk => by have := Own.blk r k hk; omega) hE4 (by omega) (by omega) ⟨q0, q1, q2, q3⟩⟩
    case rest =>
      obtain ⟨rfl, gw0, AW0, nW0, cW0, loW0, hiW0, rfl, hnW0, hg1w0, hgxw0, hnew0, hloW0, hQw0, W0, hEw0⟩ := hcut
      rw [HN.out] at hnW0
      obtain rfl : N = nW0 := hnW0.symm
      clear hnW0
      obtain ⟨wm, rfl⟩ : ∃ x : World, x = wc := ⟨wc, rfl⟩
      have he5 : Eff 0 0 w4 wm := hEw0
      have hz5 : w4.heap.size ≤ wm.heap.size := he5.size
      have b5 : Below W.heap.size W wm := b4.trans (he5.below b4.size (by omega))
      replace hr := (hr.below (he5.below (B := W.heap.size) (by omega) (by omega)) (Nat.le_refl _))
      replace hr' := (hr'.below (he5.below (B := W.heap.size) (by omega) (by omega)) (Nat.le_refl _))
      replace aL_0 := he5.cell aL_0 (by simp only; omega)
      replace aL_1 := he5.cell aL_1 (by simp only; omega)
      replace aP_0 := he5.cell aP_0 (by simp only; omega)
      replace aP_1 := he5.cell aP_1 (by simp only; omega)
      replace aL_l := Nat.lt_of_lt_of_le aL_l hz5
      replace aP_l := Nat.lt_of_lt_of_le aP_l hz5
      have hleW0 := Own.le W0
      obtain ⟨w0_0, w0_1, -, -⟩ := hQw0
      have w0_l : gw0 < wm.heap.size := hgxw0
      clear hEw0
      go_wp2_with fail
      refine (toLedger_any q A n c ls wm (hr.more (by omega)) (by omega)).mono ?_
      rintro e w6 ⟨At1, ct1, rfl, t1, hb⟩
      have he6 : Eff 0 0 wm w6 := Eff.of hb
      have hz6 : wm.heap.size ≤ w6.heap.size := he6.size
      have b6 : Below W.heap.size W w6 := b5.trans (he6.below b5.size (by omega))
      replace hr := (hr.below (he6.below (B := W.heap.size) (by omega) (by omega)) (Nat.le_refl _))
      replace hr' := (hr'.below (he6.below (B := W.heap.size) (by omega) (by omega)) (Nat.le_refl _))
      replace W0 := Own.keep W0 he6 (by omega)
      replace aL_0 := he6.cell aL_0 (by simp only; omega)
      replace aL_1 := he6.cell aL_1 (by simp only; omega)
      replace aP_0 := he6.cell aP_0 (by simp only; omega)
      replace aP_1 := he6.cell aP_1 (by simp only; omega)
      replace w0_0 := he6.cell w0_0 (by simp only; omega)
      replace w0_1 := he6.cell w0_1 (by simp only; omega)
      replace aL_l := Nat.lt_of_lt_of_le aL_l hz6
      replace aP_l := Nat.lt_of_lt_of_le aP_l hz6
      replace w0_l := Nat.lt_of_lt_of_le w0_l hz6
      clear hb
      go_wp2_with fail
      have he7 : Eff 0 0 w6 (w6.alloc (.cells #[.int .i64 q, .slice At1 n ct1] 34)) := Eff.alloc _ _
      have hs7 : (w6.alloc (.cells #[.int .i64 q, .slice At1 n ct1] 34)).heap.size = w6.heap.size + 1 := (by simp)
      have x0_0 : (w6.alloc (.cells #[.int .i64 q, .slice At1 n ct1] 34)).cell? ⟨w6.heap.size, 0, none⟩ = some (.int .i64 q) := var_cell _ _ _ _ _ rfl
      have x0_1 : (w6.alloc (.cells #[.int .i64 q, .slice At1 n ct1] 34)).cell? ⟨w6.heap.size, 1, none⟩ = some (.slice At1 n ct1) := var_cell _ _ _ _ _ rfl
      generalize (w6.alloc (.cells #[.int .i64 q, .slice At1 n ct1] 34)) = w7 at *
      have hz7 : w6.heap.size ≤ w7.heap.size := he7.size
      have b7 : Below W.heap.size W w7 := b6.trans (he7.below b6.size (by omega))
      replace hr := (hr.below (he7.below (B := W.heap.size) (by omega) (by omega)) (Nat.le_refl _))
      replace hr' := (hr'.below (he7.below (B := W.heap.size) (by omega) (by omega)) (Nat.le_refl _))
      replace W0 := Own.keep W0 he7 (by omega)
      replace t1 := Own.keep t1 he7 (by omega)
      replace aL_0 := he7.cell aL_0 (by simp only; omega)
      replace aL_1 := he7.cell aL_1 (by simp only; omega)
      replace aP_0 := he7.cell aP_0 (by simp only; omega)
      replace aP_1 := he7.cell aP_1 (by simp only; omega)
      replace w0_0 := he7.cell w0_0 (by simp only; omega)
      replace w0_1 := he7.cell w0_1 (by simp only; omega)
      replace aL_l := Nat.lt_of_lt_of_le aL_l hz7
      replace aP_l := Nat.lt_of_lt_of_le aP_l hz7
      replace w0_l := Nat.lt_of_lt_of_le w0_l hz7
      have x0_l : w6.heap.size < w7.heap.size := (by omega)
      refine (toPosting_any p A' n' c' ps w7 (hr'.more (by omega)) (by omega)).mono ?_
      rintro e w8 ⟨At2, ct2, rfl, t2, hb⟩
      have he8 : Eff 0 0 w7 w8 := Eff.of hb
      have hz8 : w7.heap.size ≤ w8.heap.size := he8.size
      have b8 : Below W.heap.size W w8 := b7.trans (he8.below b7.size (by omega))
      replace hr := (hr.below (he8.below (B := W.heap.size) (by omega) (by omega)) (Nat.le_refl _))
      replace hr' := (hr'.below (he8.below (B := W.heap.size) (by omega) (by omega)) (Nat.le_refl _))
      replace W0 := Own.keep W0 he8 (by omega)
      replace t1 := Own.keep t1 he8 (by omega)
      replace aL_0 := he8.cell aL_0 (by simp only; omega)
      replace aL_1 := he8.cell aL_1 (by simp only; omega)
      replace aP_0 := he8.cell aP_0 (by simp only; omega)
      replace aP_1 := he8.cell aP_1 (by simp only; omega)
      replace w0_0 := he8.cell w0_0 (by simp only; omega)
      replace w0_1 := he8.cell w0_1 (by simp only; omega)
      replace x0_0 := he8.cell x0_0 (by simp only; omega)
      replace x0_1 := he8.cell x0_1 (by simp only; omega)
      replace aL_l := Nat.lt_of_lt_of_le aL_l hz8
      replace aP_l := Nat.lt_of_lt_of_le aP_l hz8
      replace w0_l := Nat.lt_of_lt_of_le w0_l hz8
      replace x0_l := Nat.lt_of_lt_of_le x0_l hz8
      clear hb
      go_wp2_with fail
      have he9 : Eff 0 0 w8 (w8.alloc (.cells #[.int .i64 p, .slice At2 n' ct2] 43)) := Eff.alloc _ _
      have hs9 : (w8.alloc (.cells #[.int .i64 p, .slice At2 n' ct2] 43)).heap.size = w8.heap.size + 1 := (by simp)
      have x1_0 : (w8.alloc (.cells #[.int .i64 p, .slice At2 n' ct2] 43)).cell? ⟨w8.heap.size, 0, none⟩ = some (.int .i64 p) := var_cell _ _ _ _ _ rfl
      have x1_1 : (w8.alloc (.cells #[.int .i64 p, .slice At2 n' ct2] 43)).cell? ⟨w8.heap.size, 1, none⟩ = some (.slice At2 n' ct2) := var_cell _ _ _ _ _ rfl
      generalize (w8.alloc (.cells #[.int .i64 p, .slice At2 n' ct2] 43)) = w9 at *
      have hz9 : w8.heap.size ≤ w9.heap.size := he9.size
      have b9 : Below W.heap.size W w9 := b8.trans (he9.below b8.size (by omega))
      replace hr := (hr.below (he9.below (B := W.heap.size) (by omega) (by omega)) (Nat.le_refl _))
      replace hr' := (hr'.below (he9.below (B := W.heap.size) (by omega) (by omega)) (Nat.le_refl _))
      replace W0 := Own.keep W0 he9 (by omega)
      replace t1 := Own.keep t1 he9 (by omega)
      replace t2 := Own.keep t2 he9 (by omega)
      replace aL_0 := he9.cell aL_0 (by simp only; omega)
      replace aL_1 := he9.cell aL_1 (by simp only; omega)
      replace aP_0 := he9.cell aP_0 (by simp only; omega)
      replace aP_1 := he9.cell aP_1 (by simp only; omega)
      replace w0_0 := he9.cell w0_0 (by simp only; omega)
      replace w0_1 := he9.cell w0_1 (by simp only; omega)
      replace x0_0 := he9.cell x0_0 (by simp only; omega)
      replace x0_1 := he9.cell x0_1 (by simp only; omega)
      replace aL_l := Nat.lt_of_lt_of_le aL_l hz9
      replace aP_l := Nat.lt_of_lt_of_le aP_l hz9
      replace w0_l := Nat.lt_of_lt_of_le w0_l hz9
      replace x0_l := Nat.lt_of_lt_of_le x0_l hz9
      have x1_l : w8.heap.size < w9.heap.size := (by omega)
      refine (impl_PostR HQ.out HR.out HC.out _ n _ _ n' _ w9 (Own.rd t1 (Own.le t1)) (Own.rd t2 (Own.le t2)) (by omega) (by omega) (Own.caps t1) (Own.caps t2)).mono ?_
      rintro e w10 hpost
      obtain ⟨Ar, nr, cr, hnr, rfl, r, hb⟩ := hpost
      rw [HN.out] at hnr
      obtain rfl : N = nr := hnr.symm
      clear hnr
      have he10 : Eff 0 0 w9 w10 := Eff.of hb
      have hz10 : w9.heap.size ≤ w10.heap.size := he10.size
      have b10 : Below W.heap.size W w10 := b9.trans (he10.below b9.size (by omega))
      replace hr := (hr.below (he10.below (B := W.heap.size) (by omega) (by omega)) (Nat.le_refl _))
      replace hr' := (hr'.below (he10.below (B := W.heap.size) (by omega) (by omega)) (Nat.le_refl _))
      replace W0 := Own.keep W0 he10 (by omega)
      replace t1 := Own.keep t1 he10 (by omega)
      replace t2 := Own.keep t2 he10 (by omega)
      replace aL_0 := he10.cell aL_0 (by simp only; omega)
      replace aL_1 := he10.cell aL_1 (by simp only; omega)
      replace aP_0 := he10.cell aP_0 (by simp only; omega)
      replace aP_1 := he10.cell aP_1 (by simp only; omega)
      replace w0_0 := he10.cell w0_0 (by simp only; omega)
      replace w0_1 := he10.cell w0_1 (by simp only; omega)
      replace x0_0 := he10.cell x0_0 (by simp only; omega)
      replace x0_1 := he10.cell x0_1 (by simp only; omega)
      replace x1_0 := he10.cell x1_0 (by simp only; omega)
      replace x1_1 := he10.cell x1_1 (by simp only; omega)
      replace aL_l := Nat.lt_of_lt_of_le aL_l hz10
      replace aP_l := Nat.lt_of_lt_of_le aP_l hz10
      replace w0_l := Nat.lt_of_lt_of_le w0_l hz10
      replace x0_l := Nat.lt_of_lt_of_le x0_l hz10
      replace x1_l := Nat.lt_of_lt_of_le x1_l hz10
      clear hb
      go_wp2_with fail
      have he11 : Eff 0 0 w10 (w10.alloc (.cells #[.int .i64 Q, .slice Ar N cr] 34)) := Eff.alloc _ _
      have hs11 : (w10.alloc (.cells #[.int .i64 Q, .slice Ar N cr] 34)).heap.size = w10.heap.size + 1 := (by simp)
      have g0_0 : (w10.alloc (.cells #[.int .i64 Q, .slice Ar N cr] 34)).cell? ⟨w10.heap.size, 0, none⟩ = some (.int .i64 Q) := var_cell _ _ _ _ _ rfl
      have g0_1 : (w10.alloc (.cells #[.int .i64 Q, .slice Ar N cr] 34)).cell? ⟨w10.heap.size, 1, none⟩ = some (.slice Ar N cr) := var_cell _ _ _ _ _ rfl
      generalize (w10.alloc (.cells #[.int .i64 Q, .slice Ar N cr] 34)) = w11 at *
      have hz11 : w10.heap.size ≤ w11.heap.size := he11.size
      have b11 : Below W.heap.size W w11 := b10.trans (he11.below b10.size (by omega))
      replace hr := (hr.below (he11.below (B := W.heap.size) (by omega) (by omega)) (Nat.le_refl _))
      replace hr' := (hr'.below (he11.below (B := W.heap.size) (by omega) (by omega)) (Nat.le_refl _))
      replace W0 := Own.keep W0 he11 (by omega)
      replace t1 := Own.keep t1 he11 (by omega)
      replace t2 := Own.keep t2 he11 (by omega)
      replace r := Own.keep r he11 (by omega)
      replace aL_0 := he11.cell aL_0 (by simp only; omega)
      replace aL_1 := he11.cell aL_1 (by simp only; omega)
      replace aP_0 := he11.cell aP_0 (by simp only; omega)
      replace aP_1 := he11.cell aP_1 (by simp only; omega)
      replace w0_0 := he11.cell w0_0 (by simp only; omega)
      replace w0_1 := he11.cell w0_1 (by simp only; omega)
      replace x0_0 := he11.cell x0_0 (by simp only; omega)
      replace x0_1 := he11.cell x0_1 (by simp only; omega)
      replace x1_0 := he11.cell x1_0 (by simp only; omega)
      replace x1_1 := he11.cell x1_1 (by simp only; omega)
      replace aL_l := Nat.lt_of_lt_of_le aL_l hz11
      replace aP_l := Nat.lt_of_lt_of_le aP_l hz11
      replace w0_l := Nat.lt_of_lt_of_le w0_l hz11
      replace x0_l := Nat.lt_of_lt_of_le x0_l hz11
      replace x1_l := Nat.lt_of_lt_of_le x1_l hz11
      have g0_l : w10.heap.size < w11.heap.size := (by omega)
      have hlr := Own.le r
      refine (eqLedger_same Q _ N _ _ N _ R w11 (Own.rd r (by omega)) (Own.rd W0 (by omega)) (by omega)).mono ?_
      rintro e w12 ⟨rfl, hb⟩
      have he12 : Eff 0 0 w11 w12 := Eff.of hb
      have hz12 : w11.heap.size ≤ w12.heap.size := he12.size
      have b12 : Below W.heap.size W w12 := b11.trans (he12.below b11.size (by omega))
      replace hr := (hr.below (he12.below (B := W.heap.size) (by omega) (by omega)) (Nat.le_refl _))
      replace hr' := (hr'.below (he12.below (B := W.heap.size) (by omega) (by omega)) (Nat.le_refl _))
      replace W0 := Own.keep W0 he12 (by omega)
      replace t1 := Own.keep t1 he12 (by omega)
      replace t2 := Own.keep t2 he12 (by omega)
      replace r := Own.keep r he12 (by omega)
      replace aL_0 := he12.cell aL_0 (by simp only; omega)
      replace aL_1 := he12.cell aL_1 (by simp only; omega)
      replace aP_0 := he12.cell aP_0 (by simp only; omega)
      replace aP_1 := he12.cell aP_1 (by simp only; omega)
      replace w0_0 := he12.cell w0_0 (by simp only; omega)
      replace w0_1 := he12.cell w0_1 (by simp only; omega)
      replace x0_0 := he12.cell x0_0 (by simp only; omega)
      replace x0_1 := he12.cell x0_1 (by simp only; omega)
      replace x1_0 := he12.cell x1_0 (by simp only; omega)
      replace x1_1 := he12.cell x1_1 (by simp only; omega)
      replace g0_0 := he12.cell g0_0 (by simp only; omega)
      replace g0_1 := he12.cell g0_1 (by simp only; omega)
      replace aL_l := Nat.lt_of_lt_of_le aL_l hz12
      replace aP_l := Nat.lt_of_lt_of_le aP_l hz12
      replace w0_l := Nat.lt_of_lt_of_le w0_l hz12
      replace x0_l := Nat.lt_of_lt_of_le x0_l hz12
      replace x1_l := Nat.lt_of_lt_of_le x1_l hz12
      replace g0_l := Nat.lt_of_lt_of_le g0_l hz12
      clear hb
      go_wp2_with fail
      have he13 : Eff 0 0 w12 w12.drew := (Eff.refl _ _ _).drew
      have hz13 : w12.heap.size ≤ w12.drew.heap.size := he13.size
      have b13 : Below W.heap.size W w12.drew := b12.trans (he13.below b12.size (by omega))
      replace hr := (hr.below (he13.below (B := W.heap.size) (by omega) (by omega)) (Nat.le_refl _))
      replace hr' := (hr'.below (he13.below (B := W.heap.size) (by omega) (by omega)) (Nat.le_refl _))
      replace W0 := Own.keep W0 he13 (by omega)
      replace t1 := Own.keep t1 he13 (by omega)
      replace t2 := Own.keep t2 he13 (by omega)
      replace r := Own.keep r he13 (by omega)
      replace aL_0 := he13.cell aL_0 (by simp only; omega)
      replace aL_1 := he13.cell aL_1 (by simp only; omega)
      replace aP_0 := he13.cell aP_0 (by simp only; omega)
      replace aP_1 := he13.cell aP_1 (by simp only; omega)
      replace w0_0 := he13.cell w0_0 (by simp only; omega)
      replace w0_1 := he13.cell w0_1 (by simp only; omega)
      replace x0_0 := he13.cell x0_0 (by simp only; omega)
      replace x0_1 := he13.cell x0_1 (by simp only; omega)
      replace x1_0 := he13.cell x1_0 (by simp only; omega)
      replace x1_1 := he13.cell x1_1 (by simp only; omega)
      replace g0_0 := he13.cell g0_0 (by simp only; omega)
      replace g0_1 := he13.cell g0_1 (by simp only; omega)
      replace aL_l := Nat.lt_of_lt_of_le aL_l hz13
      replace aP_l := Nat.lt_of_lt_of_le aP_l hz13
      replace w0_l := Nat.lt_of_lt_of_le w0_l hz13
      replace x0_l := Nat.lt_of_lt_of_le x0_l hz13
      replace x1_l := Nat.lt_of_lt_of_le x1_l hz13
      replace g0_l := Nat.lt_of_lt_of_le g0_l hz13
      go_region_held3 (fun w' => w'.cell? ⟨W.heap.size, 0, none⟩ = some (.int .i64 q) ∧ w'.cell? ⟨W.heap.size, 1, none⟩ = some (.slice A n c) ∧ w'.cell? ⟨w6.heap.size, 0, none⟩ = some (.int .i64 q) ∧ w'.cell? ⟨w6.heap.size, 1, none⟩ = some (.slice At1 n ct1)) ((go_split_ands; (repeat' apply And.intro) <;> (first | assumption))) (first | (go_at_call 19; refine (toLedger_any q A n c ls w12.drew (hr.more (by omega)) (by omega)).mono ?_; rintro e w14 ⟨At3, ct3, rfl, t3, hb⟩; have he14 : Eff 0 0 w12.drew w14 := Eff.of hb; have hz14 : w12.drew.heap.size ≤ w14.heap.size := he14.size; have b14 : Below W.heap.size W w14 := b13.trans (he14.below b13.size (by omega)); replace hr := (hr.below (he14.below (B := W.heap.size) (by omega) (by omega)) (Nat.le_refl _)); replace hr' := (hr'.below (he14.below (B := W.heap.size) (by omega) (by omega)) (Nat.le_refl _)); replace W0 := Own.keep W0 he14 (by omega); replace t1 := Own.keep t1 he14 (by omega); replace t2 := Own.keep t2 he14 (by omega); replace r := Own.keep r he14 (by omega); replace aL_0 := he14.cell aL_0 (by simp only; omega); replace aL_1 := he14.cell aL_1 (by simp only; omega); replace aP_0 := he14.cell aP_0 (by simp only; omega); replace aP_1 := he14.cell aP_1 (by simp only; omega); replace w0_0 := he14.cell w0_0 (by simp only; omega); replace w0_1 := he14.cell w0_1 (by simp only; omega); replace x0_0 := he14.cell x0_0 (by simp only; omega); replace x0_1 := he14.cell x0_1 (by simp only; omega); replace x1_0 := he14.cell x1_0 (by simp only; omega); replace x1_1 := he14.cell x1_1 (by simp only; omega); replace g0_0 := he14.cell g0_0 (by simp only; omega); replace g0_1 := he14.cell g0_1 (by simp only; omega); replace aL_l := Nat.lt_of_lt_of_le aL_l hz14; replace aP_l := Nat.lt_of_lt_of_le aP_l hz14; replace w0_l := Nat.lt_of_lt_of_le w0_l hz14; replace x0_l := Nat.lt_of_lt_of_le x0_l hz14; replace x1_l := Nat.lt_of_lt_of_le x1_l hz14; replace g0_l := Nat.lt_of_lt_of_le g0_l hz14; clear hb) | (go_at_call 21; refine (eqLedger_same q _ n _ _ n _ ls w14 (Own.rd t1 (by omega)) (Own.rd t3 (by omega)) (by omega)).mono ?_; rintro e w15 ⟨rfl, hb⟩; have he15 : Eff 0 0 w14 w15 := Eff.of hb; have hz15 : w14.heap.size ≤ w15.heap.size := he15.size; have b15 : Below W.heap.size W w15 := b14.trans (he15.below b14.size (by omega)); replace hr := (hr.below (he15.below (B := W.heap.size) (by omega) (by omega)) (Nat.le_refl _)); replace hr' := (hr'.below (he15.below (B := W.heap.size) (by omega) (by omega)) (Nat.le_refl _)); replace W0 := Own.keep W0 he15 (by omega); replace t1 := Own.keep t1 he15 (by omega); replace t2 := Own.keep t2 he15 (by omega); replace r := Own.keep r he15 (by omega); replace t3 := Own.keep t3 he15 (by omega); replace aL_0 := he15.cell aL_0 (by simp only; omega); replace aL_1 := he15.cell aL_1 (by simp only; omega); replace aP_0 := he15.cell aP_0 (by simp only; omega); replace aP_1 := he15.cell aP_1 (by simp only; omega); replace w0_0 := he15.cell w0_0 (by simp only; omega); replace w0_1 := he15.cell w0_1 (by simp only; omega); replace x0_0 := he15.cell x0_0 (by simp only; omega); replace x0_1 := he15.cell x0_1 (by simp only; omega); replace x1_0 := he15.cell x1_0 (by simp only; omega); replace x1_1 := he15.cell x1_1 (by simp only; omega); replace g0_0 := he15.cell g0_0 (by simp only; omega); replace g0_1 := he15.cell g0_1 (by simp only; omega); replace aL_l := Nat.lt_of_lt_of_le aL_l hz15; replace aP_l := Nat.lt_of_lt_of_le aP_l hz15; replace w0_l := Nat.lt_of_lt_of_le w0_l hz15; replace x0_l := Nat.lt_of_lt_of_le x0_l hz15; replace x1_l := Nat.lt_of_lt_of_le x1_l hz15; replace g0_l := Nat.lt_of_lt_of_le g0_l hz15; clear hb))
      clear t3
      go_wp2_with fail
      have he16 : Eff 0 0 w15 w15.drew := (Eff.refl _ _ _).drew
      have hz16 : w15.heap.size ≤ w15.drew.heap.size := he16.size
      have b16 : Below W.heap.size W w15.drew := b15.trans (he16.below b15.size (by omega))
      replace hr := (hr.below (he16.below (B := W.heap.size) (by omega) (by omega)) (Nat.le_refl _))
      replace hr' := (hr'.below (he16.below (B := W.heap.size) (by omega) (by omega)) (Nat.le_refl _))
      replace W0 := Own.keep W0 he16 (by omega)
      replace t1 := Own.keep t1 he16 (by omega)
      replace t2 := Own.keep t2 he16 (by omega)
      replace r := Own.keep r he16 (by omega)
      replace aL_0 := he16.cell aL_0 (by simp only; omega)
      replace aL_1 := he16.cell aL_1 (by simp only; omega)
      replace aP_0 := he16.cell aP_0 (by simp only; omega)
      replace aP_1 := he16.cell aP_1 (by simp only; omega)
      replace w0_0 := he16.cell w0_0 (by simp only; omega)
      replace w0_1 := he16.cell w0_1 (by simp only; omega)
      replace x0_0 := he16.cell x0_0 (by simp only; omega)
      replace x0_1 := he16.cell x0_1 (by simp only; omega)
      replace x1_0 := he16.cell x1_0 (by simp only; omega)
      replace x1_1 := he16.cell x1_1 (by simp only; omega)
      replace g0_0 := he16.cell g0_0 (by simp only; omega)
      replace g0_1 := he16.cell g0_1 (by simp only; omega)
      replace aL_l := Nat.lt_of_lt_of_le aL_l hz16
      replace aP_l := Nat.lt_of_lt_of_le aP_l hz16
      replace w0_l := Nat.lt_of_lt_of_le w0_l hz16
      replace x0_l := Nat.lt_of_lt_of_le x0_l hz16
      replace x1_l := Nat.lt_of_lt_of_le x1_l hz16
      replace g0_l := Nat.lt_of_lt_of_le g0_l hz16
      go_region_held3 (fun w' => w'.cell? ⟨W.heap.size + 1, 0, none⟩ = some (.int .i64 p) ∧ w'.cell? ⟨W.heap.size + 1, 1, none⟩ = some (.slice A' n' c') ∧ w'.cell? ⟨w8.heap.size, 0, none⟩ = some (.int .i64 p) ∧ w'.cell? ⟨w8.heap.size, 1, none⟩ = some (.slice At2 n' ct2)) ((go_split_ands; (repeat' apply And.intro) <;> (first | assumption))) (first | (go_at_call 24; refine (toPosting_any p A' n' c' ps w15.drew (hr'.more (by omega)) (by omega)).mono ?_; rintro e w17 ⟨At4, ct4, rfl, t4, hb⟩; have he17 : Eff 0 0 w15.drew w17 := Eff.of hb; have hz17 : w15.drew.heap.size ≤ w17.heap.size := he17.size; have b17 : Below W.heap.size W w17 := b16.trans (he17.below b16.size (by omega)); replace hr := (hr.below (he17.below (B := W.heap.size) (by omega) (by omega)) (Nat.le_refl _)); replace hr' := (hr'.below (he17.below (B := W.heap.size) (by omega) (by omega)) (Nat.le_refl _)); replace W0 := Own.keep W0 he17 (by omega); replace t1 := Own.keep t1 he17 (by omega); replace t2 := Own.keep t2 he17 (by omega); replace r := Own.keep r he17 (by omega); replace aL_0 := he17.cell aL_0 (by simp only; omega); replace aL_1 := he17.cell aL_1 (by simp only; omega); replace aP_0 := he17.cell aP_0 (by simp only; omega); replace aP_1 := he17.cell aP_1 (by simp only; omega); replace w0_0 := he17.cell w0_0 (by simp only; omega); replace w0_1 := he17.cell w0_1 (by simp only; omega); replace x0_0 := he17.cell x0_0 (by simp only; omega); replace x0_1 := he17.cell x0_1 (by simp only; omega); replace x1_0 := he17.cell x1_0 (by simp only; omega); replace x1_1 := he17.cell x1_1 (by simp only; omega); replace g0_0 := he17.cell g0_0 (by simp only; omega); replace g0_1 := he17.cell g0_1 (by simp only; omega); replace aL_l := Nat.lt_of_lt_of_le aL_l hz17; replace aP_l := Nat.lt_of_lt_of_le aP_l hz17; replace w0_l := Nat.lt_of_lt_of_le w0_l hz17; replace x0_l := Nat.lt_of_lt_of_le x0_l hz17; replace x1_l := Nat.lt_of_lt_of_le x1_l hz17; replace g0_l := Nat.lt_of_lt_of_le g0_l hz17; clear hb) | (go_at_call 26; refine (eqPosting_same p _ n' _ _ n' _ ps w17 (Own.rd t2 (by omega)) (Own.rd t4 (by omega)) (by omega)).mono ?_; rintro e w18 ⟨rfl, hb⟩; have he18 : Eff 0 0 w17 w18 := Eff.of hb; have hz18 : w17.heap.size ≤ w18.heap.size := he18.size; have b18 : Below W.heap.size W w18 := b17.trans (he18.below b17.size (by omega)); replace hr := (hr.below (he18.below (B := W.heap.size) (by omega) (by omega)) (Nat.le_refl _)); replace hr' := (hr'.below (he18.below (B := W.heap.size) (by omega) (by omega)) (Nat.le_refl _)); replace W0 := Own.keep W0 he18 (by omega); replace t1 := Own.keep t1 he18 (by omega); replace t2 := Own.keep t2 he18 (by omega); replace r := Own.keep r he18 (by omega); replace t4 := Own.keep t4 he18 (by omega); replace aL_0 := he18.cell aL_0 (by simp only; omega); replace aL_1 := he18.cell aL_1 (by simp only; omega); replace aP_0 := he18.cell aP_0 (by simp only; omega); replace aP_1 := he18.cell aP_1 (by simp only; omega); replace w0_0 := he18.cell w0_0 (by simp only; omega); replace w0_1 := he18.cell w0_1 (by simp only; omega); replace x0_0 := he18.cell x0_0 (by simp only; omega); replace x0_1 := he18.cell x0_1 (by simp only; omega); replace x1_0 := he18.cell x1_0 (by simp only; omega); replace x1_1 := he18.cell x1_1 (by simp only; omega); replace g0_0 := he18.cell g0_0 (by simp only; omega); replace g0_1 := he18.cell g0_1 (by simp only; omega); replace aL_l := Nat.lt_of_lt_of_le aL_l hz18; replace aP_l := Nat.lt_of_lt_of_le aP_l hz18; replace w0_l := Nat.lt_of_lt_of_le w0_l hz18; replace x0_l := Nat.lt_of_lt_of_le x0_l hz18; replace x1_l := Nat.lt_of_lt_of_le x1_l hz18; replace g0_l := Nat.lt_of_lt_of_le g0_l hz18; clear hb))
      clear t4
      go_wp2_with fail
      refine (markLedger_z q _ n _ ls _ _ 1 w18 t1 (by omega) (by omega) _ rfl).mono ?_
      rintro e w19 ⟨rfl, t1, he⟩
      have he19 : Eff (wm.heap.size) (w6.heap.size) w18 w19 := he
      have hz19 : w18.heap.size ≤ w19.heap.size := he19.size
      have b19 : Below W.heap.size W w19 := b18.trans (he19.below b18.size (by omega))
      replace hr := (hr.below (he19.below (B := W.heap.size) (by omega) (by omega)) (Nat.le_refl _))
      replace hr' := (hr'.below (he19.below (B := W.heap.size) (by omega) (by omega)) (Nat.le_refl _))
      replace W0 := Own.keep W0 he19 (by omega)
      replace t2 := Own.keep t2 he19 (by omega)
      replace r := Own.keep r he19 (by omega)
      replace aL_0 := he19.cell aL_0 (by simp only; omega)
      replace aL_1 := he19.cell aL_1 (by simp only; omega)
      replace aP_0 := he19.cell aP_0 (by simp only; omega)
      replace aP_1 := he19.cell aP_1 (by simp only; omega)
      replace w0_0 := he19.cell w0_0 (by simp only; omega)
      replace w0_1 := he19.cell w0_1 (by simp only; omega)
      replace x0_0 := he19.cell x0_0 (by simp only; omega)
      replace x0_1 := he19.cell x0_1 (by simp only; omega)
      replace x1_0 := he19.cell x1_0 (by simp only; omega)
      replace x1_1 := he19.cell x1_1 (by simp only; omega)
      replace g0_0 := he19.cell g0_0 (by simp only; omega)
      replace g0_1 := he19.cell g0_1 (by simp only; omega)
      replace aL_l := Nat.lt_of_lt_of_le aL_l hz19
      replace aP_l := Nat.lt_of_lt_of_le aP_l hz19
      replace w0_l := Nat.lt_of_lt_of_le w0_l hz19
      replace x0_l := Nat.lt_of_lt_of_le x0_l hz19
      replace x1_l := Nat.lt_of_lt_of_le x1_l hz19
      replace g0_l := Nat.lt_of_lt_of_le g0_l hz19
      clear he
      go_wp2_with fail
      refine (markPosting_z p _ n' _ ps _ _ (1 + n * 3) w19 t2 (by omega) (by omega) _ (by simp)).mono ?_
      rintro e w20 ⟨rfl, t2, he⟩
      have he20 : Eff (w7.heap.size) (w8.heap.size) w19 w20 := he
      have hz20 : w19.heap.size ≤ w20.heap.size := he20.size
      have b20 : Below W.heap.size W w20 := b19.trans (he20.below b19.size (by omega))
      replace hr := (hr.below (he20.below (B := W.heap.size) (by omega) (by omega)) (Nat.le_refl _))
      replace hr' := (hr'.below (he20.below (B := W.heap.size) (by omega) (by omega)) (Nat.le_refl _))
      replace W0 := Own.keep W0 he20 (by omega)
      replace t1 := Own.keep t1 he20 (by omega)
      replace r := Own.keep r he20 (by omega)
      replace aL_0 := he20.cell aL_0 (by simp only; omega)
      replace aL_1 := he20.cell aL_1 (by simp only; omega)
      replace aP_0 := he20.cell aP_0 (by simp only; omega)
      replace aP_1 := he20.cell aP_1 (by simp only; omega)
      replace w0_0 := he20.cell w0_0 (by simp only; omega)
      replace w0_1 := he20.cell w0_1 (by simp only; omega)
      replace x0_0 := he20.cell x0_0 (by simp only; omega)
      replace x0_1 := he20.cell x0_1 (by simp only; omega)
      replace x1_0 := he20.cell x1_0 (by simp only; omega)
      replace x1_1 := he20.cell x1_1 (by simp only; omega)
      replace g0_0 := he20.cell g0_0 (by simp only; omega)
      replace g0_1 := he20.cell g0_1 (by simp only; omega)
      replace aL_l := Nat.lt_of_lt_of_le aL_l hz20
      replace aP_l := Nat.lt_of_lt_of_le aP_l hz20
      replace w0_l := Nat.lt_of_lt_of_le w0_l hz20
      replace x0_l := Nat.lt_of_lt_of_le x0_l hz20
      replace x1_l := Nat.lt_of_lt_of_le x1_l hz20
      replace g0_l := Nat.lt_of_lt_of_le g0_l hz20
      clear he
      go_wp2_with fail
      refine (eqLedger_same Q _ N _ _ N _ R w20 (Own.rd r (by omega)) (Own.rd W0 (by omega)) (by omega)).mono ?_
      rintro e w21 ⟨rfl, hb⟩
      have he21 : Eff 0 0 w20 w21 := Eff.of hb
      have hz21 : w20.heap.size ≤ w21.heap.size := he21.size
      have b21 : Below W.heap.size W w21 := b20.trans (he21.below b20.size (by omega))
      replace hr := (hr.below (he21.below (B := W.heap.size) (by omega) (by omega)) (Nat.le_refl _))
      replace hr' := (hr'.below (he21.below (B := W.heap.size) (by omega) (by omega)) (Nat.le_refl _))
      replace W0 := Own.keep W0 he21 (by omega)
      replace t1 := Own.keep t1 he21 (by omega)
      replace t2 := Own.keep t2 he21 (by omega)
      replace r := Own.keep r he21 (by omega)
      replace aL_0 := he21.cell aL_0 (by simp only; omega)
      replace aL_1 := he21.cell aL_1 (by simp only; omega)
      replace aP_0 := he21.cell aP_0 (by simp only; omega)
      replace aP_1 := he21.cell aP_1 (by simp only; omega)
      replace w0_0 := he21.cell w0_0 (by simp only; omega)
      replace w0_1 := he21.cell w0_1 (by simp only; omega)
      replace x0_0 := he21.cell x0_0 (by simp only; omega)
      replace x0_1 := he21.cell x0_1 (by simp only; omega)
      replace x1_0 := he21.cell x1_0 (by simp only; omega)
      replace x1_1 := he21.cell x1_1 (by simp only; omega)
      replace g0_0 := he21.cell g0_0 (by simp only; omega)
      replace g0_1 := he21.cell g0_1 (by simp only; omega)
      replace aL_l := Nat.lt_of_lt_of_le aL_l hz21
      replace aP_l := Nat.lt_of_lt_of_le aP_l hz21
      replace w0_l := Nat.lt_of_lt_of_le w0_l hz21
      replace x0_l := Nat.lt_of_lt_of_le x0_l hz21
      replace x1_l := Nat.lt_of_lt_of_le x1_l hz21
      replace g0_l := Nat.lt_of_lt_of_le g0_l hz21
      clear hb
      go_wp2_with fail
      refine (markLedger_z Q _ N _ R _ _ 1 w21 r (by omega) (by omega) _ rfl).mono ?_
      rintro e w22 ⟨rfl, r, he⟩
      have he22 : Eff (w9.heap.size) (w10.heap.size) w21 w22 := he
      have hz22 : w21.heap.size ≤ w22.heap.size := he22.size
      have b22 : Below W.heap.size W w22 := b21.trans (he22.below b21.size (by omega))
      replace hr := (hr.below (he22.below (B := W.heap.size) (by omega) (by omega)) (Nat.le_refl _))
      replace hr' := (hr'.below (he22.below (B := W.heap.size) (by omega) (by omega)) (Nat.le_refl _))
      replace W0 := Own.keep W0 he22 (by omega)
      replace t1 := Own.keep t1 he22 (by omega)
      replace t2 := Own.keep t2 he22 (by omega)
      replace aL_0 := he22.cell aL_0 (by simp only; omega)
      replace aL_1 := he22.cell aL_1 (by simp only; omega)
      replace aP_0 := he22.cell aP_0 (by simp only; omega)
      replace aP_1 := he22.cell aP_1 (by simp only; omega)
      replace w0_0 := he22.cell w0_0 (by simp only; omega)
      replace w0_1 := he22.cell w0_1 (by simp only; omega)
      replace x0_0 := he22.cell x0_0 (by simp only; omega)
      replace x0_1 := he22.cell x0_1 (by simp only; omega)
      replace x1_0 := he22.cell x1_0 (by simp only; omega)
      replace x1_1 := he22.cell x1_1 (by simp only; omega)
      replace g0_0 := he22.cell g0_0 (by simp only; omega)
      replace g0_1 := he22.cell g0_1 (by simp only; omega)
      replace aL_l := Nat.lt_of_lt_of_le aL_l hz22
      replace aP_l := Nat.lt_of_lt_of_le aP_l hz22
      replace w0_l := Nat.lt_of_lt_of_le w0_l hz22
      replace x0_l := Nat.lt_of_lt_of_le x0_l hz22
      replace x1_l := Nat.lt_of_lt_of_le x1_l hz22
      replace g0_l := Nat.lt_of_lt_of_le g0_l hz22
      clear he
      go_wp2_with fail
      refine (heldLedger_z Q _ N _ 1 w22 (Own.rd r (by omega)) (by omega) (by omega) _ rfl).mono ?_
      rintro e w23 ⟨rfl, hb⟩
      have he23 : Eff 0 0 w22 w23 := Eff.of hb
      have hz23 : w22.heap.size ≤ w23.heap.size := he23.size
      have b23 : Below W.heap.size W w23 := b22.trans (he23.below b22.size (by omega))
      replace hr := (hr.below (he23.below (B := W.heap.size) (by omega) (by omega)) (Nat.le_refl _))
      replace hr' := (hr'.below (he23.below (B := W.heap.size) (by omega) (by omega)) (Nat.le_refl _))
      replace W0 := Own.keep W0 he23 (by omega)
      replace t1 := Own.keep t1 he23 (by omega)
      replace t2 := Own.keep t2 he23 (by omega)
      replace r := Own.keep r he23 (by omega)
      replace aL_0 := he23.cell aL_0 (by simp only; omega)
      replace aL_1 := he23.cell aL_1 (by simp only; omega)
      replace aP_0 := he23.cell aP_0 (by simp only; omega)
      replace aP_1 := he23.cell aP_1 (by simp only; omega)
      replace w0_0 := he23.cell w0_0 (by simp only; omega)
      replace w0_1 := he23.cell w0_1 (by simp only; omega)
      replace x0_0 := he23.cell x0_0 (by simp only; omega)
      replace x0_1 := he23.cell x0_1 (by simp only; omega)
      replace x1_0 := he23.cell x1_0 (by simp only; omega)
      replace x1_1 := he23.cell x1_1 (by simp only; omega)
      replace g0_0 := he23.cell g0_0 (by simp only; omega)
      replace g0_1 := he23.cell g0_1 (by simp only; omega)
      replace aL_l := Nat.lt_of_lt_of_le aL_l hz23
      replace aP_l := Nat.lt_of_lt_of_le aP_l hz23
      replace w0_l := Nat.lt_of_lt_of_le w0_l hz23
      replace x0_l := Nat.lt_of_lt_of_le x0_l hz23
      replace x1_l := Nat.lt_of_lt_of_le x1_l hz23
      replace g0_l := Nat.lt_of_lt_of_le g0_l hz23
      clear hb
      clear t1
      clear t2
      clear x0_l
      clear x0_0
      clear x0_1
      clear x1_l
      clear x1_0
      clear x1_1
      go_wp2_with fail
      go_cut [15, 16] (fun v6 v7 wx => v7 = .int .i64 Cd ∧ MidPost Q R w23 v6 wx)
      case first =>
        clear he1 he2 he3 he4 he5 he6 he7 he8 he9 he10 he11 he12 he13 he14 he15 he16 he17 he18 he19 he20 he21 he22 he23 b1 b2 b3 b4 b5 b6 b7 b8 b9 b10 b11 b12 b13 b14 b15 b16 b17 b18 b19 b20 b21 b22
        have hB0 : Below W.heap.size W w23.drew := b23.drew
        have hE0 : Eff 0 0 w23 w23.drew := (Eff.refl _ _ _).drew
        refine wp_region_held_drew (S := fun w' => w'.cell? ⟨W.heap.size, 0, none⟩ = some (.int .i64 q) ∧ w'.cell? ⟨W.heap.size, 1, none⟩ = some (.slice A n c) ∧ w'.cell? ⟨W.heap.size + 1, 0, none⟩ = some (.int .i64 p) ∧ w'.cell? ⟨W.heap.size + 1, 1, none⟩ = some (.slice A' n' c')) (by kernel_rfl) ?rg37 (fun hHeld => ?_)
        case rg37 => ((try dsimp only); (go_split_ands; (repeat' apply And.intro) <;> (first | assumption | exact cell_kept hb (by assumption) (by first | omega | (simp; done) | (simp; omega)) | exact set_other (set_other (by assumption) _ (.inl (by first | omega | (simp; omega)))) _ (.inl (by first | omega | (simp; omega))))))
        have hvz : w23.heap.size ≤ w23.drew.heap.size := Nat.le_refl _
        generalize w23.drew = v0 at *
        refine wpAnyH_take (i := 0) (oi := { dst := some 95, op := Go.Op.load 30 (Go.Operand.tmp 2), type := 30, pos := "exact.go:3021", after := #[], guard := none }) (v := ?v38) rfl (by kernel_rfl) (by kernel_rfl) (by kernel_rfl) (fun _ _ _ h => h) (Or.inl ⟨by rfl, ?y38⟩) (by assumption) ?_
        case y38 => (intro w hSw; (try dsimp only at hSw); go_simp; first | done | with_reducible rfl)
        try simp only [Act.put, List.setIfInBounds_toArray, List.set_cons_zero, List.set_cons_succ]
        refine wpAnyH_take (i := 2) (oi := { dst := some 97, op := Go.Op.load 39 (Go.Operand.tmp 3), type := 39, pos := "exact.go:3021", after := #[], guard := none }) (v := ?v39) rfl (by kernel_rfl) (by kernel_rfl) (by kernel_rfl) (fun _ _ _ h => h) (Or.inl ⟨by rfl, ?y39⟩) (by assumption) ?_
        case y39 => (intro w hSw; (try dsimp only at hSw); go_simp; first | done | with_reducible rfl)
        try simp only [Act.put, List.setIfInBounds_toArray, List.set_cons_zero, List.set_cons_succ]
        refine wpAnyH_ready (rs := [1, 8]) (by kernel_rfl) (by simp) ?_
        refine AllReadyH.cons (o := { dst := some 96, op := Go.Op.call { callee := Go.Callee.value (Go.Operand.func 19), args := #[Go.Operand.tmp 95], argTypes := #[30] }, type := 34, pos := "exact.go:3021", after := #[{ on := 0, ground := Go.Ground.data }], guard := none }) rfl (fun K hK => ?k40) ?m40
        case k40 =>
          go_simp
          go_at_call 19
          refine (toLedger_any q A n c ls v0 ((Rd.keep hr (fun p hp => (hB0.cell hp).trans (b23.cell hp).symm)).more hB0.size) (by omega)).mono ?_
          rintro e va ⟨Ata, cta, rfl, ta, hb⟩
          have hB1 : Below W.heap.size W va := hB0.trans (hb.mono hB0.size)
          have hE1 : Eff 0 0 w23 va := hE0.trans (Eff.of hb)
          have hZ1 : v0.heap.size ≤ va.heap.size := hb.size
          refine hK.out _ _ ?s40 (fun hHeld => ?_)
          case s40 => ((try dsimp only); (go_split_ands; (repeat' apply And.intro) <;> (first | assumption | exact cell_kept hb (by assumption) (by first | omega | (simp; done) | (simp; omega)) | exact set_other (set_other (by assumption) _ (.inl (by first | omega | (simp; omega)))) _ (.inl (by first | omega | (simp; omega))))))
          clear hK K
          try simp only [Act.put, List.setIfInBounds_toArray, List.set_cons_zero, List.set_cons_succ]
          refine wpAnyH_ready (rs := [3, 8]) (by kernel_rfl) (by simp) ?_
          refine AllReadyH.cons (o := { dst := some 98, op := Go.Op.call { callee := Go.Callee.value (Go.Operand.func 24), args := #[Go.Operand.tmp 97], argTypes := #[39] }, type := 43, pos := "exact.go:3021", after := #[{ on := 2, ground := Go.Ground.data }, { on := 1, ground := Go.Ground.chain }], guard := none }) rfl (fun K hK => ?k41) ?m41
          case k41 =>
            go_simp
            go_at_call 24
            refine (toPosting_any p A' n' c' ps va ((Rd.keep hr' (fun p hp => (hB1.cell hp).trans (b23.cell hp).symm)).more hB1.size) (by omega)).mono ?_
            rintro e vab ⟨Atb, ctb, rfl, tb, hb⟩
            have hB2 : Below W.heap.size W vab := hB1.trans (hb.mono hB1.size)
            have hE2 : Eff 0 0 w23 vab := hE1.trans (Eff.of hb)
            have hZ2 : va.heap.size ≤ vab.heap.size := hb.size
            replace ta := Own.keep ta (Eff.of hb) (.inr (.inr (Nat.le_refl _)))
            refine hK.out _ _ ?s41 (fun hHeld => ?_)
            case s41 => ((try dsimp only); (go_split_ands; (repeat' apply And.intro) <;> (first | assumption | exact cell_kept hb (by assumption) (by first | omega | (simp; done) | (simp; omega)) | exact set_other (set_other (by assumption) _ (.inl (by first | omega | (simp; omega)))) _ (.inl (by first | omega | (simp; omega))))))
            clear hK K
            try simp only [Act.put, List.setIfInBounds_toArray, List.set_cons_zero, List.set_cons_succ]
            refine wpAnyH_ready (rs := [4, 8]) (by kernel_rfl) (by simp) ?_
            refine AllReadyH.cons (o := { dst := some 99, op := Go.Op.call { callee := Go.Callee.value (Go.Operand.func 33), args := #[Go.Operand.tmp 96, Go.Operand.tmp 98], argTypes := #[34, 43] }, type := 54, pos := "exact.go:3021", after := #[{ on := 1, ground := Go.Ground.data }, { on := 3, ground := Go.Ground.data }, { on := 3, ground := Go.Ground.chain }], guard := none }) rfl (fun K hK => ?k42) ?m42
            case k42 =>
              go_simp
              go_at_call 33
              refine (impl_PostR HQ.out HR.out HC.out _ n _ _ n' _ vab (Own.rd ta (Own.le ta)) (Own.rd tb (Own.le tb)) (by omega) (by omega) (Own.caps ta) (Own.caps tb)).mono ?_
              rintro e vabp ⟨Ar, nr, cr, hnr, rfl, r, hb⟩
              have HNR := Lib.hid hnr
              clear hnr
              have hB3 : Below W.heap.size W vabp := hB2.trans (hb.mono hB2.size)
              have hE3 : Eff 0 0 w23 vabp := hE2.trans (Eff.of hb)
              have hZ3 : vab.heap.size ≤ vabp.heap.size := hb.size
              replace ta := Own.keep ta (Eff.of hb) (.inr (.inr (Nat.le_refl _)))
              replace tb := Own.keep tb (Eff.of hb) (.inr (.inr (Nat.le_refl _)))
              refine hK.out _ _ ?s42 (fun hHeld => ?_)
              case s42 => ((try dsimp only); (go_split_ands; (repeat' apply And.intro) <;> (first | assumption | exact cell_kept hb (by assumption) (by first | omega | (simp; done) | (simp; omega)) | exact set_other (set_other (by assumption) _ (.inl (by first | omega | (simp; omega)))) _ (.inl (by first | omega | (simp; omega))))))
              clear hK K
              try simp only [Act.put, List.setIfInBounds_toArray, List.set_cons_zero, List.set_cons_succ]
              refine wpAnyH_take (i := 5) (oi := { dst := some 94, op := Go.Op.move (Go.Operand.tmp 99), type := 54, pos := "exact.go:3021", after := #[{ on := 4, ground := Go.Ground.data }], guard := none }) (v := ?v43) rfl (by kernel_rfl) (by kernel_rfl) (by kernel_rfl) (fun _ _ _ h => h) (Or.inl ⟨by rfl, ?y43⟩) (by assumption) ?_
              case y43 => (intro w hSw; (try dsimp only at hSw); go_simp; first | done | with_reducible rfl)
              try simp only [Act.put, List.setIfInBounds_toArray, List.set_cons_zero, List.set_cons_succ]
              refine wpAnyH_take (i := 6) (oi := { dst := some 100, op := Go.Op.extract (Go.Operand.tmp 94) 0, type := 34, pos := "exact.go:3021", after := #[{ on := 5, ground := Go.Ground.data }], guard := none }) (v := ?v44) rfl (by kernel_rfl) (by kernel_rfl) (by kernel_rfl) (fun _ _ _ h => h) (Or.inl ⟨by rfl, ?y44⟩) (by assumption) ?_
              case y44 => (intro w hSw; (try dsimp only at hSw); go_simp; first | done | with_reducible rfl)
              try simp only [Act.put, List.setIfInBounds_toArray, List.set_cons_zero, List.set_cons_succ]
              refine wpAnyH_take (i := 7) (oi := { dst := some 101, op := Go.Op.extract (Go.Operand.tmp 94) 1, type := 3, pos := "exact.go:3021", after := #[{ on := 5, ground := Go.Ground.data }, { on := 9, ground := Go.Ground.gcOnly Go.Departure.lateStores }], guard := none }) (v := ?v45) rfl (by kernel_rfl) (by kernel_rfl) (by kernel_rfl) (fun _ _ _ h => h) (Or.inl ⟨by rfl, ?y45⟩) (by assumption) ?_
              case y45 => (intro w hSw; (try dsimp only at hSw); go_simp; first | done | with_reducible rfl)
              try simp only [Act.put, List.setIfInBounds_toArray, List.set_cons_zero, List.set_cons_succ]
              refine wpAnyH_ready (rs := [8]) (by kernel_rfl) (by simp) ?_
              refine AllReadyH.cons (o := { dst := some 15, op := Go.Op.alloc 34, type := 0, pos := "exact.go:3021", after := #[], guard := none }) rfl (fun K hK => ?k46) AllReadyH.nil
              go_simp
              have bx := var4 vabp (.int .i64 0) (.slice none 0 0) 34 (g := vabp.heap.size) rfl
              have hb : Below vabp.heap.size vabp (vabp.alloc (.cells #[.int .i64 0, .slice none 0 0] 34)) := (Below.refl _ _).alloc (Nat.le_refl _) _
              have hxs : (vabp.alloc (.cells #[.int .i64 0, .slice none 0 0] 34)).heap.size = vabp.heap.size + 1 := (by simp)
              generalize (vabp.alloc (.cells #[.int .i64 0, .slice none 0 0] 34)) = vabpx at *
              have hB4 : Below W.heap.size W vabpx := hB3.trans (hb.mono hB3.size)
              have hE4 : Eff 0 0 w23 vabpx := hE3.trans (Eff.of hb)
              have hZ4 : vabp.heap.size ≤ vabpx.heap.size := hb.size
              replace ta := Own.keep ta (Eff.of hb) (.inr (.inr (Nat.le_refl _)))
              replace tb := Own.keep tb (Eff.of hb) (.inr (.inr (Nat.le_refl _)))
              replace r := Own.keep r (Eff.of hb) (.inr (.inr (Nat.le_refl _)))
              refine hK.out _ _ ?s46 (fun hHeld => ?_)
              case s46 => ((try dsimp only); (go_split_ands; (repeat' apply And.intro) <;> (first | assumption | exact cell_kept hb (by assumption) (by first | omega | (simp; done) | (simp; omega)) | exact set_other (set_other (by assumption) _ (.inl (by first | omega | (simp; omega)))) _ (.inl (by first | omega | (simp; omega))))))
              clear hK K
              try simp only [Act.put, List.setIfInBounds_toArray, List.set_cons_zero, List.set_cons_succ]
              refine wpAnyH_ready (rs := [9]) (by kernel_rfl) (by simp) ?_
              refine AllReadyH.cons (o := { dst := none, op := Go.Op.store 34 (Go.Operand.tmp 15) (Go.Operand.tmp 100), type := 0, pos := "exact.go:3021", after := #[{ on := 8, ground := Go.Ground.data }, { on := 6, ground := Go.Ground.data }, { on := 4, ground := Go.Ground.chain }, { on := 0, ground := Go.Ground.phase }, { on := 1, ground := Go.Ground.phase }, { on := 2, ground := Go.Ground.phase }, { on := 3, ground := Go.Ground.phase }, { on := 4, ground := Go.Ground.phase }, { on := 5, ground := Go.Ground.phase }, { on := 6, ground := Go.Ground.phase }, { on := 7, ground := Go.Ground.textOnly Go.Departure.lateStores }, { on := 8, ground := Go.Ground.phase }], guard := none }) rfl (fun K hK => ?k47) AllReadyH.nil
              obtain ⟨q0, q1, q2, q3⟩ := bx
              go_simp
              refine hK.out _ _ ?s47 (fun hHeld => ?_)
              case s47 => ((try dsimp only); (go_split_ands; (repeat' apply And.intro) <;> (first | assumption | exact cell_kept hb (by assumption) (by first | omega | (simp; done) | (simp; omega)) | exact set_other (set_other (by assumption) _ (.inl (by first | omega | (simp; omega)))) _ (.inl (by first | omega | (simp; omega))))))
              clear hK K
              try simp only [Act.put]
              refine wpAnyH_take (i := 10) (oi := { dst := some 16, op := Go.Op.assign (Go.Operand.tmp 101), type := 3, pos := "exact.go:3021", after := #[{ on := 7, ground := Go.Ground.data }, { on := 9, ground := Go.Ground.chain }, { on := 0, ground := Go.Ground.phase }, { on := 1, ground := Go.Ground.phase }, { on := 2, ground := Go.Ground.phase }, { on := 3, ground := Go.Ground.phase }, { on := 4, ground := Go.Ground.phase }, { on := 5, ground := Go.Ground.phase }, { on := 6, ground := Go.Ground.phase }, { on := 7, ground := Go.Ground.phase }, { on := 8, ground := Go.Ground.phase }, { on := 9, ground := Go.Ground.phase }], guard := none }) (v := ?v48) rfl (by kernel_rfl) (by kernel_rfl) (by kernel_rfl) (fun _ _ _ h => h) (Or.inl ⟨by rfl, ?y48⟩) (by assumption) ?_
              case y48 => (intro w hSw; (try dsimp only at hSw); go_simp; first | done | with_reducible rfl)
              try simp only [Act.put, List.setIfInBounds_toArray, List.set_cons_zero, List.set_cons_succ]
              refine wpAnyH_done (by kernel_rfl) ?_ _
              go_wp2_with fail
              go_meet
              exact ⟨rfl, MidPost.mk r HNR.out (fun k hk => by have := Own.blk r k hk; omega) hE4 (by omega) (by omega) ⟨q0, q1, q2, q3⟩⟩
            case m42 =>
              refine AllReadyH.cons (o := { dst := some 15, op := Go.Op.alloc 34, type := 0, pos := "exact.go:3021", after := #[], guard := none }) rfl (fun K hK => ?k49) AllReadyH.nil
              case k49 =>
                go_simp
                have bx := var4 vab (.int .i64 0) (.slice none 0 0) 34 (g := vab.heap.size) rfl
                have hb : Below vab.heap.size vab (vab.alloc (.cells #[.int .i64 0, .slice none 0 0] 34)) := (Below.refl _ _).alloc (Nat.le_refl _) _
                have hxs : (vab.alloc (.cells #[.int .i64 0, .slice none 0 0] 34)).heap.size = vab.heap.size + 1 := (by simp)
                generalize (vab.alloc (.cells #[.int .i64 0, .slice none 0 0] 34)) = vabx at *
                have hB3 : Below W.heap.size W vabx := hB2.trans (hb.mono hB2.size)
                have hE3 : Eff 0 0 w23 vabx := hE2.trans (Eff.of hb)
                have hZ3 : vab.heap.size ≤ vabx.heap.size := hb.size
                replace ta := Own.keep ta (Eff.of hb) (.inr (.inr (Nat.le_refl _)))
                replace tb := Own.keep tb (Eff.of hb) (.inr (.inr (Nat.le_refl _)))
                refine hK.out _ _ ?s49 (fun hHeld => ?_)
                case s49 => ((try dsimp only); (go_split_ands; (repeat' apply And.intro) <;> (first | assumption | exact cell_kept hb (by assumption) (by first | omega | (simp; done) | (simp; omega)) | exact set_other (set_other (by assumption) _ (.inl (by first | omega | (simp; omega)))) _ (.inl (by first | omega | (simp; omega))))))
                clear hK K
                try simp only [Act.put, List.setIfInBounds_toArray, List.set_cons_zero, List.set_cons_succ]
                refine wpAnyH_ready (rs := [4]) (by kernel_rfl) (by simp) ?_
                refine AllReadyH.cons (o := { dst := some 99, op := Go.Op.call { callee := Go.Callee.value (Go.Operand.func 33), args := #[Go.Operand.tmp 96, Go.Operand.tmp 98], argTypes := #[34, 43] }, type := 54, pos := "exact.go:3021", after := #[{ on := 1, ground := Go.Ground.data }, { on := 3, ground := Go.Ground.data }, { on := 3, ground := Go.Ground.chain }], guard := none }) rfl (fun K hK => ?k50) AllReadyH.nil
                go_simp
                go_at_call 33
                refine (impl_PostR HQ.out HR.out HC.out _ n _ _ n' _ vabx (Own.rd ta (Own.le ta)) (Own.rd tb (Own.le tb)) (by omega) (by omega) (Own.caps ta) (Own.caps tb)).mono ?_
                rintro e vabxp ⟨Ar, nr, cr, hnr, rfl, r, hb⟩
                have HNR := Lib.hid hnr
                clear hnr
                have hB4 : Below W.heap.size W vabxp := hB3.trans (hb.mono hB3.size)
                have hE4 : Eff 0 0 w23 vabxp := hE3.trans (Eff.of hb)
                have hZ4 : vabx.heap.size ≤ vabxp.heap.size := hb.size
                replace ta := Own.keep ta (Eff.of hb) (.inr (.inr (Nat.le_refl _)))
                replace tb := Own.keep tb (Eff.of hb) (.inr (.inr (Nat.le_refl _)))
                replace bx := bx.eff (Eff.of hb) (.inr (Nat.zero_le _))
                refine hK.out _ _ ?s50 (fun hHeld => ?_)
                case s50 => ((try dsimp only); (go_split_ands; (repeat' apply And.intro) <;> (first | assumption | exact cell_kept hb (by assumption) (by first | omega | (simp; done) | (simp; omega)) | exact set_other (set_other (by assumption) _ (.inl (by first | omega | (simp; omega)))) _ (.inl (by first | omega | (simp; omega))))))
                clear hK K
                try simp only [Act.put, List.setIfInBounds_toArray, List.set_cons_zero, List.set_cons_succ]
                refine wpAnyH_take (i := 5) (oi := { dst := some 94, op := Go.Op.move (Go.Operand.tmp 99), type := 54, pos := "exact.go:3021", after := #[{ on := 4, ground := Go.Ground.data }], guard := none }) (v := ?v51) rfl (by kernel_rfl) (by kernel_rfl) (by kernel_rfl) (fun _ _ _ h => h) (Or.inl ⟨by rfl, ?y51⟩) (by assumption) ?_
                case y51 => (intro w hSw; (try dsimp only at hSw); go_simp; first | done | with_reducible rfl)
                try simp only [Act.put, List.setIfInBounds_toArray, List.set_cons_zero, List.set_cons_succ]
                refine wpAnyH_take (i := 6) (oi := { dst := some 100, op := Go.Op.extract (Go.Operand.tmp 94) 0, type := 34, pos := "exact.go:3021", after := #[{ on := 5, ground := Go.Ground.data }], guard := none }) (v := ?v52) rfl (by kernel_rfl) (by kernel_rfl) (by kernel_rfl) (fun _ _ _ h => h) (Or.inl ⟨by rfl, ?y52⟩) (by assumption) ?_
                case y52 => (intro w hSw; (try dsimp only at hSw); go_simp; first | done | with_reducible rfl)
                try simp only [Act.put, List.setIfInBounds_toArray, List.set_cons_zero, List.set_cons_succ]
                refine wpAnyH_take (i := 7) (oi := { dst := some 101, op := Go.Op.extract (Go.Operand.tmp 94) 1, type := 3, pos := "exact.go:3021", after := #[{ on := 5, ground := Go.Ground.data }, { on := 9, ground := Go.Ground.gcOnly Go.Departure.lateStores }], guard := none }) (v := ?v53) rfl (by kernel_rfl) (by kernel_rfl) (by kernel_rfl) (fun _ _ _ h => h) (Or.inl ⟨by rfl, ?y53⟩) (by assumption) ?_
                case y53 => (intro w hSw; (try dsimp only at hSw); go_simp; first | done | with_reducible rfl)
                try simp only [Act.put, List.setIfInBounds_toArray, List.set_cons_zero, List.set_cons_succ]
                refine wpAnyH_ready (rs := [9]) (by kernel_rfl) (by simp) ?_
                refine AllReadyH.cons (o := { dst := none, op := Go.Op.store 34 (Go.Operand.tmp 15) (Go.Operand.tmp 100), type := 0, pos := "exact.go:3021", after := #[{ on := 8, ground := Go.Ground.data }, { on := 6, ground := Go.Ground.data }, { on := 4, ground := Go.Ground.chain }, { on := 0, ground := Go.Ground.phase }, { on := 1, ground := Go.Ground.phase }, { on := 2, ground := Go.Ground.phase }, { on := 3, ground := Go.Ground.phase }, { on := 4, ground := Go.Ground.phase }, { on := 5, ground := Go.Ground.phase }, { on := 6, ground := Go.Ground.phase }, { on := 7, ground := Go.Ground.textOnly Go.Departure.lateStores }, { on := 8, ground := Go.Ground.phase }], guard := none }) rfl (fun K hK => ?k54) AllReadyH.nil
                obtain ⟨q0, q1, q2, q3⟩ := bx
                go_simp
                refine hK.out _ _ ?s54 (fun hHeld => ?_)
                case s54 => ((try dsimp only); (go_split_ands; (repeat' apply And.intro) <;> (first | assumption | exact cell_kept hb (by assumption) (by first | omega | (simp; done) | (simp; omega)) | exact set_other (set_other (by assumption) _ (.inl (by first | omega | (simp; omega)))) _ (.inl (by first | omega | (simp; omega))))))
                clear hK K
                try simp only [Act.put]
                refine wpAnyH_take (i := 10) (oi := { dst := some 16, op := Go.Op.assign (Go.Operand.tmp 101), type := 3, pos := "exact.go:3021", after := #[{ on := 7, ground := Go.Ground.data }, { on := 9, ground := Go.Ground.chain }, { on := 0, ground := Go.Ground.phase }, { on := 1, ground := Go.Ground.phase }, { on := 2, ground := Go.Ground.phase }, { on := 3, ground := Go.Ground.phase }, { on := 4, ground := Go.Ground.phase }, { on := 5, ground := Go.Ground.phase }, { on := 6, ground := Go.Ground.phase }, { on := 7, ground := Go.Ground.phase }, { on := 8, ground := Go.Ground.phase }, { on := 9, ground := Go.Ground.phase }], guard := none }) (v := ?v55) rfl (by kernel_rfl) (by kernel_rfl) (by kernel_rfl) (fun _ _ _ h => h) (Or.inl ⟨by rfl, ?y55⟩) (by assumption) ?_
                case y55 => (intro w hSw; (try dsimp only at hSw); go_simp; first | done | with_reducible rfl)
                try simp only [Act.put, List.setIfInBounds_toArray, List.set_cons_zero, List.set_cons_succ]
                refine wpAnyH_done (by kernel_rfl) ?_ _
                go_wp2_with fail
                go_meet
                exact ⟨rfl, MidPost.mk r HNR.out (fun k hk => by have := Own.blk r k hk; omega) hE4 (by omega) (by omega) ⟨q0, q1, q2, q3⟩⟩
          case m41 =>
            refine AllReadyH.cons (o := { dst := some 15, op := Go.Op.alloc 34, type := 0, pos := "exact.go:3021", after := #[], guard := none }) rfl (fun K hK => ?k56) AllReadyH.nil
            case k56 =>
              go_simp
              have bx := var4 va (.int .i64 0) (.slice none 0 0) 34 (g := va.heap.size) rfl
              have hb : Below va.heap.size va (va.alloc (.cells #[.int .i64 0, .slice none 0 0] 34)) := (Below.refl _ _).alloc (Nat.le_refl _) _
              have hxs : (va.alloc (.cells #[.int .i64 0, .slice none 0 0] 34)).heap.size = va.heap.size + 1 := (by simp)
              generalize (va.alloc (.cells #[.int .i64 0, .slice none 0 0] 34)) = vax at *
              have hB2 : Below W.heap.size W vax := hB1.trans (hb.mono hB1.size)
              have hE2 : Eff 0 0 w23 vax := hE1.trans (Eff.of hb)
              have hZ2 : va.heap.size ≤ vax.heap.size := hb.size
              replace ta := Own.keep ta (Eff.of hb) (.inr (.inr (Nat.le_refl _)))
              refine hK.out _ _ ?s56 (fun hHeld => ?_)
              case s56 => ((try dsimp only); (go_split_ands; (repeat' apply And.intro) <;> (first | assumption | exact cell_kept hb (by assumption) (by first | omega | (simp; done) | (simp; omega)) | exact set_other (set_other (by assumption) _ (.inl (by first | omega | (simp; omega)))) _ (.inl (by first | omega | (simp; omega))))))
              clear hK K
              try simp only [Act.put, List.setIfInBounds_toArray, List.set_cons_zero, List.set_cons_succ]
              refine wpAnyH_ready (rs := [3]) (by kernel_rfl) (by simp) ?_
              refine AllReadyH.cons (o := { dst := some 98, op := Go.Op.call { callee := Go.Callee.value (Go.Operand.func 24), args := #[Go.Operand.tmp 97], argTypes := #[39] }, type := 43, pos := "exact.go:3021", after := #[{ on := 2, ground := Go.Ground.data }, { on := 1, ground := Go.Ground.chain }], guard := none }) rfl (fun K hK => ?k57) AllReadyH.nil
              go_simp
              go_at_call 24
              refine (toPosting_any p A' n' c' ps vax ((Rd.keep hr' (fun p hp => (hB2.cell hp).trans (b23.cell hp).symm)).more hB2.size) (by omega)).mono ?_
              rintro e vaxb ⟨Atb, ctb, rfl, tb, hb⟩
              have hB3 : Below W.heap.size W vaxb := hB2.trans (hb.mono hB2.size)
              have hE3 : Eff 0 0 w23 vaxb := hE2.trans (Eff.of hb)
              have hZ3 : vax.heap.size ≤ vaxb.heap.size := hb.size
              replace ta := Own.keep ta (Eff.of hb) (.inr (.inr (Nat.le_refl _)))
              replace bx := bx.eff (Eff.of hb) (.inr (Nat.zero_le _))
              refine hK.out _ _ ?s57 (fun hHeld => ?_)
              case s57 => ((try dsimp only); (go_split_ands; (repeat' apply And.intro) <;> (first | assumption | exact cell_kept hb (by assumption) (by first | omega | (simp; done) | (simp; omega)) | exact set_other (set_other (by assumption) _ (.inl (by first | omega | (simp; omega)))) _ (.inl (by first | omega | (simp; omega))))))
              clear hK K
              try simp only [Act.put, List.setIfInBounds_toArray, List.set_cons_zero, List.set_cons_succ]
              refine wpAnyH_ready (rs := [4]) (by kernel_rfl) (by simp) ?_
              refine AllReadyH.cons (o := { dst := some 99, op := Go.Op.call { callee := Go.Callee.value (Go.Operand.func 33), args := #[Go.Operand.tmp 96, Go.Operand.tmp 98], argTypes := #[34, 43] }, type := 54, pos := "exact.go:3021", after := #[{ on := 1, ground := Go.Ground.data }, { on := 3, ground := Go.Ground.data }, { on := 3, ground := Go.Ground.chain }], guard := none }) rfl (fun K hK => ?k58) AllReadyH.nil
              go_simp
              go_at_call 33
              refine (impl_PostR HQ.out HR.out HC.out _ n _ _ n' _ vaxb (Own.rd ta (Own.le ta)) (Own.rd tb (Own.le tb)) (by omega) (by omega) (Own.caps ta) (Own.caps tb)).mono ?_
              rintro e vaxbp ⟨Ar, nr, cr, hnr, rfl, r, hb⟩
              have HNR := Lib.hid hnr
              clear hnr
              have hB4 : Below W.heap.size W vaxbp := hB3.trans (hb.mono hB3.size)
              have hE4 : Eff 0 0 w23 vaxbp := hE3.trans (Eff.of hb)
              have hZ4 : vaxb.heap.size ≤ vaxbp.heap.size := hb.size
              replace ta := Own.keep ta (Eff.of hb) (.inr (.inr (Nat.le_refl _)))
              replace bx := bx.eff (Eff.of hb) (.inr (Nat.zero_le _))
              replace tb := Own.keep tb (Eff.of hb) (.inr (.inr (Nat.le_refl _)))
              refine hK.out _ _ ?s58 (fun hHeld => ?_)
              case s58 => ((try dsimp only); (go_split_ands; (repeat' apply And.intro) <;> (first | assumption | exact cell_kept hb (by assumption) (by first | omega | (simp; done) | (simp; omega)) | exact set_other (set_other (by assumption) _ (.inl (by first | omega | (simp; omega)))) _ (.inl (by first | omega | (simp; omega))))))
              clear hK K
              try simp only [Act.put, List.setIfInBounds_toArray, List.set_cons_zero, List.set_cons_succ]
              refine wpAnyH_take (i := 5) (oi := { dst := some 94, op := Go.Op.move (Go.Operand.tmp 99), type := 54, pos := "exact.go:3021", after := #[{ on := 4, ground := Go.Ground.data }], guard := none }) (v := ?v59) rfl (by kernel_rfl) (by kernel_rfl) (by kernel_rfl) (fun _ _ _ h => h) (Or.inl ⟨by rfl, ?y59⟩) (by assumption) ?_
              case y59 => (intro w hSw; (try dsimp only at hSw); go_simp; first | done | with_reducible rfl)
              try simp only [Act.put, List.setIfInBounds_toArray, List.set_cons_zero, List.set_cons_succ]
              refine wpAnyH_take (i := 6) (oi := { dst := some 100, op := Go.Op.extract (Go.Operand.tmp 94) 0, type := 34, pos := "exact.go:3021", after := #[{ on := 5, ground := Go.Ground.data }], guard := none }) (v := ?v60) rfl (by kernel_rfl) (by kernel_rfl) (by kernel_rfl) (fun _ _ _ h => h) (Or.inl ⟨by rfl, ?y60⟩) (by assumption) ?_
              case y60 => (intro w hSw; (try dsimp only at hSw); go_simp; first | done | with_reducible rfl)
              try simp only [Act.put, List.setIfInBounds_toArray, List.set_cons_zero, List.set_cons_succ]
              refine wpAnyH_take (i := 7) (oi := { dst := some 101, op := Go.Op.extract (Go.Operand.tmp 94) 1, type := 3, pos := "exact.go:3021", after := #[{ on := 5, ground := Go.Ground.data }, { on := 9, ground := Go.Ground.gcOnly Go.Departure.lateStores }], guard := none }) (v := ?v61) rfl (by kernel_rfl) (by kernel_rfl) (by kernel_rfl) (fun _ _ _ h => h) (Or.inl ⟨by rfl, ?y61⟩) (by assumption) ?_
              case y61 => (intro w hSw; (try dsimp only at hSw); go_simp; first | done | with_reducible rfl)
              try simp only [Act.put, List.setIfInBounds_toArray, List.set_cons_zero, List.set_cons_succ]
              refine wpAnyH_ready (rs := [9]) (by kernel_rfl) (by simp) ?_
              refine AllReadyH.cons (o := { dst := none, op := Go.Op.store 34 (Go.Operand.tmp 15) (Go.Operand.tmp 100), type := 0, pos := "exact.go:3021", after := #[{ on := 8, ground := Go.Ground.data }, { on := 6, ground := Go.Ground.data }, { on := 4, ground := Go.Ground.chain }, { on := 0, ground := Go.Ground.phase }, { on := 1, ground := Go.Ground.phase }, { on := 2, ground := Go.Ground.phase }, { on := 3, ground := Go.Ground.phase }, { on := 4, ground := Go.Ground.phase }, { on := 5, ground := Go.Ground.phase }, { on := 6, ground := Go.Ground.phase }, { on := 7, ground := Go.Ground.textOnly Go.Departure.lateStores }, { on := 8, ground := Go.Ground.phase }], guard := none }) rfl (fun K hK => ?k62) AllReadyH.nil
              obtain ⟨q0, q1, q2, q3⟩ := bx
              go_simp
              refine hK.out _ _ ?s62 (fun hHeld => ?_)
              case s62 => ((try dsimp only); (go_split_ands; (repeat' apply And.intro) <;> (first | assumption | exact cell_kept hb (by assumption) (by first | omega | (simp; done) | (simp; omega)) | exact set_other (set_other (by assumption) _ (.inl (by first | omega | (simp; omega)))) _ (.inl (by first | omega | (simp; omega))))))
              clear hK K
              try simp only [Act.put]
              refine wpAnyH_take (i := 10) (oi := { dst := some 16, op := Go.Op.assign (Go.Operand.tmp 101), type := 3, pos := "exact.go:3021", after := #[{ on := 7, ground := Go.Ground.data }, { on := 9, ground := Go.Ground.chain }, { on := 0, ground := Go.Ground.phase }, { on := 1, ground := Go.Ground.phase }, { on := 2, ground := Go.Ground.phase }, { on := 3, ground := Go.Ground.phase }, { on := 4, ground := Go.Ground.phase }, { on := 5, ground := Go.Ground.phase }, { on := 6, ground := Go.Ground.phase }, { on := 7, ground := Go.Ground.phase }, { on := 8, ground := Go.Ground.phase }, { on := 9, ground := Go.Ground.phase }], guard := none }) (v := ?v63) rfl (by kernel_rfl) (by kernel_rfl) (by kernel_rfl) (fun _ _ _ h => h) (Or.inl ⟨by rfl, ?y63⟩) (by assumption) ?_
              case y63 => (intro w hSw; (try dsimp only at hSw); go_simp; first | done | with_reducible rfl)
              try simp only [Act.put, List.setIfInBounds_toArray, List.set_cons_zero, List.set_cons_succ]
              refine wpAnyH_done (by kernel_rfl) ?_ _
              go_wp2_with fail
              go_meet
              exact ⟨rfl, MidPost.mk r HNR.out (fun k hk => by have := Own.blk r k hk; omega) hE4 (by omega) (by omega) ⟨q0, q1, q2, q3⟩⟩
        case m40 =>
          refine AllReadyH.cons (o := { dst := some 15, op := Go.Op.alloc 34, type := 0, pos := "exact.go:3021", after := #[], guard := none }) rfl (fun K hK => ?k64) AllReadyH.nil
          case k64 =>
            go_simp
            have bx := var4 v0 (.int .i64 0) (.slice none 0 0) 34 (g := v0.heap.size) rfl
            have hb : Below v0.heap.size v0 (v0.alloc (.cells #[.int .i64 0, .slice none 0 0] 34)) := (Below.refl _ _).alloc (Nat.le_refl _) _
            have hxs : (v0.alloc (.cells #[.int .i64 0, .slice none 0 0] 34)).heap.size = v0.heap.size + 1 := (by simp)
            generalize (v0.alloc (.cells #[.int .i64 0, .slice none 0 0] 34)) = vx at *
            have hB1 : Below W.heap.size W vx := hB0.trans (hb.mono hB0.size)
            have hE1 : Eff 0 0 w23 vx := hE0.trans (Eff.of hb)
            have hZ1 : v0.heap.size ≤ vx.heap.size := hb.size
            refine hK.out _ _ ?s64 (fun hHeld => ?_)
            case s64 => ((try dsimp only); (go_split_ands; (repeat' apply And.intro) <;> (first | assumption | exact cell_kept hb (by assumption) (by first | omega | (simp; done) | (simp; omega)) | exact set_other (set_other (by assumption) _ (.inl (by first | omega | (simp; omega)))) _ (.inl (by first | omega | (simp; omega))))))
            clear hK K
            try simp only [Act.put, List.setIfInBounds_toArray, List.set_cons_zero, List.set_cons_succ]
            refine wpAnyH_ready (rs := [1]) (by kernel_rfl) (by simp) ?_
            refine AllReadyH.cons (o := { dst := some 96, op := Go.Op.call { callee := Go.Callee.value (Go.Operand.func 19), args := #[Go.Operand.tmp 95], argTypes := #[30] }, type := 34, pos := "exact.go:3021", after := #[{ on := 0, ground := Go.Ground.data }], guard := none }) rfl (fun K hK => ?k65) AllReadyH.nil
            go_simp
            go_at_call 19
            refine (toLedger_any q A n c ls vx ((Rd.keep hr (fun p hp => (hB1.cell hp).trans (b23.cell hp).symm)).more hB1.size) (by omega)).mono ?_
            rintro e vxa ⟨Ata, cta, rfl, ta, hb⟩
            have hB2 : Below W.heap.size W vxa := hB1.trans (hb.mono hB1.size)
            have hE2 : Eff 0 0 w23 vxa := hE1.trans (Eff.of hb)
            have hZ2 : vx.heap.size ≤ vxa.heap.size := hb.size
            replace bx := bx.eff (Eff.of hb) (.inr (Nat.zero_le _))
            refine hK.out _ _ ?s65 (fun hHeld => ?_)
            case s65 => ((try dsimp only); (go_split_ands; (repeat' apply And.intro) <;> (first | assumption | exact cell_kept hb (by assumption) (by first | omega | (simp; done) | (simp; omega)) | exact set_other (set_other (by assumption) _ (.inl (by first | omega | (simp; omega)))) _ (.inl (by first | omega | (simp; omega))))))
            clear hK K
            try simp only [Act.put, List.setIfInBounds_toArray, List.set_cons_zero, List.set_cons_succ]
            refine wpAnyH_ready (rs := [3]) (by kernel_rfl) (by simp) ?_
            refine AllReadyH.cons (o := { dst := some 98, op := Go.Op.call { callee := Go.Callee.value (Go.Operand.func 24), args := #[Go.Operand.tmp 97], argTypes := #[39] }, type := 43, pos := "exact.go:3021", after := #[{ on := 2, ground := Go.Ground.data }, { on := 1, ground := Go.Ground.chain }], guard := none }) rfl (fun K hK => ?k66) AllReadyH.nil
            go_simp
            go_at_call 24
            refine (toPosting_any p A' n' c' ps vxa ((Rd.keep hr' (fun p hp => (hB2.cell hp).trans (b23.cell hp).symm)).more hB2.size) (by omega)).mono ?_
            rintro e vxab ⟨Atb, ctb, rfl, tb, hb⟩
            have hB3 : Below W.heap.size W vxab := hB2.trans (hb.mono hB2.size)
            have hE3 : Eff 0 0 w23 vxab := hE2.trans (Eff.of hb)
            have hZ3 : vxa.heap.size ≤ vxab.heap.size := hb.size
            replace bx := bx.eff (Eff.of hb) (.inr (Nat.zero_le _))
            replace ta := Own.keep ta (Eff.of hb) (.inr (.inr (Nat.le_refl _)))
            refine hK.out _ _ ?s66 (fun hHeld => ?_)
            case s66 => ((try dsimp only); (go_split_ands; (repeat' apply And.intro) <;> (first | assumption | exact cell_kept hb (by assumption) (by first | omega | (simp; done) | (simp; omega)) | exact set_other (set_other (by assumption) _ (.inl (by first | omega | (simp; omega)))) _ (.inl (by first | omega | (simp; omega))))))
            clear hK K
            try simp only [Act.put, List.setIfInBounds_toArray, List.set_cons_zero, List.set_cons_succ]
            refine wpAnyH_ready (rs := [4]) (by kernel_rfl) (by simp) ?_
            refine AllReadyH.cons (o := { dst := some 99, op := Go.Op.call { callee := Go.Callee.value (Go.Operand.func 33), args := #[Go.Operand.tmp 96, Go.Operand.tmp 98], argTypes := #[34, 43] }, type := 54, pos := "exact.go:3021", after := #[{ on := 1, ground := Go.Ground.data }, { on := 3, ground := Go.Ground.data }, { on := 3, ground := Go.Ground.chain }], guard := none }) rfl (fun K hK => ?k67) AllReadyH.nil
            go_simp
            go_at_call 33
            refine (impl_PostR HQ.out HR.out HC.out _ n _ _ n' _ vxab (Own.rd ta (Own.le ta)) (Own.rd tb (Own.le tb)) (by omega) (by omega) (Own.caps ta) (Own.caps tb)).mono ?_
            rintro e vxabp ⟨Ar, nr, cr, hnr, rfl, r, hb⟩
            have HNR := Lib.hid hnr
            clear hnr
            have hB4 : Below W.heap.size W vxabp := hB3.trans (hb.mono hB3.size)
            have hE4 : Eff 0 0 w23 vxabp := hE3.trans (Eff.of hb)
            have hZ4 : vxab.heap.size ≤ vxabp.heap.size := hb.size
            replace bx := bx.eff (Eff.of hb) (.inr (Nat.zero_le _))
            replace ta := Own.keep ta (Eff.of hb) (.inr (.inr (Nat.le_refl _)))
            replace tb := Own.keep tb (Eff.of hb) (.inr (.inr (Nat.le_refl _)))
            refine hK.out _ _ ?s67 (fun hHeld => ?_)
            case s67 => ((try dsimp only); (go_split_ands; (repeat' apply And.intro) <;> (first | assumption | exact cell_kept hb (by assumption) (by first | omega | (simp; done) | (simp; omega)) | exact set_other (set_other (by assumption) _ (.inl (by first | omega | (simp; omega)))) _ (.inl (by first | omega | (simp; omega))))))
            clear hK K
            try simp only [Act.put, List.setIfInBounds_toArray, List.set_cons_zero, List.set_cons_succ]
            refine wpAnyH_take (i := 5) (oi := { dst := some 94, op := Go.Op.move (Go.Operand.tmp 99), type := 54, pos := "exact.go:3021", after := #[{ on := 4, ground := Go.Ground.data }], guard := none }) (v := ?v68) rfl (by kernel_rfl) (by kernel_rfl) (by kernel_rfl) (fun _ _ _ h => h) (Or.inl ⟨by rfl, ?y68⟩) (by assumption) ?_
            case y68 => (intro w hSw; (try dsimp only at hSw); go_simp; first | done | with_reducible rfl)
            try simp only [Act.put, List.setIfInBounds_toArray, List.set_cons_zero, List.set_cons_succ]
            refine wpAnyH_take (i := 6) (oi := { dst := some 100, op := Go.Op.extract (Go.Operand.tmp 94) 0, type := 34, pos := "exact.go:3021", after := #[{ on := 5, ground := Go.Ground.data }], guard := none }) (v := ?v69) rfl (by kernel_rfl) (by kernel_rfl) (by kernel_rfl) (fun _ _ _ h => h) (Or.inl ⟨by rfl, ?y69⟩) (by assumption) ?_
            case y69 => (intro w hSw; (try dsimp only at hSw); go_simp; first | done | with_reducible rfl)
            try simp only [Act.put, List.setIfInBounds_toArray, List.set_cons_zero, List.set_cons_succ]
            refine wpAnyH_take (i := 7) (oi := { dst := some 101, op := Go.Op.extract (Go.Operand.tmp 94) 1, type := 3, pos := "exact.go:3021", after := #[{ on := 5, ground := Go.Ground.data }, { on := 9, ground := Go.Ground.gcOnly Go.Departure.lateStores }], guard := none }) (v := ?v70) rfl (by kernel_rfl) (by kernel_rfl) (by kernel_rfl) (fun _ _ _ h => h) (Or.inl ⟨by rfl, ?y70⟩) (by assumption) ?_
            case y70 => (intro w hSw; (try dsimp only at hSw); go_simp; first | done | with_reducible rfl)
            try simp only [Act.put, List.setIfInBounds_toArray, List.set_cons_zero, List.set_cons_succ]
            refine wpAnyH_ready (rs := [9]) (by kernel_rfl) (by simp) ?_
            refine AllReadyH.cons (o := { dst := none, op := Go.Op.store 34 (Go.Operand.tmp 15) (Go.Operand.tmp 100), type := 0, pos := "exact.go:3021", after := #[{ on := 8, ground := Go.Ground.data }, { on := 6, ground := Go.Ground.data }, { on := 4, ground := Go.Ground.chain }, { on := 0, ground := Go.Ground.phase }, { on := 1, ground := Go.Ground.phase }, { on := 2, ground := Go.Ground.phase }, { on := 3, ground := Go.Ground.phase }, { on := 4, ground := Go.Ground.phase }, { on := 5, ground := Go.Ground.phase }, { on := 6, ground := Go.Ground.phase }, { on := 7, ground := Go.Ground.textOnly Go.Departure.lateStores }, { on := 8, ground := Go.Ground.phase }], guard := none }) rfl (fun K hK => ?k71) AllReadyH.nil
            obtain ⟨q0, q1, q2, q3⟩ := bx
            go_simp
            refine hK.out _ _ ?s71 (fun hHeld => ?_)
            case s71 => ((try dsimp only); (go_split_ands; (repeat' apply And.intro) <;> (first | assumption | exact cell_kept hb (by assumption) (by first | omega | (simp; done) | (simp; omega)) | exact set_other (set_other (by assumption) _ (.inl (by first | omega | (simp; omega)))) _ (.inl (by first | omega | (simp; omega))))))
            clear hK K
            try simp only [Act.put]
            refine wpAnyH_take (i := 10) (oi := { dst := some 16, op := Go.Op.assign (Go.Operand.tmp 101), type := 3, pos := "exact.go:3021", after := #[{ on := 7, ground := Go.Ground.data }, { on := 9, ground := Go.Ground.chain }, { on := 0, ground := Go.Ground.phase }, { on := 1, ground := Go.Ground.phase }, { on := 2, ground := Go.Ground.phase }, { on := 3, ground := Go.Ground.phase }, { on := 4, ground := Go.Ground.phase }, { on := 5, ground := Go.Ground.phase }, { on := 6, ground := Go.Ground.phase }, { on := 7, ground := Go.Ground.phase }, { on := 8, ground := Go.Ground.phase }, { on := 9, ground := Go.Ground.phase }], guard := none }) (v := ?v72) rfl (by kernel_rfl) (by kernel_rfl) (by kernel_rfl) (fun _ _ _ h => h) (Or.inl ⟨by rfl, ?y72⟩) (by assumption) ?_
            case y72 => (intro w hSw; (try dsimp only at hSw); go_simp; first | done | with_reducible rfl)
            try simp only [Act.put, List.setIfInBounds_toArray, List.set_cons_zero, List.set_cons_succ]
            refine wpAnyH_done (by kernel_rfl) ?_ _
            go_wp2_with fail
            go_meet
            exact ⟨rfl, MidPost.mk r HNR.out (fun k hk => by have := Own.blk r k hk; omega) hE4 (by omega) (by omega) ⟨q0, q1, q2, q3⟩⟩
      case rest =>
        obtain ⟨rfl, gh0, AH0, nH0, cH0, loH0, hiH0, rfl, hnH0, hg1h0, hgxh0, hneh0, hloH0, hQh0, H0, hEh0⟩ := hcut
        rw [HN.out] at hnH0
        obtain rfl : N = nH0 := hnH0.symm
        clear hnH0
        obtain ⟨wn, rfl⟩ : ∃ x : World, x = wc := ⟨wc, rfl⟩
        have he24 : Eff 0 0 w23 wn := hEh0
        have hz24 : w23.heap.size ≤ wn.heap.size := he24.size
        have b24 : Below W.heap.size W wn := b23.trans (he24.below b23.size (by omega))
        replace hr := (hr.below (he24.below (B := W.heap.size) (by omega) (by omega)) (Nat.le_refl _))
        replace hr' := (hr'.below (he24.below (B := W.heap.size) (by omega) (by omega)) (Nat.le_refl _))
        replace W0 := Own.keep W0 he24 (by omega)
        replace r := Own.keep r he24 (by omega)
        replace aL_0 := he24.cell aL_0 (by simp only; omega)
        replace aL_1 := he24.cell aL_1 (by simp only; omega)
        replace aP_0 := he24.cell aP_0 (by simp only; omega)
        replace aP_1 := he24.cell aP_1 (by simp only; omega)
        replace w0_0 := he24.cell w0_0 (by simp only; omega)
        replace w0_1 := he24.cell w0_1 (by simp only; omega)
        replace g0_0 := he24.cell g0_0 (by simp only; omega)
        replace g0_1 := he24.cell g0_1 (by simp only; omega)
        replace aL_l := Nat.lt_of_lt_of_le aL_l hz24
        replace aP_l := Nat.lt_of_lt_of_le aP_l hz24
        replace w0_l := Nat.lt_of_lt_of_le w0_l hz24
        replace g0_l := Nat.lt_of_lt_of_le g0_l hz24
        have hleH0 := Own.le H0
        obtain ⟨h0_0, h0_1, -, -⟩ := hQh0
        have h0_l : gh0 < wn.heap.size := hgxh0
        clear hEh0
        go_wp2_with fail
        refine (eqLedger_same Q _ N _ _ N _ R wn (Own.rd H0 (by omega)) (Own.rd W0 (by omega)) (by omega)).mono ?_
        rintro e w25 ⟨rfl, hb⟩
        have he25 : Eff 0 0 wn w25 := Eff.of hb
        have hz25 : wn.heap.size ≤ w25.heap.size := he25.size
        have b25 : Below W.heap.size W w25 := b24.trans (he25.below b24.size (by omega))
        replace hr := (hr.below (he25.below (B := W.heap.size) (by omega) (by omega)) (Nat.le_refl _))
        replace hr' := (hr'.below (he25.below (B := W.heap.size) (by omega) (by omega)) (Nat.le_refl _))
        replace W0 := Own.keep W0 he25 (by omega)
        replace r := Own.keep r he25 (by omega)
        replace H0 := Own.keep H0 he25 (by omega)
        replace aL_0 := he25.cell aL_0 (by simp only; omega)
        replace aL_1 := he25.cell aL_1 (by simp only; omega)
        replace aP_0 := he25.cell aP_0 (by simp only; omega)
        replace aP_1 := he25.cell aP_1 (by simp only; omega)
        replace w0_0 := he25.cell w0_0 (by simp only; omega)
        replace w0_1 := he25.cell w0_1 (by simp only; omega)
        replace g0_0 := he25.cell g0_0 (by simp only; omega)
        replace g0_1 := he25.cell g0_1 (by simp only; omega)
        replace h0_0 := he25.cell h0_0 (by simp only; omega)
        replace h0_1 := he25.cell h0_1 (by simp only; omega)
        replace aL_l := Nat.lt_of_lt_of_le aL_l hz25
        replace aP_l := Nat.lt_of_lt_of_le aP_l hz25
        replace w0_l := Nat.lt_of_lt_of_le w0_l hz25
        replace g0_l := Nat.lt_of_lt_of_le g0_l hz25
        replace h0_l := Nat.lt_of_lt_of_le h0_l hz25
        clear hb
        go_wp2_with fail
        refine (heldLedger_z Q _ N _ 1 w25 (Own.rd r (by omega)) (by omega) (by omega) _ rfl).mono ?_
        rintro e w26 ⟨rfl, hb⟩
        have he26 : Eff 0 0 w25 w26 := Eff.of hb
        have hz26 : w25.heap.size ≤ w26.heap.size := he26.size
        have b26 : Below W.heap.size W w26 := b25.trans (he26.below b25.size (by omega))
        replace hr := (hr.below (he26.below (B := W.heap.size) (by omega) (by omega)) (Nat.le_refl _))
        replace hr' := (hr'.below (he26.below (B := W.heap.size) (by omega) (by omega)) (Nat.le_refl _))
        replace W0 := Own.keep W0 he26 (by omega)
        replace r := Own.keep r he26 (by omega)
        replace H0 := Own.keep H0 he26 (by omega)
        replace aL_0 := he26.cell aL_0 (by simp only; omega)
        replace aL_1 := he26.cell aL_1 (by simp only; omega)
        replace aP_0 := he26.cell aP_0 (by simp only; omega)
        replace aP_1 := he26.cell aP_1 (by simp only; omega)
        replace w0_0 := he26.cell w0_0 (by simp only; omega)
        replace w0_1 := he26.cell w0_1 (by simp only; omega)
        replace g0_0 := he26.cell g0_0 (by simp only; omega)
        replace g0_1 := he26.cell g0_1 (by simp only; omega)
        replace h0_0 := he26.cell h0_0 (by simp only; omega)
        replace h0_1 := he26.cell h0_1 (by simp only; omega)
        replace aL_l := Nat.lt_of_lt_of_le aL_l hz26
        replace aP_l := Nat.lt_of_lt_of_le aP_l hz26
        replace w0_l := Nat.lt_of_lt_of_le w0_l hz26
        replace g0_l := Nat.lt_of_lt_of_le g0_l hz26
        replace h0_l := Nat.lt_of_lt_of_le h0_l hz26
        clear hb
        go_wp2_with fail
        go_ret
        exact ⟨rfl, b26⟩
end Go.Proofs.Ytgjphejmppehjaa
