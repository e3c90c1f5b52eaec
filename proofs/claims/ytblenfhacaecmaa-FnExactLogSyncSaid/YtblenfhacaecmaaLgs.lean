/- Logs: a disk and two integers: LogSync (program, reference). -/
import Derived.Test.YtblenfhacaecmaaLog
import Derived.Deep.RegionHeld3
namespace Go.Proofs.Ytblenfhacaecmaa
open Go.RowKit
theorem cell4 {w : World} {b o b' : Nat} {u v0 v1 v2 v3 : Value} (h : w.cell? ⟨b, o, none⟩ = some u) (hn : b ≠ b') : ((((w.setCell ⟨b', 0, none⟩ v0).setCell ⟨b', 1, none⟩ v1).setCell ⟨b', 2, none⟩ v2).setCell ⟨b', 3, none⟩ v3).cell? ⟨b, o, none⟩ = some u := set_other (set_other (set_other (set_other h _ (.inl hn)) _ (.inl hn)) _ (.inl hn)) _ (.inl hn)
set_option maxHeartbeats 2000000 in
set_option maxRecDepth 100000 in
theorem impl_LogSync_d (Ac : Option Addr) (nc cc : Nat) (Aw : Option Addr) (nw cw : Nat) (dc : List (List UInt8)) (dw : List (Int × List UInt8)) (x y : Int) (W : World) (hd : RdDk W W.heap.size Ac nc Aw nw dc dw) (LB : lenB dc dw) :
    Calls Try.prog 39 #[.agg #[.slice Ac nc cc, .slice Aw nw cw, .int .i64 x, .int .i64 y]] W (MadeLg (if dkOk dc dw then syncN dc dw dw.length else []) [] (if dkOk dc dw then x else 0) (if dkOk dc dw then y else 0) W) := by
  rcases hok : dkOk dc dw with _ | _
  · rw [if_neg (by simp), if_neg (by simp), if_neg (by simp)]
    go_enter Try.func39, Try.ntmps39
    go_wp2_with fail
    have he1 : Eff 0 0 W (W.alloc (.cells #[.slice Ac nc cc, .slice Aw nw cw, .int .i64 x, .int .i64 y] 60)) := Eff.alloc _ _
    have hs1 : (W.alloc (.cells #[.slice Ac nc cc, .slice Aw nw cw, .int .i64 x, .int .i64 y] 60)).heap.size = W.heap.size + 1 := (by simp)
    have aL_0 : (W.alloc (.cells #[.slice Ac nc cc, .slice Aw nw cw, .int .i64 x, .int .i64 y] 60)).cell? ⟨W.heap.size, 0, none⟩ = some (.slice Ac nc cc) := var_cell _ _ _ _ _ rfl
    have aL_1 : (W.alloc (.cells #[.slice Ac nc cc, .slice Aw nw cw, .int .i64 x, .int .i64 y] 60)).cell? ⟨W.heap.size, 1, none⟩ = some (.slice Aw nw cw) := var_cell _ _ _ _ _ rfl
    have aL_2 : (W.alloc (.cells #[.slice Ac nc cc, .slice Aw nw cw, .int .i64 x, .int .i64 y] 60)).cell? ⟨W.heap.size, 2, none⟩ = some (.int .i64 x) := var_cell _ _ _ _ _ rfl
    have aL_3 : (W.alloc (.cells #[.slice Ac nc cc, .slice Aw nw cw, .int .i64 x, .int .i64 y] 60)).cell? ⟨W.heap.size, 3, none⟩ = some (.int .i64 y) := var_cell _ _ _ _ _ rfl
    generalize (W.alloc (.cells #[.slice Ac nc cc, .slice Aw nw cw, .int .i64 x, .int .i64 y] 60)) = w1 at *
    have hz1 : W.heap.size ≤ w1.heap.size := he1.size
    have b1 : Below W.heap.size W w1 := he1.below (Nat.le_refl _) (by omega)
    replace hd := (hd.below (he1.below (B := W.heap.size) (by omega) (by omega)) (Nat.le_refl _))
    have aL_l : W.heap.size < w1.heap.size := (by omega)
    have he2 : Eff 0 0 w1 (w1.alloc (.cells #[.slice none 0 0, .slice none 0 0, .int .i64 0, .int .i64 0] 60)) := Eff.alloc _ _
    have hs2 : (w1.alloc (.cells #[.slice none 0 0, .slice none 0 0, .int .i64 0, .int .i64 0] 60)).heap.size = w1.heap.size + 1 := (by simp)
    have res_0 : (w1.alloc (.cells #[.slice none 0 0, .slice none 0 0, .int .i64 0, .int .i64 0] 60)).cell? ⟨w1.heap.size, 0, none⟩ = some (.slice none 0 0) := var_cell _ _ _ _ _ rfl
    have res_1 : (w1.alloc (.cells #[.slice none 0 0, .slice none 0 0, .int .i64 0, .int .i64 0] 60)).cell? ⟨w1.heap.size, 1, none⟩ = some (.slice none 0 0) := var_cell _ _ _ _ _ rfl
    have res_2 : (w1.alloc (.cells #[.slice none 0 0, .slice none 0 0, .int .i64 0, .int .i64 0] 60)).cell? ⟨w1.heap.size, 2, none⟩ = some (.int .i64 0) := var_cell _ _ _ _ _ rfl
    have res_3 : (w1.alloc (.cells #[.slice none 0 0, .slice none 0 0, .int .i64 0, .int .i64 0] 60)).cell? ⟨w1.heap.size, 3, none⟩ = some (.int .i64 0) := var_cell _ _ _ _ _ rfl
    have res_f0 : (w1.alloc (.cells #[.slice none 0 0, .slice none 0 0, .int .i64 0, .int .i64 0] 60)).frozen? ⟨w1.heap.size, 0, none⟩ = false := var_frozen _ _ _ _
    have res_f1 : (w1.alloc (.cells #[.slice none 0 0, .slice none 0 0, .int .i64 0, .int .i64 0] 60)).frozen? ⟨w1.heap.size, 1, none⟩ = false := var_frozen _ _ _ _
    have res_f2 : (w1.alloc (.cells #[.slice none 0 0, .slice none 0 0, .int .i64 0, .int .i64 0] 60)).frozen? ⟨w1.heap.size, 2, none⟩ = false := var_frozen _ _ _ _
    have res_f3 : (w1.alloc (.cells #[.slice none 0 0, .slice none 0 0, .int .i64 0, .int .i64 0] 60)).frozen? ⟨w1.heap.size, 3, none⟩ = false := var_frozen _ _ _ _
    generalize (w1.alloc (.cells #[.slice none 0 0, .slice none 0 0, .int .i64 0, .int .i64 0] 60)) = w2 at *
    have hz2 : w1.heap.size ≤ w2.heap.size := he2.size
    have b2 : Below W.heap.size W w2 := b1.trans (he2.below b1.size (by omega))
    replace hd := (hd.below (he2.below (B := W.heap.size) (by omega) (by omega)) (Nat.le_refl _))
    replace aL_0 := he2.cell aL_0 (by simp only; omega)
    replace aL_1 := he2.cell aL_1 (by simp only; omega)
    replace aL_2 := he2.cell aL_2 (by simp only; omega)
    replace aL_3 := he2.cell aL_3 (by simp only; omega)
    replace aL_l := Nat.lt_of_lt_of_le aL_l hz2
    rw [hs1] at res_0 res_f0
    rw [hs1] at res_1 res_f1
    rw [hs1] at res_2 res_f2
    rw [hs1] at res_3 res_f3
    have res_l : W.heap.size + 1 < w2.heap.size := (by omega)
    refine (impl_DiskOk_d Ac nc cc Aw nw cw dc dw w2 (hd.more (by omega)) LB).mono ?_
    rintro e w3 ⟨rfl, hb⟩
    have he3 : Eff 0 0 w2 w3 := Eff.of hb
    have hz3 : w2.heap.size ≤ w3.heap.size := he3.size
    have b3 : Below W.heap.size W w3 := b2.trans (he3.below b2.size (by omega))
    replace hd := (hd.below (he3.below (B := W.heap.size) (by omega) (by omega)) (Nat.le_refl _))
    replace res_f0 := (he3.frozen res_0 (by simp only; omega)).trans res_f0
    replace res_f1 := (he3.frozen res_1 (by simp only; omega)).trans res_f1
    replace res_f2 := (he3.frozen res_2 (by simp only; omega)).trans res_f2
    replace res_f3 := (he3.frozen res_3 (by simp only; omega)).trans res_f3
    replace aL_0 := he3.cell aL_0 (by simp only; omega)
    replace aL_1 := he3.cell aL_1 (by simp only; omega)
    replace aL_2 := he3.cell aL_2 (by simp only; omega)
    replace aL_3 := he3.cell aL_3 (by simp only; omega)
    replace res_0 := he3.cell res_0 (by simp only; omega)
    replace res_1 := he3.cell res_1 (by simp only; omega)
    replace res_2 := he3.cell res_2 (by simp only; omega)
    replace res_3 := he3.cell res_3 (by simp only; omega)
    replace aL_l := Nat.lt_of_lt_of_le aL_l hz3
    replace res_l := Nat.lt_of_lt_of_le res_l hz3
    clear hb
    rw [hok]
    go_wp2_with fail
    refine bodyPost_ret (v := .agg #[.slice none 0 0, .slice none 0 0, .int .i64 0, .int .i64 0]) (by simp [results, Try.results39, go_sem, *]) rfl ?_
    exact madeLg_1 rfl rfl ⟨[], [], ⟨_, OwnR.nil (Nat.le_refl _) (Nat.le_refl _), OwnR.nil (Nat.le_refl _) (Nat.le_refl _)⟩, rfl, rfl⟩ b3 (by omega) (by omega)
  · rw [if_pos rfl, if_pos rfl, if_pos rfl]
    go_enter Try.func39, Try.ntmps39
    go_wp2_with fail
    have he1 : Eff 0 0 W (W.alloc (.cells #[.slice Ac nc cc, .slice Aw nw cw, .int .i64 x, .int .i64 y] 60)) := Eff.alloc _ _
    have hs1 : (W.alloc (.cells #[.slice Ac nc cc, .slice Aw nw cw, .int .i64 x, .int .i64 y] 60)).heap.size = W.heap.size + 1 := (by simp)
    have aL_0 : (W.alloc (.cells #[.slice Ac nc cc, .slice Aw nw cw, .int .i64 x, .int .i64 y] 60)).cell? ⟨W.heap.size, 0, none⟩ = some (.slice Ac nc cc) := var_cell _ _ _ _ _ rfl
    have aL_1 : (W.alloc (.cells #[.slice Ac nc cc, .slice Aw nw cw, .int .i64 x, .int .i64 y] 60)).cell? ⟨W.heap.size, 1, none⟩ = some (.slice Aw nw cw) := var_cell _ _ _ _ _ rfl
    have aL_2 : (W.alloc (.cells #[.slice Ac nc cc, .slice Aw nw cw, .int .i64 x, .int .i64 y] 60)).cell? ⟨W.heap.size, 2, none⟩ = some (.int .i64 x) := var_cell _ _ _ _ _ rfl
    have aL_3 : (W.alloc (.cells #[.slice Ac nc cc, .slice Aw nw cw, .int .i64 x, .int .i64 y] 60)).cell? ⟨W.heap.size, 3, none⟩ = some (.int .i64 y) := var_cell _ _ _ _ _ rfl
    generalize (W.alloc (.cells #[.slice Ac nc cc, .slice Aw nw cw, .int .i64 x, .int .i64 y] 60)) = w1 at *
    have hz1 : W.heap.size ≤ w1.heap.size := he1.size
    have b1 : Below W.heap.size W w1 := he1.below (Nat.le_refl _) (by omega)
    replace hd := (hd.below (he1.below (B := W.heap.size) (by omega) (by omega)) (Nat.le_refl _))
    have aL_l : W.heap.size < w1.heap.size := (by omega)
    have he2 : Eff 0 0 w1 (w1.alloc (.cells #[.slice none 0 0, .slice none 0 0, .int .i64 0, .int .i64 0] 60)) := Eff.alloc _ _
    have hs2 : (w1.alloc (.cells #[.slice none 0 0, .slice none 0 0, .int .i64 0, .int .i64 0] 60)).heap.size = w1.heap.size + 1 := (by simp)
    have res_0 : (w1.alloc (.cells #[.slice none 0 0, .slice none 0 0, .int .i64 0, .int .i64 0] 60)).cell? ⟨w1.heap.size, 0, none⟩ = some (.slice none 0 0) := var_cell _ _ _ _ _ rfl
    have res_1 : (w1.alloc (.cells #[.slice none 0 0, .slice none 0 0, .int .i64 0, .int .i64 0] 60)).cell? ⟨w1.heap.size, 1, none⟩ = some (.slice none 0 0) := var_cell _ _ _ _ _ rfl
    have res_2 : (w1.alloc (.cells #[.slice none 0 0, .slice none 0 0, .int .i64 0, .int .i64 0] 60)).cell? ⟨w1.heap.size, 2, none⟩ = some (.int .i64 0) := var_cell _ _ _ _ _ rfl
    have res_3 : (w1.alloc (.cells #[.slice none 0 0, .slice none 0 0, .int .i64 0, .int .i64 0] 60)).cell? ⟨w1.heap.size, 3, none⟩ = some (.int .i64 0) := var_cell _ _ _ _ _ rfl
    have res_f0 : (w1.alloc (.cells #[.slice none 0 0, .slice none 0 0, .int .i64 0, .int .i64 0] 60)).frozen? ⟨w1.heap.size, 0, none⟩ = false := var_frozen _ _ _ _
    have res_f1 : (w1.alloc (.cells #[.slice none 0 0, .slice none 0 0, .int .i64 0, .int .i64 0] 60)).frozen? ⟨w1.heap.size, 1, none⟩ = false := var_frozen _ _ _ _
    have res_f2 : (w1.alloc (.cells #[.slice none 0 0, .slice none 0 0, .int .i64 0, .int .i64 0] 60)).frozen? ⟨w1.heap.size, 2, none⟩ = false := var_frozen _ _ _ _
    have res_f3 : (w1.alloc (.cells #[.slice none 0 0, .slice none 0 0, .int .i64 0, .int .i64 0] 60)).frozen? ⟨w1.heap.size, 3, none⟩ = false := var_frozen _ _ _ _
    generalize (w1.alloc (.cells #[.slice none 0 0, .slice none 0 0, .int .i64 0, .int .i64 0] 60)) = w2 at *
    have hz2 : w1.heap.size ≤ w2.heap.size := he2.size
    have b2 : Below W.heap.size W w2 := b1.trans (he2.below b1.size (by omega))
    replace hd := (hd.below (he2.below (B := W.heap.size) (by omega) (by omega)) (Nat.le_refl _))
    replace aL_0 := he2.cell aL_0 (by simp only; omega)
    replace aL_1 := he2.cell aL_1 (by simp only; omega)
    replace aL_2 := he2.cell aL_2 (by simp only; omega)
    replace aL_3 := he2.cell aL_3 (by simp only; omega)
    replace aL_l := Nat.lt_of_lt_of_le aL_l hz2
    rw [hs1] at res_0 res_f0
    rw [hs1] at res_1 res_f1
    rw [hs1] at res_2 res_f2
    rw [hs1] at res_3 res_f3
    have res_l : W.heap.size + 1 < w2.heap.size := (by omega)
    refine (impl_DiskOk_d Ac nc cc Aw nw cw dc dw w2 (hd.more (by omega)) LB).mono ?_
    rintro e w3 ⟨rfl, hb⟩
    have he3 : Eff 0 0 w2 w3 := Eff.of hb
    have hz3 : w2.heap.size ≤ w3.heap.size := he3.size
    have b3 : Below W.heap.size W w3 := b2.trans (he3.below b2.size (by omega))
    replace hd := (hd.below (he3.below (B := W.heap.size) (by omega) (by omega)) (Nat.le_refl _))
    replace res_f0 := (he3.frozen res_0 (by simp only; omega)).trans res_f0
    replace res_f1 := (he3.frozen res_1 (by simp only; omega)).trans res_f1
    replace res_f2 := (he3.frozen res_2 (by simp only; omega)).trans res_f2
    replace res_f3 := (he3.frozen res_3 (by simp only; omega)).trans res_f3
    replace aL_0 := he3.cell aL_0 (by simp only; omega)
    replace aL_1 := he3.cell aL_1 (by simp only; omega)
    replace aL_2 := he3.cell aL_2 (by simp only; omega)
    replace aL_3 := he3.cell aL_3 (by simp only; omega)
    replace res_0 := he3.cell res_0 (by simp only; omega)
    replace res_1 := he3.cell res_1 (by simp only; omega)
    replace res_2 := he3.cell res_2 (by simp only; omega)
    replace res_3 := he3.cell res_3 (by simp only; omega)
    replace aL_l := Nat.lt_of_lt_of_le aL_l hz3
    replace res_l := Nat.lt_of_lt_of_le res_l hz3
    clear hb
    rw [hok]
    go_wp2_with fail
    have he4 : Eff 0 0 w3 w3.drew := (Eff.refl _ _ _).drew
    have hz4 : w3.heap.size ≤ w3.drew.heap.size := he4.size
    have b4 : Below W.heap.size W w3.drew := b3.trans (he4.below b3.size (by omega))
    replace hd := (hd.below (he4.below (B := W.heap.size) (by omega) (by omega)) (Nat.le_refl _))
    replace res_f0 := (he4.frozen res_0 (by simp only; omega)).trans res_f0
    replace res_f1 := (he4.frozen res_1 (by simp only; omega)).trans res_f1
    replace res_f2 := (he4.frozen res_2 (by simp only; omega)).trans res_f2
    replace res_f3 := (he4.frozen res_3 (by simp only; omega)).trans res_f3
    replace aL_0 := he4.cell aL_0 (by simp only; omega)
    replace aL_1 := he4.cell aL_1 (by simp only; omega)
    replace aL_2 := he4.cell aL_2 (by simp only; omega)
    replace aL_3 := he4.cell aL_3 (by simp only; omega)
    replace res_0 := he4.cell res_0 (by simp only; omega)
    replace res_1 := he4.cell res_1 (by simp only; omega)
    replace res_2 := he4.cell res_2 (by simp only; omega)
    replace res_3 := he4.cell res_3 (by simp only; omega)
    replace aL_l := Nat.lt_of_lt_of_le aL_l hz4
    replace res_l := Nat.lt_of_lt_of_le res_l hz4
    refine wp_region_held_drew (S := fun w' => w'.cell? ⟨W.heap.size, 0, none⟩ = some (.slice Ac nc cc) ∧ w'.cell? ⟨W.heap.size, 1, none⟩ = some (.slice Aw nw cw) ∧ w'.cell? ⟨W.heap.size, 2, none⟩ = some (.int .i64 x) ∧ w'.cell? ⟨W.heap.size, 3, none⟩ = some (.int .i64 y)) (by kernel_rfl) ?rg1 (fun hHeld => ?_)
    case rg1 => ((try dsimp only); (go_split_ands; (repeat' apply And.intro) <;> (first | with_reducible assumption | with_reducible exact cell4 (by assumption) (by omega))))
    generalize w3.drew = v0 at *
    refine wpAnyH_take (i := 0) (oi := { dst := some 8, op := Go.Op.fieldAddr 60 (Go.Operand.tmp 1) 0, type := 0, pos := "l05_log.go:94", after := #[], guard := none }) (v := ?v2) rfl (by kernel_rfl) (by kernel_rfl) (by kernel_rfl) (fun _ _ _ h => h) (Or.inl ⟨by rfl, ?y2⟩) (by assumption) ?_
    case y2 => (intro w hSw; (try dsimp only at hSw); go_simp; first | done | with_reducible rfl)
    try simp only [Act.put, List.setIfInBounds_toArray, List.set_cons_zero, List.set_cons_succ]
    refine wpAnyH_take (i := 1) (oi := { dst := some 9, op := Go.Op.load 33 (Go.Operand.tmp 8), type := 33, pos := "l05_log.go:94", after := #[{ on := 0, ground := Go.Ground.data }], guard := none }) (v := ?v3) rfl (by kernel_rfl) (by kernel_rfl) (by kernel_rfl) (fun _ _ _ h => h) (Or.inl ⟨by rfl, ?y3⟩) (by assumption) ?_
    case y3 => (intro w hSw; (try dsimp only at hSw); go_simp; first | done | with_reducible rfl)
    try simp only [Act.put, List.setIfInBounds_toArray, List.set_cons_zero, List.set_cons_succ]
    refine wpAnyH_take (i := 3) (oi := { dst := some 11, op := Go.Op.fieldAddr 60 (Go.Operand.tmp 1) 1, type := 0, pos := "l05_log.go:94", after := #[], guard := none }) (v := ?v4) rfl (by kernel_rfl) (by kernel_rfl) (by kernel_rfl) (fun _ _ _ h => h) (Or.inl ⟨by rfl, ?y4⟩) (by assumption) ?_
    case y4 => (intro w hSw; (try dsimp only at hSw); go_simp; first | done | with_reducible rfl)
    try simp only [Act.put, List.setIfInBounds_toArray, List.set_cons_zero, List.set_cons_succ]
    refine wpAnyH_take (i := 4) (oi := { dst := some 12, op := Go.Op.load 3 (Go.Operand.tmp 11), type := 3, pos := "l05_log.go:94", after := #[{ on := 3, ground := Go.Ground.data }], guard := none }) (v := ?v5) rfl (by kernel_rfl) (by kernel_rfl) (by kernel_rfl) (fun _ _ _ h => h) (Or.inl ⟨by rfl, ?y5⟩) (by assumption) ?_
    case y5 => (intro w hSw; (try dsimp only at hSw); go_simp; first | done | with_reducible rfl)
    try simp only [Act.put, List.setIfInBounds_toArray, List.set_cons_zero, List.set_cons_succ]
    refine wpAnyH_take (i := 5) (oi := { dst := some 13, op := Go.Op.fieldAddr 60 (Go.Operand.tmp 1) 2, type := 0, pos := "l05_log.go:94", after := #[], guard := none }) (v := ?v6) rfl (by kernel_rfl) (by kernel_rfl) (by kernel_rfl) (fun _ _ _ h => h) (Or.inl ⟨by rfl, ?y6⟩) (by assumption) ?_
    case y6 => (intro w hSw; (try dsimp only at hSw); go_simp; first | done | with_reducible rfl)
    try simp only [Act.put, List.setIfInBounds_toArray, List.set_cons_zero, List.set_cons_succ]
    refine wpAnyH_take (i := 6) (oi := { dst := some 14, op := Go.Op.load 3 (Go.Operand.tmp 13), type := 3, pos := "l05_log.go:94", after := #[{ on := 5, ground := Go.Ground.data }], guard := none }) (v := ?v7) rfl (by kernel_rfl) (by kernel_rfl) (by kernel_rfl) (fun _ _ _ h => h) (Or.inl ⟨by rfl, ?y7⟩) (by assumption) ?_
    case y7 => (intro w hSw; (try dsimp only at hSw); go_simp; first | done | with_reducible rfl)
    try simp only [Act.put, List.setIfInBounds_toArray, List.set_cons_zero, List.set_cons_succ]
    refine wpAnyH_ready (rs := [2]) (by kernel_rfl) (by simp) ?_
    refine AllReadyH.cons (o := { dst := some 10, op := Go.Op.call { callee := Go.Callee.value (Go.Operand.func 25), args := #[Go.Operand.tmp 9], argTypes := #[33] }, type := 33, pos := "l05_log.go:94", after := #[{ on := 1, ground := Go.Ground.data }], guard := none }) rfl (fun K hK => ?k8) AllReadyH.nil
    go_simp
    go_at_call 25
    refine (impl_DiskSync_d Ac nc cc Aw nw cw dc dw v0 (hd.more (by omega)) LB).mono ?_
    rintro e w5 ⟨Act, nct, cct, Awt, nwt, cwt, qct, qwt, rfl, t, hb⟩
    have he5 : Eff 0 0 v0 w5 := Eff.of hb
    have hz5 : v0.heap.size ≤ w5.heap.size := he5.size
    have b5 : Below W.heap.size W w5 := b4.trans (he5.below b4.size (by omega))
    replace hd := (hd.below (he5.below (B := W.heap.size) (by omega) (by omega)) (Nat.le_refl _))
    replace res_f0 := (he5.frozen res_0 (by simp only; omega)).trans res_f0
    replace res_f1 := (he5.frozen res_1 (by simp only; omega)).trans res_f1
    replace res_f2 := (he5.frozen res_2 (by simp only; omega)).trans res_f2
    replace res_f3 := (he5.frozen res_3 (by simp only; omega)).trans res_f3
    replace aL_0 := he5.cell aL_0 (by simp only; omega)
    replace aL_1 := he5.cell aL_1 (by simp only; omega)
    replace aL_2 := he5.cell aL_2 (by simp only; omega)
    replace aL_3 := he5.cell aL_3 (by simp only; omega)
    replace res_0 := he5.cell res_0 (by simp only; omega)
    replace res_1 := he5.cell res_1 (by simp only; omega)
    replace res_2 := he5.cell res_2 (by simp only; omega)
    replace res_3 := he5.cell res_3 (by simp only; omega)
    replace aL_l := Nat.lt_of_lt_of_le aL_l hz5
    replace res_l := Nat.lt_of_lt_of_le res_l hz5
    clear hb
    rw [hok, if_pos rfl] at t qct
    have QCt := Lib.hid qct
    have QWt := Lib.hid qwt
    clear qct qwt
    refine hK.out _ _ ?s8 (fun hHeld => ?_)
    case s8 => ((try dsimp only); (go_split_ands; (repeat' apply And.intro) <;> (first | with_reducible assumption | with_reducible exact cell4 (by assumption) (by omega))))
    clear hK K
    try simp only [Act.put, List.setIfInBounds_toArray, List.set_cons_zero, List.set_cons_succ]
    refine wpAnyH_take (i := 7) (oi := { dst := some 15, op := Go.Op.build 60 #[(0, Go.Operand.tmp 10), (1, Go.Operand.tmp 12), (2, Go.Operand.tmp 14)], type := 60, pos := "l05_log.go:94", after := #[{ on := 2, ground := Go.Ground.data }, { on := 4, ground := Go.Ground.data }, { on := 6, ground := Go.Ground.data }], guard := none }) (v := ?v9) rfl (by kernel_rfl) (by kernel_rfl) (by kernel_rfl) (fun _ _ _ h => h) (Or.inl ⟨by rfl, ?y9⟩) (by assumption) ?_
    case y9 => (intro w hSw; (try dsimp only at hSw); go_simp; first | done | with_reducible rfl)
    try simp only [Act.put, List.setIfInBounds_toArray, List.set_cons_zero, List.set_cons_succ]
    refine wpAnyH_ready (rs := [8]) (by kernel_rfl) (by simp) ?_
    refine AllReadyH.cons (o := { dst := none, op := Go.Op.store 60 (Go.Operand.tmp 2) (Go.Operand.tmp 15), type := 0, pos := "l05_log.go:94", after := #[{ on := 7, ground := Go.Ground.data }, { on := 2, ground := Go.Ground.chain }, { on := 0, ground := Go.Ground.phase }, { on := 1, ground := Go.Ground.phase }, { on := 2, ground := Go.Ground.phase }, { on := 3, ground := Go.Ground.phase }, { on := 4, ground := Go.Ground.phase }, { on := 5, ground := Go.Ground.phase }, { on := 6, ground := Go.Ground.phase }, { on := 7, ground := Go.Ground.phase }], guard := none }) rfl (fun K hK => ?k10) AllReadyH.nil
    go_simp
    refine hK.out _ _ ?s10 (fun hHeld => ?_)
    case s10 => ((try dsimp only); (go_split_ands; (repeat' apply And.intro) <;> (first | with_reducible assumption | with_reducible exact cell4 (by assumption) (by omega))))
    clear hK K
    try simp only [Act.put]
    refine wpAnyH_done (by kernel_rfl) ?_ _
    go_wp2_with fail
    refine bodyPost_ret (v := .agg #[.slice Act nct cct, .slice Awt nwt cwt, .int .i64 x, .int .i64 y]) (by simp [results, Try.results39, go_sem, *]) rfl ?_
    exact madeLg_1 QCt.out QWt.out t b5 (b := W.heap.size + 1) (by omega) (by omega)
set_option maxHeartbeats 2000000 in
set_option maxRecDepth 100000 in
theorem spec_LogSync_d (Ac : Option Addr) (nc cc : Nat) (Aw : Option Addr) (nw cw : Nat) (dc : List (List UInt8)) (dw : List (Int × List UInt8)) (x y : Int) (W : World) (hd : RdDk W W.heap.size Ac nc Aw nw dc dw) (LB : lenB dc dw) :
    Calls Try.prog 37 #[.agg #[.slice Ac nc cc, .slice Aw nw cw, .int .i64 x, .int .i64 y]] W (MadeLg (if dkOk dc dw then syncN dc dw dw.length else []) [] (if dkOk dc dw then x else 0) (if dkOk dc dw then y else 0) W) := by
  rcases hok : dkOk dc dw with _ | _
  · rw [if_neg (by simp), if_neg (by simp), if_neg (by simp)]
    go_enter Try.func37, Try.ntmps37
    go_wp2_with fail
    have he1 : Eff 0 0 W (W.alloc (.cells #[.slice Ac nc cc, .slice Aw nw cw, .int .i64 x, .int .i64 y] 60)) := Eff.alloc _ _
    have hs1 : (W.alloc (.cells #[.slice Ac nc cc, .slice Aw nw cw, .int .i64 x, .int .i64 y] 60)).heap.size = W.heap.size + 1 := (by simp)
    have aL_0 : (W.alloc (.cells #[.slice Ac nc cc, .slice Aw nw cw, .int .i64 x, .int .i64 y] 60)).cell? ⟨W.heap.size, 0, none⟩ = some (.slice Ac nc cc) := var_cell _ _ _ _ _ rfl
    have aL_1 : (W.alloc (.cells #[.slice Ac nc cc, .slice Aw nw cw, .int .i64 x, .int .i64 y] 60)).cell? ⟨W.heap.size, 1, none⟩ = some (.slice Aw nw cw) := var_cell _ _ _ _ _ rfl
    have aL_2 : (W.alloc (.cells #[.slice Ac nc cc, .slice Aw nw cw, .int .i64 x, .int .i64 y] 60)).cell? ⟨W.heap.size, 2, none⟩ = some (.int .i64 x) := var_cell _ _ _ _ _ rfl
    have aL_3 : (W.alloc (.cells #[.slice Ac nc cc, .slice Aw nw cw, .int .i64 x, .int .i64 y] 60)).cell? ⟨W.heap.size, 3, none⟩ = some (.int .i64 y) := var_cell _ _ _ _ _ rfl
    generalize (W.alloc (.cells #[.slice Ac nc cc, .slice Aw nw cw, .int .i64 x, .int .i64 y] 60)) = w1 at *
    have hz1 : W.heap.size ≤ w1.heap.size := he1.size
    have b1 : Below W.heap.size W w1 := he1.below (Nat.le_refl _) (by omega)
    replace hd := (hd.below (he1.below (B := W.heap.size) (by omega) (by omega)) (Nat.le_refl _))
    have aL_l : W.heap.size < w1.heap.size := (by omega)
    have he2 : Eff 0 0 w1 (w1.alloc (.cells #[.slice none 0 0, .slice none 0 0, .int .i64 0, .int .i64 0] 60)) := Eff.alloc _ _
    have hs2 : (w1.alloc (.cells #[.slice none 0 0, .slice none 0 0, .int .i64 0, .int .i64 0] 60)).heap.size = w1.heap.size + 1 := (by simp)
    have res_0 : (w1.alloc (.cells #[.slice none 0 0, .slice none 0 0, .int .i64 0, .int .i64 0] 60)).cell? ⟨w1.heap.size, 0, none⟩ = some (.slice none 0 0) := var_cell _ _ _ _ _ rfl
    have res_1 : (w1.alloc (.cells #[.slice none 0 0, .slice none 0 0, .int .i64 0, .int .i64 0] 60)).cell? ⟨w1.heap.size, 1, none⟩ = some (.slice none 0 0) := var_cell _ _ _ _ _ rfl
    have res_2 : (w1.alloc (.cells #[.slice none 0 0, .slice none 0 0, .int .i64 0, .int .i64 0] 60)).cell? ⟨w1.heap.size, 2, none⟩ = some (.int .i64 0) := var_cell _ _ _ _ _ rfl
    have res_3 : (w1.alloc (.cells #[.slice none 0 0, .slice none 0 0, .int .i64 0, .int .i64 0] 60)).cell? ⟨w1.heap.size, 3, none⟩ = some (.int .i64 0) := var_cell _ _ _ _ _ rfl
    have res_f0 : (w1.alloc (.cells #[.slice none 0 0, .slice none 0 0, .int .i64 0, .int .i64 0] 60)).frozen? ⟨w1.heap.size, 0, none⟩ = false := var_frozen _ _ _ _
    have res_f1 : (w1.alloc (.cells #[.slice none 0 0, .slice none 0 0, .int .i64 0, .int .i64 0] 60)).frozen? ⟨w1.heap.size, 1, none⟩ = false := var_frozen _ _ _ _
    have res_f2 : (w1.alloc (.cells #[.slice none 0 0, .slice none 0 0, .int .i64 0, .int .i64 0] 60)).frozen? ⟨w1.heap.size, 2, none⟩ = false := var_frozen _ _ _ _
    have res_f3 : (w1.alloc (.cells #[.slice none 0 0, .slice none 0 0, .int .i64 0, .int .i64 0] 60)).frozen? ⟨w1.heap.size, 3, none⟩ = false := var_frozen _ _ _ _
    generalize (w1.alloc (.cells #[.slice none 0 0, .slice none 0 0, .int .i64 0, .int .i64 0] 60)) = w2 at *
    have hz2 : w1.heap.size ≤ w2.heap.size := he2.size
    have b2 : Below W.heap.size W w2 := b1.trans (he2.below b1.size (by omega))
    replace hd := (hd.below (he2.below (B := W.heap.size) (by omega) (by omega)) (Nat.le_refl _))
    replace aL_0 := he2.cell aL_0 (by simp only; omega)
    replace aL_1 := he2.cell aL_1 (by simp only; omega)
    replace aL_2 := he2.cell aL_2 (by simp only; omega)
    replace aL_3 := he2.cell aL_3 (by simp only; omega)
    replace aL_l := Nat.lt_of_lt_of_le aL_l hz2
    rw [hs1] at res_0 res_f0
    rw [hs1] at res_1 res_f1
    rw [hs1] at res_2 res_f2
    rw [hs1] at res_3 res_f3
    have res_l : W.heap.size + 1 < w2.heap.size := (by omega)
    refine (spec_DiskOk_d Ac nc cc Aw nw cw dc dw w2 (hd.more (by omega)) LB).mono ?_
    rintro e w3 ⟨rfl, hb⟩
    have he3 : Eff 0 0 w2 w3 := Eff.of hb
    have hz3 : w2.heap.size ≤ w3.heap.size := he3.size
    have b3 : Below W.heap.size W w3 := b2.trans (he3.below b2.size (by omega))
    replace hd := (hd.below (he3.below (B := W.heap.size) (by omega) (by omega)) (Nat.le_refl _))
    replace res_f0 := (he3.frozen res_0 (by simp only; omega)).trans res_f0
    replace res_f1 := (he3.frozen res_1 (by simp only; omega)).trans res_f1
    replace res_f2 := (he3.frozen res_2 (by simp only; omega)).trans res_f2
    replace res_f3 := (he3.frozen res_3 (by simp only; omega)).trans res_f3
    replace aL_0 := he3.cell aL_0 (by simp only; omega)
    replace aL_1 := he3.cell aL_1 (by simp only; omega)
    replace aL_2 := he3.cell aL_2 (by simp only; omega)
    replace aL_3 := he3.cell aL_3 (by simp only; omega)
    replace res_0 := he3.cell res_0 (by simp only; omega)
    replace res_1 := he3.cell res_1 (by simp only; omega)
    replace res_2 := he3.cell res_2 (by simp only; omega)
    replace res_3 := he3.cell res_3 (by simp only; omega)
    replace aL_l := Nat.lt_of_lt_of_le aL_l hz3
    replace res_l := Nat.lt_of_lt_of_le res_l hz3
    clear hb
    rw [hok]
    go_wp2_with fail
    refine bodyPost_ret (v := .agg #[.slice none 0 0, .slice none 0 0, .int .i64 0, .int .i64 0]) (by simp [results, Try.results37, go_sem, *]) rfl ?_
    exact madeLg_1 rfl rfl ⟨[], [], ⟨_, OwnR.nil (Nat.le_refl _) (Nat.le_refl _), OwnR.nil (Nat.le_refl _) (Nat.le_refl _)⟩, rfl, rfl⟩ b3 (by omega) (by omega)
  · rw [if_pos rfl, if_pos rfl, if_pos rfl]
    go_enter Try.func37, Try.ntmps37
    go_wp2_with fail
    have he1 : Eff 0 0 W (W.alloc (.cells #[.slice Ac nc cc, .slice Aw nw cw, .int .i64 x, .int .i64 y] 60)) := Eff.alloc _ _
    have hs1 : (W.alloc (.cells #[.slice Ac nc cc, .slice Aw nw cw, .int .i64 x, .int .i64 y] 60)).heap.size = W.heap.size + 1 := (by simp)
    have aL_0 : (W.alloc (.cells #[.slice Ac nc cc, .slice Aw nw cw, .int .i64 x, .int .i64 y] 60)).cell? ⟨W.heap.size, 0, none⟩ = some (.slice Ac nc cc) := var_cell _ _ _ _ _ rfl
    have aL_1 : (W.alloc (.cells #[.slice Ac nc cc, .slice Aw nw cw, .int .i64 x, .int .i64 y] 60)).cell? ⟨W.heap.size, 1, none⟩ = some (.slice Aw nw cw) := var_cell _ _ _ _ _ rfl
    have aL_2 : (W.alloc (.cells #[.slice Ac nc cc, .slice Aw nw cw, .int .i64 x, .int .i64 y] 60)).cell? ⟨W.heap.size, 2, none⟩ = some (.int .i64 x) := var_cell _ _ _ _ _ rfl
    have aL_3 : (W.alloc (.cells #[.slice Ac nc cc, .slice Aw nw cw, .int .i64 x, .int .i64 y] 60)).cell? ⟨W.heap.size, 3, none⟩ = some (.int .i64 y) := var_cell _ _ _ _ _ rfl
    generalize (W.alloc (.cells #[.slice Ac nc cc, .slice Aw nw cw, .int .i64 x, .int .i64 y] 60)) = w1 at *
    have hz1 : W.heap.size ≤ w1.heap.size := he1.size
    have b1 : Below W.heap.size W w1 := he1.below (Nat.le_refl _) (by omega)
    replace hd := (hd.below (he1.below (B := W.heap.size) (by omega) (by omega)) (Nat.le_refl _))
    have aL_l : W.heap.size < w1.heap.size := (by omega)
    have he2 : Eff 0 0 w1 (w1.alloc (.cells #[.slice none 0 0, .slice none 0 0, .int .i64 0, .int .i64 0] 60)) := Eff.alloc _ _
    have hs2 : (w1.alloc (.cells #[.slice none 0 0, .slice none 0 0, .int .i64 0, .int .i64 0] 60)).heap.size = w1.heap.size + 1 := (by simp)
    have res_0 : (w1.alloc (.cells #[.slice none 0 0, .slice none 0 0, .int .i64 0, .int .i64 0] 60)).cell? ⟨w1.heap.size, 0, none⟩ = some (.slice none 0 0) := var_cell _ _ _ _ _ rfl
    have res_1 : (w1.alloc (.cells #[.slice none 0 0, .slice none 0 0, .int .i64 0, .int .i64 0] 60)).cell? ⟨w1.heap.size, 1, none⟩ = some (.slice none 0 0) := var_cell _ _ _ _ _ rfl
    have res_2 : (w1.alloc (.cells #[.slice none 0 0, .slice none 0 0, .int .i64 0, .int .i64 0] 60)).cell? ⟨w1.heap.size, 2, none⟩ = some (.int .i64 0) := var_cell _ _ _ _ _ rfl
    have res_3 : (w1.alloc (.cells #[.slice none 0 0, .slice none 0 0, .int .i64 0, .int .i64 0] 60)).cell? ⟨w1.heap.size, 3, none⟩ = some (.int .i64 0) := var_cell _ _ _ _ _ rfl
    have res_f0 : (w1.alloc (.cells #[.slice none 0 0, .slice none 0 0, .int .i64 0, .int .i64 0] 60)).frozen? ⟨w1.heap.size, 0, none⟩ = false := var_frozen _ _ _ _
    have res_f1 : (w1.alloc (.cells #[.slice none 0 0, .slice none 0 0, .int .i64 0, .int .i64 0] 60)).frozen? ⟨w1.heap.size, 1, none⟩ = false := var_frozen _ _ _ _
    have res_f2 : (w1.alloc (.cells #[.slice none 0 0, .slice none 0 0, .int .i64 0, .int .i64 0] 60)).frozen? ⟨w1.heap.size, 2, none⟩ = false := var_frozen _ _ _ _
    have res_f3 : (w1.alloc (.cells #[.slice none 0 0, .slice none 0 0, .int .i64 0, .int .i64 0] 60)).frozen? ⟨w1.heap.size, 3, none⟩ = false := var_frozen _ _ _ _
    generalize (w1.alloc (.cells #[.slice none 0 0, .slice none 0 0, .int .i64 0, .int .i64 0] 60)) = w2 at *
    have hz2 : w1.heap.size ≤ w2.heap.size := he2.size
    have b2 : Below W.heap.size W w2 := b1.trans (he2.below b1.size (by omega))
    replace hd := (hd.below (he2.below (B := W.heap.size) (by omega) (by omega)) (Nat.le_refl _))
    replace aL_0 := he2.cell aL_0 (by simp only; omega)
    replace aL_1 := he2.cell aL_1 (by simp only; omega)
    replace aL_2 := he2.cell aL_2 (by simp only; omega)
    replace aL_3 := he2.cell aL_3 (by simp only; omega)
    replace aL_l := Nat.lt_of_lt_of_le aL_l hz2
    rw [hs1] at res_0 res_f0
    rw [hs1] at res_1 res_f1
    rw [hs1] at res_2 res_f2
    rw [hs1] at res_3 res_f3
    have res_l : W.heap.size + 1 < w2.heap.size := (by omega)
    refine (spec_DiskOk_d Ac nc cc Aw nw cw dc dw w2 (hd.more (by omega)) LB).mono ?_
    rintro e w3 ⟨rfl, hb⟩
    have he3 : Eff 0 0 w2 w3 := Eff.of hb
    have hz3 : w2.heap.size ≤ w3.heap.size := he3.size
    have b3 : Below W.heap.size W w3 := b2.trans (he3.below b2.size (by omega))
    replace hd := (hd.below (he3.below (B := W.heap.size) (by omega) (by omega)) (Nat.le_refl _))
    replace res_f0 := (he3.frozen res_0 (by simp only; omega)).trans res_f0
    replace res_f1 := (he3.frozen res_1 (by simp only; omega)).trans res_f1
    replace res_f2 := (he3.frozen res_2 (by simp only; omega)).trans res_f2
    replace res_f3 := (he3.frozen res_3 (by simp only; omega)).trans res_f3
    replace aL_0 := he3.cell aL_0 (by simp only; omega)
    replace aL_1 := he3.cell aL_1 (by simp only; omega)
    replace aL_2 := he3.cell aL_2 (by simp only; omega)
    replace aL_3 := he3.cell aL_3 (by simp only; omega)
    replace res_0 := he3.cell res_0 (by simp only; omega)
    replace res_1 := he3.cell res_1 (by simp only; omega)
    replace res_2 := he3.cell res_2 (by simp only; omega)
    replace res_3 := he3.cell res_3 (by simp only; omega)
    replace aL_l := Nat.lt_of_lt_of_le aL_l hz3
    replace res_l := Nat.lt_of_lt_of_le res_l hz3
    clear hb
    rw [hok]
    go_wp2_with fail
    have he4 : Eff 0 0 w3 w3.drew := (Eff.refl _ _ _).drew
    have hz4 : w3.heap.size ≤ w3.drew.heap.size := he4.size
    have b4 : Below W.heap.size W w3.drew := b3.trans (he4.below b3.size (by omega))
    replace hd := (hd.below (he4.below (B := W.heap.size) (by omega) (by omega)) (Nat.le_refl _))
    replace res_f0 := (he4.frozen res_0 (by simp only; omega)).trans res_f0
    replace res_f1 := (he4.frozen res_1 (by simp only; omega)).trans res_f1
    replace res_f2 := (he4.frozen res_2 (by simp only; omega)).trans res_f2
    replace res_f3 := (he4.frozen res_3 (by simp only; omega)).trans res_f3
    replace aL_0 := he4.cell aL_0 (by simp only; omega)
    replace aL_1 := he4.cell aL_1 (by simp only; omega)
    replace aL_2 := he4.cell aL_2 (by simp only; omega)
    replace aL_3 := he4.cell aL_3 (by simp only; omega)
    replace res_0 := he4.cell res_0 (by simp only; omega)
    replace res_1 := he4.cell res_1 (by simp only; omega)
    replace res_2 := he4.cell res_2 (by simp only; omega)
    replace res_3 := he4.cell res_3 (by simp only; omega)
    replace aL_l := Nat.lt_of_lt_of_le aL_l hz4
    replace res_l := Nat.lt_of_lt_of_le res_l hz4
    refine wp_region_held_drew (S := fun w' => w'.cell? ⟨W.heap.size, 0, none⟩ = some (.slice Ac nc cc) ∧ w'.cell? ⟨W.heap.size, 1, none⟩ = some (.slice Aw nw cw) ∧ w'.cell? ⟨W.heap.size, 2, none⟩ = some (.int .i64 x) ∧ w'.cell? ⟨W.heap.size, 3, none⟩ = some (.int .i64 y)) (by kernel_rfl) ?rg11 (fun hHeld => ?_)
    case rg11 => ((try dsimp only); (go_split_ands; (repeat' apply And.intro) <;> (first | with_reducible assumption | with_reducible exact cell4 (by assumption) (by omega))))
    generalize w3.drew = v0 at *
    refine wpAnyH_take (i := 0) (oi := { dst := some 8, op := Go.Op.fieldAddr 60 (Go.Operand.tmp 1) 0, type := 0, pos := "l05_log.go:87", after := #[], guard := none }) (v := ?v12) rfl (by kernel_rfl) (by kernel_rfl) (by kernel_rfl) (fun _ _ _ h => h) (Or.inl ⟨by rfl, ?y12⟩) (by assumption) ?_
    case y12 => (intro w hSw; (try dsimp only at hSw); go_simp; first | done | with_reducible rfl)
    try simp only [Act.put, List.setIfInBounds_toArray, List.set_cons_zero, List.set_cons_succ]
    refine wpAnyH_take (i := 1) (oi := { dst := some 9, op := Go.Op.load 33 (Go.Operand.tmp 8), type := 33, pos := "l05_log.go:87", after := #[{ on := 0, ground := Go.Ground.data }], guard := none }) (v := ?v13) rfl (by kernel_rfl) (by kernel_rfl) (by kernel_rfl) (fun _ _ _ h => h) (Or.inl ⟨by rfl, ?y13⟩) (by assumption) ?_
    case y13 => (intro w hSw; (try dsimp only at hSw); go_simp; first | done | with_reducible rfl)
    try simp only [Act.put, List.setIfInBounds_toArray, List.set_cons_zero, List.set_cons_succ]
    refine wpAnyH_take (i := 3) (oi := { dst := some 11, op := Go.Op.fieldAddr 60 (Go.Operand.tmp 1) 1, type := 0, pos := "l05_log.go:87", after := #[], guard := none }) (v := ?v14) rfl (by kernel_rfl) (by kernel_rfl) (by kernel_rfl) (fun _ _ _ h => h) (Or.inl ⟨by rfl, ?y14⟩) (by assumption) ?_
    case y14 => (intro w hSw; (try dsimp only at hSw); go_simp; first | done | with_reducible rfl)
    try simp only [Act.put, List.setIfInBounds_toArray, List.set_cons_zero, List.set_cons_succ]
    refine wpAnyH_take (i := 4) (oi := { dst := some 12, op := Go.Op.load 3 (Go.Operand.tmp 11), type := 3, pos := "l05_log.go:87", after := #[{ on := 3, ground := Go.Ground.data }], guard := none }) (v := ?v15) rfl (by kernel_rfl) (by kernel_rfl) (by kernel_rfl) (fun _ _ _ h => h) (Or.inl ⟨by rfl, ?y15⟩) (by assumption) ?_
    case y15 => (intro w hSw; (try dsimp only at hSw); go_simp; first | done | with_reducible rfl)
    try simp only [Act.put, List.setIfInBounds_toArray, List.set_cons_zero, List.set_cons_succ]
    refine wpAnyH_take (i := 5) (oi := { dst := some 13, op := Go.Op.fieldAddr 60 (Go.Operand.tmp 1) 2, type := 0, pos := "l05_log.go:87", after := #[], guard := none }) (v := ?v16) rfl (by kernel_rfl) (by kernel_rfl) (by kernel_rfl) (fun _ _ _ h => h) (Or.inl ⟨by rfl, ?y16⟩) (by assumption) ?_
    case y16 => (intro w hSw; (try dsimp only at hSw); go_simp; first | done | with_reducible rfl)
    try simp only [Act.put, List.setIfInBounds_toArray, List.set_cons_zero, List.set_cons_succ]
    refine wpAnyH_take (i := 6) (oi := { dst := some 14, op := Go.Op.load 3 (Go.Operand.tmp 13), type := 3, pos := "l05_log.go:87", after := #[{ on := 5, ground := Go.Ground.data }], guard := none }) (v := ?v17) rfl (by kernel_rfl) (by kernel_rfl) (by kernel_rfl) (fun _ _ _ h => h) (Or.inl ⟨by rfl, ?y17⟩) (by assumption) ?_
    case y17 => (intro w hSw; (try dsimp only at hSw); go_simp; first | done | with_reducible rfl)
    try simp only [Act.put, List.setIfInBounds_toArray, List.set_cons_zero, List.set_cons_succ]
    refine wpAnyH_ready (rs := [2]) (by kernel_rfl) (by simp) ?_
    refine AllReadyH.cons (o := { dst := some 10, op := Go.Op.call { callee := Go.Callee.value (Go.Operand.func 29), args := #[Go.Operand.tmp 9], argTypes := #[33] }, type := 33, pos := "l05_log.go:87", after := #[{ on := 1, ground := Go.Ground.data }], guard := none }) rfl (fun K hK => ?k18) AllReadyH.nil
    go_simp
    go_at_call 29
    refine (spec_DiskSync_d Ac nc cc Aw nw cw dc dw v0 (hd.more (by omega)) LB).mono ?_
    rintro e w5 ⟨Act, nct, cct, Awt, nwt, cwt, qct, qwt, rfl, t, hb⟩
    have he5 : Eff 0 0 v0 w5 := Eff.of hb
    have hz5 : v0.heap.size ≤ w5.heap.size := he5.size
    have b5 : Below W.heap.size W w5 := b4.trans (he5.below b4.size (by omega))
    replace hd := (hd.below (he5.below (B := W.heap.size) (by omega) (by omega)) (Nat.le_refl _))
    replace res_f0 := (he5.frozen res_0 (by simp only; omega)).trans res_f0
    replace res_f1 := (he5.frozen res_1 (by simp only; omega)).trans res_f1
    replace res_f2 := (he5.frozen res_2 (by simp only; omega)).trans res_f2
    replace res_f3 := (he5.frozen res_3 (by simp only; omega)).trans res_f3
    replace aL_0 := he5.cell aL_0 (by simp only; omega)
    replace aL_1 := he5.cell aL_1 (by simp only; omega)
    replace aL_2 := he5.cell aL_2 (by simp only; omega)
    replace aL_3 := he5.cell aL_3 (by simp only; omega)
    replace res_0 := he5.cell res_0 (by simp only; omega)
    replace res_1 := he5.cell res_1 (by simp only; omega)
    replace res_2 := he5.cell res_2 (by simp only; omega)
    replace res_3 := he5.cell res_3 (by simp only; omega)
    replace aL_l := Nat.lt_of_lt_of_le aL_l hz5
    replace res_l := Nat.lt_of_lt_of_le res_l hz5
    clear hb
    rw [hok, if_pos rfl] at t qct
    have QCt := Lib.hid qct
    have QWt := Lib.hid qwt
    clear qct qwt
    refine hK.out _ _ ?s18 (fun hHeld => ?_)
    case s18 => ((try dsimp only); (go_split_ands; (repeat' apply And.intro) <;> (first | with_reducible assumption | with_reducible exact cell4 (by assumption) (by omega))))
    clear hK K
    try simp only [Act.put, List.setIfInBounds_toArray, List.set_cons_zero, List.set_cons_succ]
    refine wpAnyH_take (i := 7) (oi := { dst := some 15, op := Go.Op.build 60 #[(0, Go.Operand.tmp 10), (1, Go.Operand.tmp 12), (2, Go.Operand.tmp 14)], type := 60, pos := "l05_log.go:87", after := #[{ on := 2, ground := Go.Ground.data }, { on := 4, ground := Go.Ground.data }, { on := 6, ground := Go.Ground.data }], guard := none }) (v := ?v19) rfl (by kernel_rfl) (by kernel_rfl) (by kernel_rfl) (fun _ _ _ h => h) (Or.inl ⟨by rfl, ?y19⟩) (by assumption) ?_
    case y19 => (intro w hSw; (try dsimp only at hSw); go_simp; first | done | with_reducible rfl)
    try simp only [Act.put, List.setIfInBounds_toArray, List.set_cons_zero, List.set_cons_succ]
    refine wpAnyH_ready (rs := [8]) (by kernel_rfl) (by simp) ?_
    refine AllReadyH.cons (o := { dst := none, op := Go.Op.store 60 (Go.Operand.tmp 2) (Go.Operand.tmp 15), type := 0, pos := "l05_log.go:87", after := #[{ on := 7, ground := Go.Ground.data }, { on := 2, ground := Go.Ground.chain }, { on := 0, ground := Go.Ground.phase }, { on := 1, ground := Go.Ground.phase }, { on := 2, ground := Go.Ground.phase }, { on := 3, ground := Go.Ground.phase }, { on := 4, ground := Go.Ground.phase }, { on := 5, ground := Go.Ground.phase }, { on := 6, ground := Go.Ground.phase }, { on := 7, ground := Go.Ground.phase }], guard := none }) rfl (fun K hK => ?k20) AllReadyH.nil
    go_simp
    refine hK.out _ _ ?s20 (fun hHeld => ?_)
    case s20 => ((try dsimp only); (go_split_ands; (repeat' apply And.intro) <;> (first | with_reducible assumption | with_reducible exact cell4 (by assumption) (by omega))))
    clear hK K
    try simp only [Act.put]
    refine wpAnyH_done (by kernel_rfl) ?_ _
    go_wp2_with fail
    refine bodyPost_ret (v := .agg #[.slice Act nct cct, .slice Awt nwt cwt, .int .i64 x, .int .i64 y]) (by simp [results, Try.results37, go_sem, *]) rfl ?_
    exact madeLg_1 QCt.out QWt.out t b5 (b := W.heap.size + 1) (by omega) (by omega)
end Go.Proofs.Ytblenfhacaecmaa
