/- LogRead (the program). -/
import Derived.Test.YtblenfhacaecmaaScs
import Derived.Test.YtblenfhacaecmaaLr
import Derived.Deep.RegionHeld3
import Derived.IntWalk
namespace Go.Proofs.Ytblenfhacaecmaa
open Go.RowKit
set_option maxHeartbeats 2000000 in
set_option maxRecDepth 100000 in
theorem impl_LogRead_d (Ac : Option Addr) (nc cc : Nat) (Aw : Option Addr) (nw cw : Nat) (dc : List (List UInt8)) (dw : List (Int × List UInt8)) (W : World) (h : RdDk W W.heap.size Ac nc Aw nw dc dw) (LB : lenB dc dw) :
    Calls Try.prog 44 #[.agg #[.slice Ac nc cc, .slice Aw nw cw]] W (MadeLr (lgR dc dw) W) := by
  rcases hok : dkOk dc dw with _ | _
  · skip
    have hlc := h.len.1
    have HLC := Lib.hid hlc
    clear hlc
    go_enter Try.func44, Try.ntmps44
    go_wp2_with fail
    have he1 : Eff 0 0 W (W.alloc (.cells #[.slice Ac nc cc, .slice Aw nw cw] 33)) := Eff.alloc _ _
    have hs1 : (W.alloc (.cells #[.slice Ac nc cc, .slice Aw nw cw] 33)).heap.size = W.heap.size + 1 := (by simp)
    have aD_0 : (W.alloc (.cells #[.slice Ac nc cc, .slice Aw nw cw] 33)).cell? ⟨W.heap.size, 0, none⟩ = some (.slice Ac nc cc) := var_cell _ _ _ _ _ rfl
    have aD_1 : (W.alloc (.cells #[.slice Ac nc cc, .slice Aw nw cw] 33)).cell? ⟨W.heap.size, 1, none⟩ = some (.slice Aw nw cw) := var_cell _ _ _ _ _ rfl
    generalize (W.alloc (.cells #[.slice Ac nc cc, .slice Aw nw cw] 33)) = w1 at *
    have hz1 : W.heap.size ≤ w1.heap.size := he1.size
    have b1 : Below W.heap.size W w1 := he1.below (Nat.le_refl _) (by omega)
    replace h := (h.below (he1.below (B := W.heap.size) (by omega) (by omega)) (Nat.le_refl _))
    have aD_l : W.heap.size < w1.heap.size := (by omega)
    refine (impl_DiskOk_d Ac nc cc Aw nw cw dc dw w1 (h.more (by omega)) LB).mono ?_
    rintro e w2 ⟨rfl, hb⟩
    have he2 : Eff 0 0 w1 w2 := Eff.of hb
    have hz2 : w1.heap.size ≤ w2.heap.size := he2.size
    have b2 : Below W.heap.size W w2 := b1.trans (he2.below b1.size (by omega))
    replace h := (h.below (he2.below (B := W.heap.size) (by omega) (by omega)) (Nat.le_refl _))
    replace aD_0 := he2.cell aD_0 (by simp only; omega)
    replace aD_1 := he2.cell aD_1 (by simp only; omega)
    replace aD_l := Nat.lt_of_lt_of_le aD_l hz2
    clear hb
    rw [hok]
    go_wp2_with fail
    refine bodyPost_ret (v := .tuple #[.slice none 0 0, .int .i64 0]) (by simp [results, Try.results44, go_sem]) rfl ?_
    exact ⟨none, 0, 0, [], rfl, by rw [lgR, if_neg (by rw [hok]; simp)]; rfl, OwnR.nil b2.size (Nat.le_refl _), b2⟩
  · skip
    have hlc := h.len.1
    have HLC := Lib.hid hlc
    clear hlc
    go_enter Try.func44, Try.ntmps44
    go_wp2_with fail
    have he1 : Eff 0 0 W (W.alloc (.cells #[.slice Ac nc cc, .slice Aw nw cw] 33)) := Eff.alloc _ _
    have hs1 : (W.alloc (.cells #[.slice Ac nc cc, .slice Aw nw cw] 33)).heap.size = W.heap.size + 1 := (by simp)
    have aD_0 : (W.alloc (.cells #[.slice Ac nc cc, .slice Aw nw cw] 33)).cell? ⟨W.heap.size, 0, none⟩ = some (.slice Ac nc cc) := var_cell _ _ _ _ _ rfl
    have aD_1 : (W.alloc (.cells #[.slice Ac nc cc, .slice Aw nw cw] 33)).cell? ⟨W.heap.size, 1, none⟩ = some (.slice Aw nw cw) := var_cell _ _ _ _ _ rfl
    generalize (W.alloc (.cells #[.slice Ac nc cc, .slice Aw nw cw] 33)) = w1 at *
    have hz1 : W.heap.size ≤ w1.heap.size := he1.size
    have b1 : Below W.heap.size W w1 := he1.below (Nat.le_refl _) (by omega)
    replace h := (h.below (he1.below (B := W.heap.size) (by omega) (by omega)) (Nat.le_refl _))
    have aD_l : W.heap.size < w1.heap.size := (by omega)
    refine (impl_DiskOk_d Ac nc cc Aw nw cw dc dw w1 (h.more (by omega)) LB).mono ?_
    rintro e w2 ⟨rfl, hb⟩
    have he2 : Eff 0 0 w1 w2 := Eff.of hb
    have hz2 : w1.heap.size ≤ w2.heap.size := he2.size
    have b2 : Below W.heap.size W w2 := b1.trans (he2.below b1.size (by omega))
    replace h := (h.below (he2.below (B := W.heap.size) (by omega) (by omega)) (Nat.le_refl _))
    replace aD_0 := he2.cell aD_0 (by simp only; omega)
    replace aD_1 := he2.cell aD_1 (by simp only; omega)
    replace aD_l := Nat.lt_of_lt_of_le aD_l hz2
    clear hb
    rw [hok]
    have HOK := Lib.hid hok
    clear hok
    have aD_0P := (Eff.alloc w2 (.cells #[.slice none 0 0] 66)).cell aD_0 (by simp only; omega)
    have aD_1P := (Eff.alloc w2 (.cells #[.slice none 0 0] 66)).cell aD_1 (by simp only; omega)
    go_wp2_with fail
    have he3 : Eff 0 0 w2 (w2.alloc (.cells #[.slice none 0 0] 66)) := Eff.alloc _ _
    have hs3 : (w2.alloc (.cells #[.slice none 0 0] 66)).heap.size = w2.heap.size + 1 := (by simp)
    have T_0 : (w2.alloc (.cells #[.slice none 0 0] 66)).cell? ⟨w2.heap.size, 0, none⟩ = some (.slice none 0 0) := var_cell _ _ _ _ _ rfl
    have T_f0 : (w2.alloc (.cells #[.slice none 0 0] 66)).frozen? ⟨w2.heap.size, 0, none⟩ = false := var_frozen _ _ _ _
    generalize (w2.alloc (.cells #[.slice none 0 0] 66)) = w3 at *
    have hz3 : w2.heap.size ≤ w3.heap.size := he3.size
    have b3 : Below W.heap.size W w3 := b2.trans (he3.below b2.size (by omega))
    replace h := (h.below (he3.below (B := W.heap.size) (by omega) (by omega)) (Nat.le_refl _))
    replace aD_0 := he3.cell aD_0 (by simp only; omega)
    replace aD_1 := he3.cell aD_1 (by simp only; omega)
    replace aD_l := Nat.lt_of_lt_of_le aD_l hz3
    have T_l : w2.heap.size < w3.heap.size := (by omega)
    clear aD_0P aD_1P
    have hTw : w2.heap.size < w3.heap.size := by omega
    have hTW : W.heap.size < w2.heap.size := by omega
    clear T_l
    go_wp2_with fail
    refine (impl_decoded_read Ac nc cc Aw nw cw dc dw w2.heap.size w3 hTw (h.more (by omega)) LB T_0 T_f0).mono ?_
    rintro e w4 ⟨A, n, c, es, rfl, hT2, hf2, hO, hd, he4⟩
    have hz4 : w3.heap.size ≤ w4.heap.size := he4.size
    have b4 : Below W.heap.size W w4 := b3.trans (he4.below b3.size (by omega))
    replace h := (h.below (he4.below (B := W.heap.size) (by omega) (by omega)) (Nat.le_refl _))
    replace aD_0 := he4.cell aD_0 (by simp only; omega)
    replace aD_1 := he4.cell aD_1 (by simp only; omega)
    replace aD_l := Nat.lt_of_lt_of_le aD_l hz4
    have HD := Lib.hid hd
    clear hd
    replace hO := hO.wide (show W.heap.size ≤ w3.heap.size by omega) (Nat.le_refl _) (Nat.le_refl _)
    clear T_0 T_f0 aD_0 aD_1 hf2
    go_wp2_with fail
    refine wp_region_held_drew (S := fun w' => w'.cell? ⟨w2.heap.size, 0, none⟩ = some (.slice A n c)) (by kernel_rfl) ?rg82 (fun hHeld => ?_)
    case rg82 => ((try dsimp only); (first | with_reducible assumption | exact hT2))
    refine wpAnyH_take (i := 0) (oi := { dst := some 11, op := Go.Op.load 66 (Go.Operand.tmp 4), type := 66, pos := "l05_log.go:32", after := #[], guard := none }) (v := ?v83) rfl (by kernel_rfl) (by kernel_rfl) (by kernel_rfl) (fun _ _ _ h => h) (Or.inl ⟨by rfl, ?y83⟩) (by assumption) ?_
    case y83 => (intro w hSw; (try dsimp only at hSw); go_simp; first | done | with_reducible rfl)
    try simp only [Act.put, List.setIfInBounds_toArray, List.set_cons_zero, List.set_cons_succ]
    refine wpAnyH_take (i := 1) (oi := { dst := some 12, op := Go.Op.load 66 (Go.Operand.tmp 4), type := 66, pos := "l05_log.go:32", after := #[], guard := none }) (v := ?v84) rfl (by kernel_rfl) (by kernel_rfl) (by kernel_rfl) (fun _ _ _ h => h) (Or.inl ⟨by rfl, ?y84⟩) (by assumption) ?_
    case y84 => (intro w hSw; (try dsimp only at hSw); go_simp; first | done | with_reducible rfl)
    try simp only [Act.put, List.setIfInBounds_toArray, List.set_cons_zero, List.set_cons_succ]
    refine wpAnyH_take (i := 2) (oi := { dst := some 13, op := Go.Op.call { callee := Go.Callee.builtin Go.Builtin.len, args := #[Go.Operand.tmp 12], argTypes := #[66] }, type := 3, pos := "l05_log.go:32", after := #[{ on := 1, ground := Go.Ground.data }], guard := none }) (v := ?v85) rfl (by kernel_rfl) (by kernel_rfl) (by kernel_rfl) (fun _ _ _ h => h) (Or.inl ⟨by rfl, ?y85⟩) (by assumption) ?_
    case y85 => (intro w hSw; (try dsimp only at hSw); go_simp; first | done | with_reducible rfl)
    try simp only [Act.put, List.setIfInBounds_toArray, List.set_cons_zero, List.set_cons_succ]
    refine wpAnyH_take (i := 3) (oi := { dst := some 2, op := Go.Op.assign (Go.Operand.tmp 11), type := 66, pos := "l05_log.go:32", after := #[{ on := 0, ground := Go.Ground.data }, { on := 0, ground := Go.Ground.phase }, { on := 1, ground := Go.Ground.textOnly Go.Departure.lateStores }, { on := 2, ground := Go.Ground.textOnly Go.Departure.lateStoresUnsure }], guard := none }) (v := ?v86) rfl (by kernel_rfl) (by kernel_rfl) (by kernel_rfl) (fun _ _ _ h => h) (Or.inl ⟨by rfl, ?y86⟩) (by assumption) ?_
    case y86 => (intro w hSw; (try dsimp only at hSw); go_simp; first | done | with_reducible rfl)
    try simp only [Act.put, List.setIfInBounds_toArray, List.set_cons_zero, List.set_cons_succ]
    refine wpAnyH_take (i := 4) (oi := { dst := some 3, op := Go.Op.assign (Go.Operand.tmp 13), type := 3, pos := "l05_log.go:32", after := #[{ on := 2, ground := Go.Ground.data }, { on := 3, ground := Go.Ground.chain }, { on := 0, ground := Go.Ground.phase }, { on := 1, ground := Go.Ground.phase }, { on := 2, ground := Go.Ground.phase }, { on := 3, ground := Go.Ground.phase }], guard := none }) (v := ?v87) rfl (by kernel_rfl) (by kernel_rfl) (by kernel_rfl) (fun _ _ _ h => h) (Or.inl ⟨by rfl, ?y87⟩) (by assumption) ?_
    case y87 => (intro w hSw; (try dsimp only at hSw); go_simp; first | done | with_reducible rfl)
    try simp only [Act.put, List.setIfInBounds_toArray, List.set_cons_zero, List.set_cons_succ]
    refine wpAnyH_done (by kernel_rfl) ?_ _
    go_wp2_with fail
    refine bodyPost_ret (v := .tuple #[.slice A n c, .int .i64 (n : Int)]) (by simp [results, Try.results44, go_sem]) rfl ?_
    exact ⟨A, n, c, es, rfl, by rw [lgR, if_pos HOK.out, HLC.out]; exact HD.out, hO.keep ((Eff.refl 0 0 _).drew) (.inr (.inr (Nat.le_refl _))), b4.drew⟩
end Go.Proofs.Ytblenfhacaecmaa
