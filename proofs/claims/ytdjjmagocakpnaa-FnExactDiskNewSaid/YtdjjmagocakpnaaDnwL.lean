/- The walk of the law on DiskNew. -/
import Derived.Test.YtdjjmagocakpnaaDkd
import Derived.Deep.RegionHeld3
namespace Go.Proofs.Ytdjjmagocakpnaa
open Go.RowKit
set_option maxHeartbeats 4000000 in
set_option maxRecDepth 100000 in
theorem walk_FnExactDiskNew (n : Int) (_w : (Lit.int .i64 n).wf = true) (W : World) :
    Calls Try.prog 9 #[.int .i64 n] W fun e w' => e = .returned (.bool true) ∧ Below W.heap.size W w' := by
  obtain ⟨R, hR⟩ : ∃ R, newC n = R := ⟨_, rfl⟩
  obtain ⟨ok, hok⟩ : ∃ ok, inB n 1 600 = ok := ⟨_, rfl⟩
  have hlb : lenB R [] := by
    rw [← hR]
    unfold newC
    split
    · refine ⟨by rw [List.length_replicate]; omega, by simp, fun l hl => ?_, by simp⟩
      rw [List.eq_of_mem_replicate hl]; simp
    · exact ⟨by simp, by simp, by simp, by simp⟩
  have hi : ∀ w, Calls Try.prog 37 #[.int .i64 n] w (MadeDT R [] ok w) := fun w => (hR ▸ hok ▸ impl_DiskNew n w : Calls _ _ _ w (MadeDkT R [] ok w)).mono fun _ _ h => h.d
  have hs : ∀ w, Calls Try.prog 36 #[.int .i64 n] w (MadeDT R [] ok w) := fun w => (hR ▸ hok ▸ spec_DiskNew n w : Calls _ _ _ w (MadeDkT R [] ok w)).mono fun _ _ h => h.d
  have hbb : (ok != ok) = false := by simp
  have hmk : mkD R [] ≤ 4611686018427387904 := by have := hlb.mk (k := 0) (by omega); unfold mkD; omega
  have LB := Lib.hid hlb
  have HI := Lib.hid hi
  have HS := Lib.hid hs
  clear hR hok hlb hi hs
  go_enter Try.func9, Try.ntmps9
  go_wp2_with fail
  refine (HS.out W).mono ?_
  rintro e w1 ⟨Acw0, ncw0, ccw0, Aww0, nww0, cww0, qcw0, qww0, rfl, w0, hb⟩
  have he1 : Eff 0 0 W w1 := Eff.of hb
  have hz1 : W.heap.size ≤ w1.heap.size := he1.size
  have b1 : Below W.heap.size W w1 := he1.below (Nat.le_refl _) (by omega)
  clear hb
  have QCw0 := Lib.hid qcw0
  have QWw0 := Lib.hid qww0
  clear qcw0 qww0
  go_wp2_with fail
  have he2 : Eff 0 0 w1 (w1.alloc (.cells #[.slice Acw0 ncw0 ccw0, .slice Aww0 nww0 cww0] 55)) := Eff.alloc _ _
  have hs2 : (w1.alloc (.cells #[.slice Acw0 ncw0 ccw0, .slice Aww0 nww0 cww0] 55)).heap.size = w1.heap.size + 1 := (by simp)
  have z0_0 : (w1.alloc (.cells #[.slice Acw0 ncw0 ccw0, .slice Aww0 nww0 cww0] 55)).cell? ⟨w1.heap.size, 0, none⟩ = some (.slice Acw0 ncw0 ccw0) := var_cell _ _ _ _ _ rfl
  have z0_1 : (w1.alloc (.cells #[.slice Acw0 ncw0 ccw0, .slice Aww0 nww0 cww0] 55)).cell? ⟨w1.heap.size, 1, none⟩ = some (.slice Aww0 nww0 cww0) := var_cell _ _ _ _ _ rfl
  generalize (w1.alloc (.cells #[.slice Acw0 ncw0 ccw0, .slice Aww0 nww0 cww0] 55)) = w2 at *
  have hz2 : w1.heap.size ≤ w2.heap.size := he2.size
  have b2 : Below W.heap.size W w2 := b1.trans (he2.below b1.size (by omega))
  replace w0 := w0.keep he2 (by omega)
  have z0_l : w1.heap.size < w2.heap.size := (by omega)
  refine (HI.out w2).mono ?_
  rintro e w3 ⟨Acg, ncg, ccg, Awg, nwg, cwg, qcg, qwg, rfl, g, hb⟩
  have he3 : Eff 0 0 w2 w3 := Eff.of hb
  have hz3 : w2.heap.size ≤ w3.heap.size := he3.size
  have b3 : Below W.heap.size W w3 := b2.trans (he3.below b2.size (by omega))
  replace w0 := w0.keep he3 (by omega)
  replace z0_0 := he3.cell z0_0 (by simp only; omega)
  replace z0_1 := he3.cell z0_1 (by simp only; omega)
  replace z0_l := Nat.lt_of_lt_of_le z0_l hz3
  clear hb
  have QCg := Lib.hid qcg
  have QWg := Lib.hid qwg
  clear qcg qwg
  go_wp2_with fail
  have he4 : Eff 0 0 w3 (w3.alloc (.cells #[.slice Acg ncg ccg, .slice Awg nwg cwg] 55)) := Eff.alloc _ _
  have hs4 : (w3.alloc (.cells #[.slice Acg ncg ccg, .slice Awg nwg cwg] 55)).heap.size = w3.heap.size + 1 := (by simp)
  have z1_0 : (w3.alloc (.cells #[.slice Acg ncg ccg, .slice Awg nwg cwg] 55)).cell? ⟨w3.heap.size, 0, none⟩ = some (.slice Acg ncg ccg) := var_cell _ _ _ _ _ rfl
  have z1_1 : (w3.alloc (.cells #[.slice Acg ncg ccg, .slice Awg nwg cwg] 55)).cell? ⟨w3.heap.size, 1, none⟩ = some (.slice Awg nwg cwg) := var_cell _ _ _ _ _ rfl
  generalize (w3.alloc (.cells #[.slice Acg ncg ccg, .slice Awg nwg cwg] 55)) = w4 at *
  have hz4 : w3.heap.size ≤ w4.heap.size := he4.size
  have b4 : Below W.heap.size W w4 := b3.trans (he4.below b3.size (by omega))
  replace w0 := w0.keep he4 (by omega)
  replace g := g.keep he4 (by omega)
  replace z0_0 := he4.cell z0_0 (by simp only; omega)
  replace z0_1 := he4.cell z0_1 (by simp only; omega)
  replace z0_l := Nat.lt_of_lt_of_le z0_l hz4
  have z1_l : w3.heap.size < w4.heap.size := (by omega)
  refine (eqDisk_d Acg ncg ccg Awg nwg cwg Acw0 ncw0 ccw0 Aww0 nww0 cww0 _ _ w4 (g.rd (by omega)) (w0.rd (by omega)) LB.out).mono ?_
  rintro e w5 ⟨rfl, hb⟩
  have he5 : Eff 0 0 w4 w5 := Eff.of hb
  have hz5 : w4.heap.size ≤ w5.heap.size := he5.size
  have b5 : Below W.heap.size W w5 := b4.trans (he5.below b4.size (by omega))
  replace w0 := w0.keep he5 (by omega)
  replace g := g.keep he5 (by omega)
  replace z0_0 := he5.cell z0_0 (by simp only; omega)
  replace z0_1 := he5.cell z0_1 (by simp only; omega)
  replace z1_0 := he5.cell z1_0 (by simp only; omega)
  replace z1_1 := he5.cell z1_1 (by simp only; omega)
  replace z0_l := Nat.lt_of_lt_of_le z0_l hz5
  replace z1_l := Nat.lt_of_lt_of_le z1_l hz5
  clear hb
  go_wp2_with fail
  refine (markDisk_d Acg ncg ccg Awg nwg cwg 1 (w2.heap.size) (w3.heap.size) _ _ w5 g LB.out (by omega) _ (by first | rfl | simp)).mono ?_
  rintro e w6 ⟨rfl, g, he⟩
  have he6 : Eff (w2.heap.size) (w3.heap.size) w5 w6 := he
  have hz6 : w5.heap.size ≤ w6.heap.size := he6.size
  have b6 : Below W.heap.size W w6 := b5.trans (he6.below b5.size (by omega))
  replace w0 := w0.keep he6 (by omega)
  replace z0_0 := he6.cell z0_0 (by simp only; omega)
  replace z0_1 := he6.cell z0_1 (by simp only; omega)
  replace z1_0 := he6.cell z1_0 (by simp only; omega)
  replace z1_1 := he6.cell z1_1 (by simp only; omega)
  replace z0_l := Nat.lt_of_lt_of_le z0_l hz6
  replace z1_l := Nat.lt_of_lt_of_le z1_l hz6
  clear he
  go_wp2_with fail
  refine (heldDisk_d Acg ncg ccg Awg nwg cwg 1 (R) ([]) w6 (g.rd (by omega)) LB.out (by omega) _ (by first | rfl | simp)).mono ?_
  rintro e w7 ⟨rfl, hb⟩
  have he7 : Eff 0 0 w6 w7 := Eff.of hb
  have hz7 : w6.heap.size ≤ w7.heap.size := he7.size
  have b7 : Below W.heap.size W w7 := b6.trans (he7.below b6.size (by omega))
  replace w0 := w0.keep he7 (by omega)
  replace g := g.keep he7 (by omega)
  replace z0_0 := he7.cell z0_0 (by simp only; omega)
  replace z0_1 := he7.cell z0_1 (by simp only; omega)
  replace z1_0 := he7.cell z1_0 (by simp only; omega)
  replace z1_1 := he7.cell z1_1 (by simp only; omega)
  replace z0_l := Nat.lt_of_lt_of_le z0_l hz7
  replace z1_l := Nat.lt_of_lt_of_le z1_l hz7
  clear hb
  go_wp2_with fail
  refine (HI.out w7).mono ?_
  rintro e w8 ⟨Ach, nch, cch, Awh, nwh, cwh, qch, qwh, rfl, h, hb⟩
  have he8 : Eff 0 0 w7 w8 := Eff.of hb
  have hz8 : w7.heap.size ≤ w8.heap.size := he8.size
  have b8 : Below W.heap.size W w8 := b7.trans (he8.below b7.size (by omega))
  replace w0 := w0.keep he8 (by omega)
  replace g := g.keep he8 (by omega)
  replace z0_0 := he8.cell z0_0 (by simp only; omega)
  replace z0_1 := he8.cell z0_1 (by simp only; omega)
  replace z1_0 := he8.cell z1_0 (by simp only; omega)
  replace z1_1 := he8.cell z1_1 (by simp only; omega)
  replace z0_l := Nat.lt_of_lt_of_le z0_l hz8
  replace z1_l := Nat.lt_of_lt_of_le z1_l hz8
  clear hb
  have QCh := Lib.hid qch
  have QWh := Lib.hid qwh
  clear qch qwh
  go_wp2_with fail
  have he9 : Eff 0 0 w8 (w8.alloc (.cells #[.slice Ach nch cch, .slice Awh nwh cwh] 55)) := Eff.alloc _ _
  have hs9 : (w8.alloc (.cells #[.slice Ach nch cch, .slice Awh nwh cwh] 55)).heap.size = w8.heap.size + 1 := (by simp)
  have z2_0 : (w8.alloc (.cells #[.slice Ach nch cch, .slice Awh nwh cwh] 55)).cell? ⟨w8.heap.size, 0, none⟩ = some (.slice Ach nch cch) := var_cell _ _ _ _ _ rfl
  have z2_1 : (w8.alloc (.cells #[.slice Ach nch cch, .slice Awh nwh cwh] 55)).cell? ⟨w8.heap.size, 1, none⟩ = some (.slice Awh nwh cwh) := var_cell _ _ _ _ _ rfl
  generalize (w8.alloc (.cells #[.slice Ach nch cch, .slice Awh nwh cwh] 55)) = w9 at *
  have hz9 : w8.heap.size ≤ w9.heap.size := he9.size
  have b9 : Below W.heap.size W w9 := b8.trans (he9.below b8.size (by omega))
  replace w0 := w0.keep he9 (by omega)
  replace g := g.keep he9 (by omega)
  replace h := h.keep he9 (by omega)
  replace z0_0 := he9.cell z0_0 (by simp only; omega)
  replace z0_1 := he9.cell z0_1 (by simp only; omega)
  replace z1_0 := he9.cell z1_0 (by simp only; omega)
  replace z1_1 := he9.cell z1_1 (by simp only; omega)
  replace z0_l := Nat.lt_of_lt_of_le z0_l hz9
  replace z1_l := Nat.lt_of_lt_of_le z1_l hz9
  have z2_l : w8.heap.size < w9.heap.size := (by omega)
  refine (eqDisk_d Ach nch cch Awh nwh cwh Acw0 ncw0 ccw0 Aww0 nww0 cww0 _ _ w9 (h.rd (by omega)) (w0.rd (by omega)) LB.out).mono ?_
  rintro e w10 ⟨rfl, hb⟩
  have he10 : Eff 0 0 w9 w10 := Eff.of hb
  have hz10 : w9.heap.size ≤ w10.heap.size := he10.size
  have b10 : Below W.heap.size W w10 := b9.trans (he10.below b9.size (by omega))
  replace w0 := w0.keep he10 (by omega)
  replace g := g.keep he10 (by omega)
  replace h := h.keep he10 (by omega)
  replace z0_0 := he10.cell z0_0 (by simp only; omega)
  replace z0_1 := he10.cell z0_1 (by simp only; omega)
  replace z1_0 := he10.cell z1_0 (by simp only; omega)
  replace z1_1 := he10.cell z1_1 (by simp only; omega)
  replace z2_0 := he10.cell z2_0 (by simp only; omega)
  replace z2_1 := he10.cell z2_1 (by simp only; omega)
  replace z0_l := Nat.lt_of_lt_of_le z0_l hz10
  replace z1_l := Nat.lt_of_lt_of_le z1_l hz10
  replace z2_l := Nat.lt_of_lt_of_le z2_l hz10
  clear hb
  go_wp2_with fail
  refine (heldDisk_d Acg ncg ccg Awg nwg cwg 1 (R) ([]) w10 (g.rd (by omega)) LB.out (by omega) _ (by first | rfl | simp)).mono ?_
  rintro e w11 ⟨rfl, hb⟩
  have he11 : Eff 0 0 w10 w11 := Eff.of hb
  have hz11 : w10.heap.size ≤ w11.heap.size := he11.size
  have b11 : Below W.heap.size W w11 := b10.trans (he11.below b10.size (by omega))
  replace w0 := w0.keep he11 (by omega)
  replace g := g.keep he11 (by omega)
  replace h := h.keep he11 (by omega)
  replace z0_0 := he11.cell z0_0 (by simp only; omega)
  replace z0_1 := he11.cell z0_1 (by simp only; omega)
  replace z1_0 := he11.cell z1_0 (by simp only; omega)
  replace z1_1 := he11.cell z1_1 (by simp only; omega)
  replace z2_0 := he11.cell z2_0 (by simp only; omega)
  replace z2_1 := he11.cell z2_1 (by simp only; omega)
  replace z0_l := Nat.lt_of_lt_of_le z0_l hz11
  replace z1_l := Nat.lt_of_lt_of_le z1_l hz11
  replace z2_l := Nat.lt_of_lt_of_le z2_l hz11
  clear hb
  go_wp2_with fail
  go_ret
  exact ⟨rfl, b11⟩
end Go.Proofs.Ytdjjmagocakpnaa
