/- The walk of the law on PostAll. -/
import Derived.Test.YtgjphejmppehjaaPal
import Derived.Deep.RegionHeld3
namespace Go.Proofs.Ytgjphejmppehjaa
open Go.RowKit
/-- The lengths of postings' lines. -/
def nsP (ds : List (Int × List Ln)) : List Nat := ds.map fun x => x.2.length
theorem ps_n {w : World} {B n : Nat} {A : Option Addr} {es : List Ps} (h : RdPosting w B A n es) : es.map Ps.n = nsP (es.map Ps.d) := by
  unfold nsP; rw [List.map_map]
  exact List.map_congr_left fun x hx => (lnlen_of_rd (h.inn x hx)).symm
theorem ps_len {w : World} {B n : Nat} {A : Option Addr} {es : List Ps} (h : RdPosting w B A n es) {m : Nat} (hb : ∀ k ∈ nsP (es.map Ps.d), k ≤ m) : ∀ x ∈ es, x.n ≤ m := fun x hx => by
  rw [← ps_n h] at hb
  exact hb _ (List.mem_map_of_mem hx)
theorem OwnPosting.mv {w w' : World} {lo hi lo' hi' n c : Nat} {A : Option Addr} {es : List Ps} (h : OwnPosting w lo hi A n c es) (he : Eff lo' hi' w w') (hd : hi ≤ lo' ∨ hi' ≤ lo ∨ hi' ≤ lo') : OwnPosting w' lo hi A n c es := OwnR.keep h he hd
theorem spec_PostAllR {q : Int} {ls : List Ln} {ds : List (Int × List Ln)} {Q Cd : Int} {R : List Ln} (hQ : (allR q ls ds).1 = Q) (hR : (allR q ls ds).2.1 = R) (hC : (allR q ls ds).2.2 = Cd) (A : Option Addr) (n c : Nat) (Ap : Option Addr) (np cp : Nat) (es : List Ps) (W : World) (hd : es.map Ps.d = ds) (hr : Rd W W.heap.size 3 A n (lnCells ls)) (hp : RdPosting W W.heap.size Ap np es) (hn : n ≤ 1099511627776) (hnp : np ≤ 1099511627776) (hns : ∀ k ∈ nsP ds, k ≤ 1099511627776) (hc : n ≤ c ∧ c ≤ maxLen) :
    Calls Try.prog 40 #[.agg #[.int .i64 q, .slice A n c], .slice Ap np cp] W (MadePost Q R Cd W) := by
  subst hd
  rw [← hQ, ← hR, ← hC]; exact spec_PostAll q A n c ls Ap np cp es W hr hp hn hnp (ps_len hp hns) hc
theorem impl_PostAllR {q : Int} {ls : List Ln} {ds : List (Int × List Ln)} {Q Cd : Int} {R : List Ln} (hQ : (allR q ls ds).1 = Q) (hR : (allR q ls ds).2.1 = R) (hC : (allR q ls ds).2.2 = Cd) (A : Option Addr) (n c : Nat) (Ap : Option Addr) (np cp : Nat) (es : List Ps) (W : World) (hd : es.map Ps.d = ds) (hr : Rd W W.heap.size 3 A n (lnCells ls)) (hp : RdPosting W W.heap.size Ap np es) (hn : n ≤ 1099511627776) (hnp : np ≤ 1099511627776) (hns : ∀ k ∈ nsP ds, k ≤ 1099511627776) (hc : n ≤ c ∧ c ≤ maxLen) :
    Calls Try.prog 42 #[.agg #[.int .i64 q, .slice A n c], .slice Ap np cp] W (MadePost Q R Cd W) := by
  subst hd
  rw [← hQ, ← hR, ← hC]; exact impl_PostAll q A n c ls Ap np cp es W hr hp hn hnp (ps_len hp hns) hc
theorem markPostingS_z (A : Option Addr) (n c : Nat) (es : List Ps) (ns : List Nat) (lo hi k0 : Nat) (w : World) (ho : OwnPosting w lo hi A n c es) (hns : es.map Ps.n = ns) (hk0 : k0 + totS 1 3 ns ≤ 4611686018427387904) (hn : n ≤ 1099511627776) (hnb : ∀ m ∈ ns, m ≤ 1099511627776) (z : Int) (hz : z = (k0 : Int)) :
    Calls Try.prog 44 #[.slice A n c, .int .i64 z] w (MarkedPostingS A n c k0 lo hi ns w) := by subst hz; exact markPostingS_any A n c es ns lo hi k0 w ho hns hk0 hn hnb
set_option maxHeartbeats 8000000 in
set_option maxRecDepth 100000 in
theorem walk_FnExactPostAll (q : Int) (A : Option Addr) (n c : Nat) (ls : List Ln) (Ap : Option Addr) (np cp : Nat) (es : List Ps) (W : World) (_hnc : n ≤ c) (_hm : c ≤ maxLen) (hr : Rd W W.heap.size 3 A n (lnCells ls)) (_hnc' : np ≤ cp) (_hm' : cp ≤ maxLen) (hp : RdPosting W W.heap.size Ap np es) :
    Calls Try.prog 11 #[.agg #[.int .i64 q, .slice A n c], .slice Ap np cp] W fun e w' => e = .returned (.bool true) ∧ Below W.heap.size W w' := by
  unfold maxLen at _hm _hm'
  by_cases hn1 : 1048576 < n
  · go_enter Try.func11, Try.ntmps11
    go_wp2_with (go_at_call 17; refine (szLedger_any q A n c 1048576 (by omega) (by omega) _).mono ?_; rintro e w1 ⟨rfl, hb1⟩; rw [if_pos (by omega)])
    go_ret
    exact ⟨rfl, ((Below.refl _ _).alloc (Nat.le_refl _) _).trans (hb1.mono (by simp))⟩
  have hn : n ≤ 1048576 := by omega
  clear hn1
  have htl : np ≤ totS 1 1 (es.map Ps.n) := by have := totS_len (s := 1) (ns := es.map Ps.n); rw [List.length_map, hp.len Ps.hf (by omega)] at this; exact this
  obtain ⟨T, hT⟩ : ∃ T, totS 1 1 (es.map Ps.n) = T := ⟨_, rfl⟩
  rw [hT] at htl
  have HT := Lib.hid hT
  by_cases hn2 : 1048576 < n + T
  · clear hT
    go_enter Try.func11, Try.ntmps11
    go_wp2_with (first | (go_at_call 17; refine (szLedger_any q A n c 1048576 (by omega) (by omega) _).mono ?_; rintro e w1 ⟨rfl, hb1⟩; rw [if_neg (by omega)]) | (go_at_call 39; refine (szPostingS_any Ap np cp es (1048576 - (n : Int)) w1 (((hp.alloc (Nat.le_refl _) _).below hb1 (by simp)).more (by have := hb1.size; simp at this; omega)) (by omega) (by omega)).mono ?_; rintro e w2 ⟨rfl, hb2⟩; rw [HT.out]; rw [if_pos (by omega)]))
    go_ret
    exact ⟨rfl, (((Below.refl _ _).alloc (Nat.le_refl _) _).trans (hb1.mono (by simp))).trans (hb2.mono (by have := hb1.size; simp at this; omega))⟩
  have hnp : np ≤ 1048576 := by omega
  have hT2 : T ≤ 1048576 := by omega
  obtain ⟨ds, hds⟩ : ∃ ds, es.map Ps.d = ds := ⟨_, rfl⟩
  have hnsd : es.map Ps.n = nsP ds := by rw [← hds]; exact ps_n hp
  have hnb : ∀ k ∈ nsP ds, k ≤ 1099511627776 := fun k hk => by
    rw [← hnsd] at hk
    have := totS_mem hk
    omega
  have htot : totS 1 3 (nsP ds) ≤ 4398046511104 := by
    have h1 := totS_bd (sc := 1) (s := 3) (m := 1048576) (ns := nsP ds) (fun k hk => by rw [← hnsd] at hk; have := totS_mem hk; omega)
    have h2 : (nsP ds).length = np := by rw [← hnsd, List.length_map]; exact hp.len Ps.hf (by omega)
    rw [h2] at h1
    have h3 : np * (1 + 1048576 * 3) ≤ 1048576 * (1 + 1048576 * 3) := Nat.mul_le_mul_right _ hnp
    omega
  obtain ⟨T3, hT3⟩ : ∃ T3, totS 1 3 (nsP ds) = T3 := ⟨_, rfl⟩
  rw [hT3] at htot
  obtain ⟨Q, hQ⟩ : ∃ x, (allR q ls ds).1 = x := ⟨_, rfl⟩
  obtain ⟨R, hR⟩ : ∃ x, (allR q ls ds).2.1 = x := ⟨_, rfl⟩
  obtain ⟨Cd, hC⟩ : ∃ x, (allR q ls ds).2.2 = x := ⟨_, rfl⟩
  obtain ⟨N, hN⟩ : ∃ N, R.length = N := ⟨_, rfl⟩
  have hN2 : N ≤ 302 := by rw [← hN, ← hR]; exact allR_len q ls ds
  have HDS := Lib.hid hds
  have HNB := Lib.hid hnb
  have HT3 := Lib.hid hT3
  have HQ := Lib.hid hQ
  have HR := Lib.hid hR
  have HC := Lib.hid hC
  have HN := Lib.hid hN
  have hcc : (Cd != Cd) = false := by simp
  clear hQ hR hC hN hds hnsd hnb hT hT3
  go_enter Try.func11, Try.ntmps11
  go_wp2_with fail
  have he1 : Eff 0 0 W (W.alloc (.cells #[.int .i64 q, .slice A n c] 30)) := Eff.alloc _ _
  have hs1 : (W.alloc (.cells #[.int .i64 q, .slice A n c] 30)).heap.size = W.heap.size + 1 := (by simp)
  have aL_0 : (W.alloc (.cells #[.int .i64 q, .slice A n c] 30)).cell? ⟨W.heap.size, 0, none⟩ = some (.int .i64 q) := var_cell _ _ _ _ _ rfl
  have aL_1 : (W.alloc (.cells #[.int .i64 q, .slice A n c] 30)).cell? ⟨W.heap.size, 1, none⟩ = some (.slice A n c) := var_cell _ _ _ _ _ rfl
  generalize (W.alloc (.cells #[.int .i64 q, .slice A n c] 30)) = w1 at *
  have hz1 : W.heap.size ≤ w1.heap.size := he1.size
  have b1 : Below W.heap.size W w1 := he1.below (Nat.le_refl _) (by omega)
  replace hr := (hr.below (he1.below (B := W.heap.size) (by omega) (by omega)) (Nat.le_refl _))
  replace hp := (hp.below (he1.below (B := W.heap.size) (by omega) (by omega)) (Nat.le_refl _))
  have aL_l : W.heap.size < w1.heap.size := (by omega)
  refine (szLedger_any q A n c 1048576 (by omega) (by omega) w1).mono ?_
  rintro e w2 ⟨rfl, hb⟩
  have he2 : Eff 0 0 w1 w2 := Eff.of hb
  have hz2 : w1.heap.size ≤ w2.heap.size := he2.size
  have b2 : Below W.heap.size W w2 := b1.trans (he2.below b1.size (by omega))
  replace hr := (hr.below (he2.below (B := W.heap.size) (by omega) (by omega)) (Nat.le_refl _))
  replace hp := (hp.below (he2.below (B := W.heap.size) (by omega) (by omega)) (Nat.le_refl _))
  replace aL_0 := he2.cell aL_0 (by simp only; omega)
  replace aL_1 := he2.cell aL_1 (by simp only; omega)
  replace aL_l := Nat.lt_of_lt_of_le aL_l hz2
  clear hb
  rw [if_neg (by omega)]
  go_wp2_with fail
  refine (szPostingS_any Ap np cp es (1048576 - (n : Int)) w2 (hp.more (by omega)) (by omega) (by omega)).mono ?_
  rintro e w3 ⟨rfl, hb⟩
  rw [HT.out]
  have he3 : Eff 0 0 w2 w3 := Eff.of hb
  have hz3 : w2.heap.size ≤ w3.heap.size := he3.size
  have b3 : Below W.heap.size W w3 := b2.trans (he3.below b2.size (by omega))
  replace hr := (hr.below (he3.below (B := W.heap.size) (by omega) (by omega)) (Nat.le_refl _))
  replace hp := (hp.below (he3.below (B := W.heap.size) (by omega) (by omega)) (Nat.le_refl _))
  replace aL_0 := he3.cell aL_0 (by simp only; omega)
  replace aL_1 := he3.cell aL_1 (by simp only; omega)
  replace aL_l := Nat.lt_of_lt_of_le aL_l hz3
  clear hb
  rw [if_neg (by omega)]
  go_wp2_with fail
  refine (toLedger_any q A n c ls w3 (hr.more (by omega)) (by omega)).mono ?_
  rintro e w4 ⟨Ata, cta, rfl, ta, hb⟩
  have he4 : Eff 0 0 w3 w4 := Eff.of hb
  have hz4 : w3.heap.size ≤ w4.heap.size := he4.size
  have b4 : Below W.heap.size W w4 := b3.trans (he4.below b3.size (by omega))
  replace hr := (hr.below (he4.below (B := W.heap.size) (by omega) (by omega)) (Nat.le_refl _))
  replace hp := (hp.below (he4.below (B := W.heap.size) (by omega) (by omega)) (Nat.le_refl _))
  replace aL_0 := he4.cell aL_0 (by simp only; omega)
  replace aL_1 := he4.cell aL_1 (by simp only; omega)
  replace aL_l := Nat.lt_of_lt_of_le aL_l hz4
  clear hb
  go_wp2_with fail
  refine (toPostingS_any Ap np cp es w4 (hp.more (by omega)) (by omega) (ps_len hp (by rw [HDS.out]; exact HNB.out))).mono ?_
  rintro e w5 ⟨Atb, ctb, estb, rfl, hdtb, tb, hb⟩
  rw [HDS.out] at hdtb
  have HDtb := Lib.hid hdtb
  clear hdtb
  have he5 : Eff 0 0 w4 w5 := Eff.of hb
  have hz5 : w4.heap.size ≤ w5.heap.size := he5.size
  have b5 : Below W.heap.size W w5 := b4.trans (he5.below b4.size (by omega))
  replace hr := (hr.below (he5.below (B := W.heap.size) (by omega) (by omega)) (Nat.le_refl _))
  replace hp := (hp.below (he5.below (B := W.heap.size) (by omega) (by omega)) (Nat.le_refl _))
  replace ta := Own.keep ta he5 (by omega)
  replace aL_0 := he5.cell aL_0 (by simp only; omega)
  replace aL_1 := he5.cell aL_1 (by simp only; omega)
  replace aL_l := Nat.lt_of_lt_of_le aL_l hz5
  clear hb
  go_wp2_with fail
  refine (spec_PostAllR HQ.out HR.out HC.out _ n _ _ np _ _ w5 HDtb.out (Own.rd ta (Own.le ta)) (OwnR.rd tb (OwnR.le tb)) (by omega) (by omega) HNB.out (Own.caps ta)).mono ?_
  rintro e w6 hpost
  obtain ⟨AW0, nW0, cW0, hnW0, rfl, W0, hb⟩ := hpost
  rw [HN.out] at hnW0
  obtain rfl : N = nW0 := hnW0.symm
  clear hnW0
  have he6 : Eff 0 0 w5 w6 := Eff.of hb
  have hz6 : w5.heap.size ≤ w6.heap.size := he6.size
  have b6 : Below W.heap.size W w6 := b5.trans (he6.below b5.size (by omega))
  replace hr := (hr.below (he6.below (B := W.heap.size) (by omega) (by omega)) (Nat.le_refl _))
  replace hp := (hp.below (he6.below (B := W.heap.size) (by omega) (by omega)) (Nat.le_refl _))
  replace ta := Own.keep ta he6 (by omega)
  replace tb := OwnR.keep tb he6 (by omega)
  replace aL_0 := he6.cell aL_0 (by simp only; omega)
  replace aL_1 := he6.cell aL_1 (by simp only; omega)
  replace aL_l := Nat.lt_of_lt_of_le aL_l hz6
  clear hb
  clear ta
  clear tb
  have aL_0P := (Eff.alloc w6 (.cells #[.int .i64 Q, .slice AW0 N cW0] 34)).cell aL_0 (by simp only; omega)
  have aL_1P := (Eff.alloc w6 (.cells #[.int .i64 Q, .slice AW0 N cW0] 34)).cell aL_1 (by simp only; omega)
  go_wp2_with fail
  have he7 : Eff 0 0 w6 (w6.alloc (.cells #[.int .i64 Q, .slice AW0 N cW0] 34)) := Eff.alloc _ _
  have hs7 : (w6.alloc (.cells #[.int .i64 Q, .slice AW0 N cW0] 34)).heap.size = w6.heap.size + 1 := (by simp)
  have w0_0 : (w6.alloc (.cells #[.int .i64 Q, .slice AW0 N cW0] 34)).cell? ⟨w6.heap.size, 0, none⟩ = some (.int .i64 Q) := var_cell _ _ _ _ _ rfl
  have w0_1 : (w6.alloc (.cells #[.int .i64 Q, .slice AW0 N cW0] 34)).cell? ⟨w6.heap.size, 1, none⟩ = some (.slice AW0 N cW0) := var_cell _ _ _ _ _ rfl
  generalize (w6.alloc (.cells #[.int .i64 Q, .slice AW0 N cW0] 34)) = w7 at *
  have hz7 : w6.heap.size ≤ w7.heap.size := he7.size
  have b7 : Below W.heap.size W w7 := b6.trans (he7.below b6.size (by omega))
  replace hr := (hr.below (he7.below (B := W.heap.size) (by omega) (by omega)) (Nat.le_refl _))
  replace hp := (hp.below (he7.below (B := W.heap.size) (by omega) (by omega)) (Nat.le_refl _))
  replace W0 := Own.keep W0 he7 (by omega)
  replace aL_0 := he7.cell aL_0 (by simp only; omega)
  replace aL_1 := he7.cell aL_1 (by simp only; omega)
  replace aL_l := Nat.lt_of_lt_of_le aL_l hz7
  have w0_l : w6.heap.size < w7.heap.size := (by omega)
  clear aL_0P aL_1P
  have hst7 : w6.heap.size < w7.heap.size := by omega
  clear hs7
  refine (toLedger_any q A n c ls w7 (hr.more (by omega)) (by omega)).mono ?_
  rintro e w8 ⟨At1, ct1, rfl, t1, hb⟩
  have he8 : Eff 0 0 w7 w8 := Eff.of hb
  have hz8 : w7.heap.size ≤ w8.heap.size := he8.size
  have b8 : Below W.heap.size W w8 := b7.trans (he8.below b7.size (by omega))
  replace hr := (hr.below (he8.below (B := W.heap.size) (by omega) (by omega)) (Nat.le_refl _))
  replace hp := (hp.below (he8.below (B := W.heap.size) (by omega) (by omega)) (Nat.le_refl _))
  replace W0 := Own.keep W0 he8 (by omega)
  replace aL_0 := he8.cell aL_0 (by simp only; omega)
  replace aL_1 := he8.cell aL_1 (by simp only; omega)
  replace w0_0 := he8.cell w0_0 (by simp only; omega)
  replace w0_1 := he8.cell w0_1 (by simp only; omega)
  replace aL_l := Nat.lt_of_lt_of_le aL_l hz8
  replace w0_l := Nat.lt_of_lt_of_le w0_l hz8
  clear hb
  have aL_0P := (Eff.alloc w8 (.cells #[.int .i64 q, .slice At1 n ct1] 34)).cell aL_0 (by simp only; omega)
  have aL_1P := (Eff.alloc w8 (.cells #[.int .i64 q, .slice At1 n ct1] 34)).cell aL_1 (by simp only; omega)
  have w0_0P := (Eff.alloc w8 (.cells #[.int .i64 q, .slice At1 n ct1] 34)).cell w0_0 (by simp only; omega)
  have w0_1P := (Eff.alloc w8 (.cells #[.int .i64 q, .slice At1 n ct1] 34)).cell w0_1 (by simp only; omega)
  go_wp2_with fail
  have he9 : Eff 0 0 w8 (w8.alloc (.cells #[.int .i64 q, .slice At1 n ct1] 34)) := Eff.alloc _ _
  have hs9 : (w8.alloc (.cells #[.int .i64 q, .slice At1 n ct1] 34)).heap.size = w8.heap.size + 1 := (by simp)
  have x0_0 : (w8.alloc (.cells #[.int .i64 q, .slice At1 n ct1] 34)).cell? ⟨w8.heap.size, 0, none⟩ = some (.int .i64 q) := var_cell _ _ _ _ _ rfl
  have x0_1 : (w8.alloc (.cells #[.int .i64 q, .slice At1 n ct1] 34)).cell? ⟨w8.heap.size, 1, none⟩ = some (.slice At1 n ct1) := var_cell _ _ _ _ _ rfl
  generalize (w8.alloc (.cells #[.int .i64 q, .slice At1 n ct1] 34)) = w9 at *
  have hz9 : w8.heap.size ≤ w9.heap.size := he9.size
  have b9 : Below W.heap.size W w9 := b8.trans (he9.below b8.size (by omega))
  replace hr := (hr.below (he9.below (B := W.heap.size) (by omega) (by omega)) (Nat.le_refl _))
  replace hp := (hp.below (he9.below (B := W.heap.size) (by omega) (by omega)) (Nat.le_refl _))
  replace W0 := Own.keep W0 he9 (by omega)
  replace t1 := Own.keep t1 he9 (by omega)
  replace aL_0 := he9.cell aL_0 (by simp only; omega)
  replace aL_1 := he9.cell aL_1 (by simp only; omega)
  replace w0_0 := he9.cell w0_0 (by simp only; omega)
  replace w0_1 := he9.cell w0_1 (by simp only; omega)
  replace aL_l := Nat.lt_of_lt_of_le aL_l hz9
  replace w0_l := Nat.lt_of_lt_of_le w0_l hz9
  have x0_l : w8.heap.size < w9.heap.size := (by omega)
  clear aL_0P aL_1P w0_0P w0_1P
  have hst9 : w8.heap.size < w9.heap.size := by omega
  clear hs9
  refine (toPostingS_any Ap np cp es w9 (hp.more (by omega)) (by omega) (ps_len hp (by rw [HDS.out]; exact HNB.out))).mono ?_
  rintro e w10 ⟨At2, ct2, est2, rfl, hdt2, t2, hb⟩
  rw [HDS.out] at hdt2
  have HDt2 := Lib.hid hdt2
  clear hdt2
  have he10 : Eff 0 0 w9 w10 := Eff.of hb
  have hz10 : w9.heap.size ≤ w10.heap.size := he10.size
  have b10 : Below W.heap.size W w10 := b9.trans (he10.below b9.size (by omega))
  replace hr := (hr.below (he10.below (B := W.heap.size) (by omega) (by omega)) (Nat.le_refl _))
  replace hp := (hp.below (he10.below (B := W.heap.size) (by omega) (by omega)) (Nat.le_refl _))
  replace W0 := Own.keep W0 he10 (by omega)
  replace t1 := Own.keep t1 he10 (by omega)
  replace aL_0 := he10.cell aL_0 (by simp only; omega)
  replace aL_1 := he10.cell aL_1 (by simp only; omega)
  replace w0_0 := he10.cell w0_0 (by simp only; omega)
  replace w0_1 := he10.cell w0_1 (by simp only; omega)
  replace x0_0 := he10.cell x0_0 (by simp only; omega)
  replace x0_1 := he10.cell x0_1 (by simp only; omega)
  replace aL_l := Nat.lt_of_lt_of_le aL_l hz10
  replace w0_l := Nat.lt_of_lt_of_le w0_l hz10
  replace x0_l := Nat.lt_of_lt_of_le x0_l hz10
  clear hb
  go_wp2_with fail
  refine (impl_PostAllR HQ.out HR.out HC.out _ n _ _ np _ _ w10 HDt2.out (Own.rd t1 (Own.le t1)) (OwnR.rd t2 (OwnR.le t2)) (by omega) (by omega) HNB.out (Own.caps t1)).mono ?_
  rintro e w11 hpost
  obtain ⟨Ar, nr, cr, hnr, rfl, r, hb⟩ := hpost
  rw [HN.out] at hnr
  obtain rfl : N = nr := hnr.symm
  clear hnr
  have he11 : Eff 0 0 w10 w11 := Eff.of hb
  have hz11 : w10.heap.size ≤ w11.heap.size := he11.size
  have b11 : Below W.heap.size W w11 := b10.trans (he11.below b10.size (by omega))
  replace hr := (hr.below (he11.below (B := W.heap.size) (by omega) (by omega)) (Nat.le_refl _))
  replace hp := (hp.below (he11.below (B := W.heap.size) (by omega) (by omega)) (Nat.le_refl _))
  replace W0 := Own.keep W0 he11 (by omega)
  replace t1 := Own.keep t1 he11 (by omega)
  replace t2 := OwnR.keep t2 he11 (by omega)
  replace aL_0 := he11.cell aL_0 (by simp only; omega)
  replace aL_1 := he11.cell aL_1 (by simp only; omega)
  replace w0_0 := he11.cell w0_0 (by simp only; omega)
  replace w0_1 := he11.cell w0_1 (by simp only; omega)
  replace x0_0 := he11.cell x0_0 (by simp only; omega)
  replace x0_1 := he11.cell x0_1 (by simp only; omega)
  replace aL_l := Nat.lt_of_lt_of_le aL_l hz11
  replace w0_l := Nat.lt_of_lt_of_le w0_l hz11
  replace x0_l := Nat.lt_of_lt_of_le x0_l hz11
  clear hb
  have aL_0P := (Eff.alloc w11 (.cells #[.int .i64 Q, .slice Ar N cr] 34)).cell aL_0 (by simp only; omega)
  have aL_1P := (Eff.alloc w11 (.cells #[.int .i64 Q, .slice Ar N cr] 34)).cell aL_1 (by simp only; omega)
  have w0_0P := (Eff.alloc w11 (.cells #[.int .i64 Q, .slice Ar N cr] 34)).cell w0_0 (by simp only; omega)
  have w0_1P := (Eff.alloc w11 (.cells #[.int .i64 Q, .slice Ar N cr] 34)).cell w0_1 (by simp only; omega)
  have x0_0P := (Eff.alloc w11 (.cells #[.int .i64 Q, .slice Ar N cr] 34)).cell x0_0 (by simp only; omega)
  have x0_1P := (Eff.alloc w11 (.cells #[.int .i64 Q, .slice Ar N cr] 34)).cell x0_1 (by simp only; omega)
  go_wp2_with fail
  have he12 : Eff 0 0 w11 (w11.alloc (.cells #[.int .i64 Q, .slice Ar N cr] 34)) := Eff.alloc _ _
  have hs12 : (w11.alloc (.cells #[.int .i64 Q, .slice Ar N cr] 34)).heap.size = w11.heap.size + 1 := (by simp)
  have g0_0 : (w11.alloc (.cells #[.int .i64 Q, .slice Ar N cr] 34)).cell? ⟨w11.heap.size, 0, none⟩ = some (.int .i64 Q) := var_cell _ _ _ _ _ rfl
  have g0_1 : (w11.alloc (.cells #[.int .i64 Q, .slice Ar N cr] 34)).cell? ⟨w11.heap.size, 1, none⟩ = some (.slice Ar N cr) := var_cell _ _ _ _ _ rfl
  generalize (w11.alloc (.cells #[.int .i64 Q, .slice Ar N cr] 34)) = w12 at *
  have hz12 : w11.heap.size ≤ w12.heap.size := he12.size
  have b12 : Below W.heap.size W w12 := b11.trans (he12.below b11.size (by omega))
  replace hr := (hr.below (he12.below (B := W.heap.size) (by omega) (by omega)) (Nat.le_refl _))
  replace hp := (hp.below (he12.below (B := W.heap.size) (by omega) (by omega)) (Nat.le_refl _))
  replace W0 := Own.keep W0 he12 (by omega)
  replace t1 := Own.keep t1 he12 (by omega)
  replace t2 := OwnR.keep t2 he12 (by omega)
  replace r := Own.keep r he12 (by omega)
  replace aL_0 := he12.cell aL_0 (by simp only; omega)
  replace aL_1 := he12.cell aL_1 (by simp only; omega)
  replace w0_0 := he12.cell w0_0 (by simp only; omega)
  replace w0_1 := he12.cell w0_1 (by simp only; omega)
  replace x0_0 := he12.cell x0_0 (by simp only; omega)
  replace x0_1 := he12.cell x0_1 (by simp only; omega)
  replace aL_l := Nat.lt_of_lt_of_le aL_l hz12
  replace w0_l := Nat.lt_of_lt_of_le w0_l hz12
  replace x0_l := Nat.lt_of_lt_of_le x0_l hz12
  have g0_l : w11.heap.size < w12.heap.size := (by omega)
  clear aL_0P aL_1P w0_0P w0_1P x0_0P x0_1P
  have hst12 : w11.heap.size < w12.heap.size := by omega
  clear hs12
  have hlr := Own.le r
  refine (eqLedger_same Q _ N _ _ N _ R w12 (Own.rd r (by omega)) (Own.rd W0 (by omega)) (by omega)).mono ?_
  rintro e w13 ⟨rfl, hb⟩
  have he13 : Eff 0 0 w12 w13 := Eff.of hb
  have hz13 : w12.heap.size ≤ w13.heap.size := he13.size
  have b13 : Below W.heap.size W w13 := b12.trans (he13.below b12.size (by omega))
  replace hr := (hr.below (he13.below (B := W.heap.size) (by omega) (by omega)) (Nat.le_refl _))
  replace hp := (hp.below (he13.below (B := W.heap.size) (by omega) (by omega)) (Nat.le_refl _))
  replace W0 := Own.keep W0 he13 (by omega)
  replace t1 := Own.keep t1 he13 (by omega)
  replace t2 := OwnR.keep t2 he13 (by omega)
  replace r := Own.keep r he13 (by omega)
  replace aL_0 := he13.cell aL_0 (by simp only; omega)
  replace aL_1 := he13.cell aL_1 (by simp only; omega)
  replace w0_0 := he13.cell w0_0 (by simp only; omega)
  replace w0_1 := he13.cell w0_1 (by simp only; omega)
  replace x0_0 := he13.cell x0_0 (by simp only; omega)
  replace x0_1 := he13.cell x0_1 (by simp only; omega)
  replace g0_0 := he13.cell g0_0 (by simp only; omega)
  replace g0_1 := he13.cell g0_1 (by simp only; omega)
  replace aL_l := Nat.lt_of_lt_of_le aL_l hz13
  replace w0_l := Nat.lt_of_lt_of_le w0_l hz13
  replace x0_l := Nat.lt_of_lt_of_le x0_l hz13
  replace g0_l := Nat.lt_of_lt_of_le g0_l hz13
  clear hb
  go_wp2_with fail
  have he14 : Eff 0 0 w13 w13.drew := (Eff.refl _ _ _).drew
  have hz14 : w13.heap.size ≤ w13.drew.heap.size := he14.size
  have b14 : Below W.heap.size W w13.drew := b13.trans (he14.below b13.size (by omega))
  replace hr := (hr.below (he14.below (B := W.heap.size) (by omega) (by omega)) (Nat.le_refl _))
  replace hp := (hp.below (he14.below (B := W.heap.size) (by omega) (by omega)) (Nat.le_refl _))
  replace W0 := Own.keep W0 he14 (by omega)
  replace t1 := Own.keep t1 he14 (by omega)
  replace t2 := OwnR.keep t2 he14 (by omega)
  replace r := Own.keep r he14 (by omega)
  replace aL_0 := he14.cell aL_0 (by simp only; omega)
  replace aL_1 := he14.cell aL_1 (by simp only; omega)
  replace w0_0 := he14.cell w0_0 (by simp only; omega)
  replace w0_1 := he14.cell w0_1 (by simp only; omega)
  replace x0_0 := he14.cell x0_0 (by simp only; omega)
  replace x0_1 := he14.cell x0_1 (by simp only; omega)
  replace g0_0 := he14.cell g0_0 (by simp only; omega)
  replace g0_1 := he14.cell g0_1 (by simp only; omega)
  replace aL_l := Nat.lt_of_lt_of_le aL_l hz14
  replace w0_l := Nat.lt_of_lt_of_le w0_l hz14
  replace x0_l := Nat.lt_of_lt_of_le x0_l hz14
  replace g0_l := Nat.lt_of_lt_of_le g0_l hz14
  go_region_held3 (fun w' => w'.cell? ⟨W.heap.size, 0, none⟩ = some (.int .i64 q) ∧ w'.cell? ⟨W.heap.size, 1, none⟩ = some (.slice A n c) ∧ w'.cell? ⟨w8.heap.size, 0, none⟩ = some (.int .i64 q) ∧ w'.cell? ⟨w8.heap.size, 1, none⟩ = some (.slice At1 n ct1)) ((go_split_ands; (repeat' apply And.intro) <;> (first | assumption))) (first | (go_at_call 19; refine (toLedger_any q A n c ls w13.drew (hr.more (by omega)) (by omega)).mono ?_; rintro e w15 ⟨At3, ct3, rfl, t3, hb⟩; have he15 : Eff 0 0 w13.drew w15 := Eff.of hb; have hz15 : w13.drew.heap.size ≤ w15.heap.size := he15.size; have b15 : Below W.heap.size W w15 := b14.trans (he15.below b14.size (by omega)); replace hr := (hr.below (he15.below (B := W.heap.size) (by omega) (by omega)) (Nat.le_refl _)); replace hp := (hp.below (he15.below (B := W.heap.size) (by omega) (by omega)) (Nat.le_refl _)); replace W0 := Own.keep W0 he15 (by omega); replace t1 := Own.keep t1 he15 (by omega); replace t2 := OwnR.keep t2 he15 (by omega); replace r := Own.keep r he15 (by omega); replace aL_0 := he15.cell aL_0 (by simp only; omega); replace aL_1 := he15.cell aL_1 (by simp only; omega); replace w0_0 := he15.cell w0_0 (by simp only; omega); replace w0_1 := he15.cell w0_1 (by simp only; omega); replace x0_0 := he15.cell x0_0 (by simp only; omega); replace x0_1 := he15.cell x0_1 (by simp only; omega); replace g0_0 := he15.cell g0_0 (by simp only; omega); replace g0_1 := he15.cell g0_1 (by simp only; omega); replace aL_l := Nat.lt_of_lt_of_le aL_l hz15; replace w0_l := Nat.lt_of_lt_of_le w0_l hz15; replace x0_l := Nat.lt_of_lt_of_le x0_l hz15; replace g0_l := Nat.lt_of_lt_of_le g0_l hz15; clear hb) | (go_at_call 21; refine (eqLedger_same q _ n _ _ n _ ls w15 (Own.rd t1 (by omega)) (Own.rd t3 (by omega)) (by omega)).mono ?_; rintro e w16 ⟨rfl, hb⟩; have he16 : Eff 0 0 w15 w16 := Eff.of hb; have hz16 : w15.heap.size ≤ w16.heap.size := he16.size; have b16 : Below W.heap.size W w16 := b15.trans (he16.below b15.size (by omega)); replace hr := (hr.below (he16.below (B := W.heap.size) (by omega) (by omega)) (Nat.le_refl _)); replace hp := (hp.below (he16.below (B := W.heap.size) (by omega) (by omega)) (Nat.le_refl _)); replace W0 := Own.keep W0 he16 (by omega); replace t1 := Own.keep t1 he16 (by omega); replace t2 := OwnR.keep t2 he16 (by omega); replace r := Own.keep r he16 (by omega); replace t3 := Own.keep t3 he16 (by omega); replace aL_0 := he16.cell aL_0 (by simp only; omega); replace aL_1 := he16.cell aL_1 (by simp only; omega); replace w0_0 := he16.cell w0_0 (by simp only; omega); replace w0_1 := he16.cell w0_1 (by simp only; omega); replace x0_0 := he16.cell x0_0 (by simp only; omega); replace x0_1 := he16.cell x0_1 (by simp only; omega); replace g0_0 := he16.cell g0_0 (by simp only; omega); replace g0_1 := he16.cell g0_1 (by simp only; omega); replace aL_l := Nat.lt_of_lt_of_le aL_l hz16; replace w0_l := Nat.lt_of_lt_of_le w0_l hz16; replace x0_l := Nat.lt_of_lt_of_le x0_l hz16; replace g0_l := Nat.lt_of_lt_of_le g0_l hz16; clear hb))
  clear t3
  go_wp2_with fail
  refine (toPostingS_any Ap np cp es w16 (hp.more (by omega)) (by omega) (ps_len hp (by rw [HDS.out]; exact HNB.out))).mono ?_
  rintro e w17 ⟨At4, ct4, est4, rfl, hdt4, t4, hb⟩
  rw [HDS.out] at hdt4
  have HDt4 := Lib.hid hdt4
  clear hdt4
  have he17 : Eff 0 0 w16 w17 := Eff.of hb
  have hz17 : w16.heap.size ≤ w17.heap.size := he17.size
  have b17 : Below W.heap.size W w17 := b16.trans (he17.below b16.size (by omega))
  replace hr := (hr.below (he17.below (B := W.heap.size) (by omega) (by omega)) (Nat.le_refl _))
  replace hp := (hp.below (he17.below (B := W.heap.size) (by omega) (by omega)) (Nat.le_refl _))
  replace W0 := Own.keep W0 he17 (by omega)
  replace t1 := Own.keep t1 he17 (by omega)
  replace t2 := OwnR.keep t2 he17 (by omega)
  replace r := Own.keep r he17 (by omega)
  replace aL_0 := he17.cell aL_0 (by simp only; omega)
  replace aL_1 := he17.cell aL_1 (by simp only; omega)
  replace w0_0 := he17.cell w0_0 (by simp only; omega)
  replace w0_1 := he17.cell w0_1 (by simp only; omega)
  replace x0_0 := he17.cell x0_0 (by simp only; omega)
  replace x0_1 := he17.cell x0_1 (by simp only; omega)
  replace g0_0 := he17.cell g0_0 (by simp only; omega)
  replace g0_1 := he17.cell g0_1 (by simp only; omega)
  replace aL_l := Nat.lt_of_lt_of_le aL_l hz17
  replace w0_l := Nat.lt_of_lt_of_le w0_l hz17
  replace x0_l := Nat.lt_of_lt_of_le x0_l hz17
  replace g0_l := Nat.lt_of_lt_of_le g0_l hz17
  clear hb
  go_wp2_with fail
  refine (eqPostingS_same _ np _ est2 _ np _ est4 w17 (OwnR.rd t2 (by omega)) (OwnR.rd t4 (by omega)) (HDt2.out.trans HDt4.out.symm) (by omega) (ps_len (OwnR.rd t2 (by omega : _ ≤ w17.heap.size)) (by rw [HDt2.out]; exact HNB.out)) (ps_len (OwnR.rd t4 (by omega : _ ≤ w17.heap.size)) (by rw [HDt4.out]; exact HNB.out))).mono ?_
  rintro e w18 ⟨rfl, hb⟩
  have he18 : Eff 0 0 w17 w18 := Eff.of hb
  have hz18 : w17.heap.size ≤ w18.heap.size := he18.size
  have b18 : Below W.heap.size W w18 := b17.trans (he18.below b17.size (by omega))
  replace hr := (hr.below (he18.below (B := W.heap.size) (by omega) (by omega)) (Nat.le_refl _))
  replace hp := (hp.below (he18.below (B := W.heap.size) (by omega) (by omega)) (Nat.le_refl _))
  replace W0 := Own.keep W0 he18 (by omega)
  replace t1 := Own.keep t1 he18 (by omega)
  replace t2 := OwnR.keep t2 he18 (by omega)
  replace r := Own.keep r he18 (by omega)
  replace t4 := OwnR.keep t4 he18 (by omega)
  replace aL_0 := he18.cell aL_0 (by simp only; omega)
  replace aL_1 := he18.cell aL_1 (by simp only; omega)
  replace w0_0 := he18.cell w0_0 (by simp only; omega)
  replace w0_1 := he18.cell w0_1 (by simp only; omega)
  replace x0_0 := he18.cell x0_0 (by simp only; omega)
  replace x0_1 := he18.cell x0_1 (by simp only; omega)
  replace g0_0 := he18.cell g0_0 (by simp only; omega)
  replace g0_1 := he18.cell g0_1 (by simp only; omega)
  replace aL_l := Nat.lt_of_lt_of_le aL_l hz18
  replace w0_l := Nat.lt_of_lt_of_le w0_l hz18
  replace x0_l := Nat.lt_of_lt_of_le x0_l hz18
  replace g0_l := Nat.lt_of_lt_of_le g0_l hz18
  clear hb
  clear t4
  go_wp2_with fail
  refine (markLedger_z q _ n _ ls _ _ 1 w18 t1 (by omega) (by omega) _ rfl).mono ?_
  rintro e w19 ⟨rfl, t1, he⟩
  have he19 : Eff (w7.heap.size) (w8.heap.size) w18 w19 := he
  have hz19 : w18.heap.size ≤ w19.heap.size := he19.size
  have b19 : Below W.heap.size W w19 := b18.trans (he19.below b18.size (by omega))
  replace hr := (hr.below (he19.below (B := W.heap.size) (by omega) (by omega)) (Nat.le_refl _))
  replace hp := (hp.below (he19.below (B := W.heap.size) (by omega) (by omega)) (Nat.le_refl _))
  replace W0 := Own.keep W0 he19 (by omega)
  replace t2 := OwnR.keep t2 he19 (by omega)
  replace r := Own.keep r he19 (by omega)
  replace aL_0 := he19.cell aL_0 (by simp only; omega)
  replace aL_1 := he19.cell aL_1 (by simp only; omega)
  replace w0_0 := he19.cell w0_0 (by simp only; omega)
  replace w0_1 := he19.cell w0_1 (by simp only; omega)
  replace x0_0 := he19.cell x0_0 (by simp only; omega)
  replace x0_1 := he19.cell x0_1 (by simp only; omega)
  replace g0_0 := he19.cell g0_0 (by simp only; omega)
  replace g0_1 := he19.cell g0_1 (by simp only; omega)
  replace aL_l := Nat.lt_of_lt_of_le aL_l hz19
  replace w0_l := Nat.lt_of_lt_of_le w0_l hz19
  replace x0_l := Nat.lt_of_lt_of_le x0_l hz19
  replace g0_l := Nat.lt_of_lt_of_le g0_l hz19
  clear he
  have hn2 : est2.map Ps.n = nsP ds := by rw [← HDt2.out]; exact ps_n (OwnR.rd t2 (Nat.le_refl _))
  have HN2 := Lib.hid hn2
  clear hn2
  go_wp2_with fail
  refine (markPostingS_z _ np _ est2 (nsP ds) _ _ (1 + n * 3) w19 t2 HN2.out (by rw [HT3.out]; omega) (by omega) HNB.out _ (by simp)).mono ?_
  rintro e w20 ⟨es9, rfl, -, -, t9, he⟩
  rw [HT3.out]
  have he20 : Eff (w9.heap.size) (w10.heap.size) w19 w20 := he
  have hz20 : w19.heap.size ≤ w20.heap.size := he20.size
  have b20 : Below W.heap.size W w20 := b19.trans (he20.below b19.size (by omega))
  replace hr := (hr.below (he20.below (B := W.heap.size) (by omega) (by omega)) (Nat.le_refl _))
  replace hp := (hp.below (he20.below (B := W.heap.size) (by omega) (by omega)) (Nat.le_refl _))
  replace W0 := Own.keep W0 he20 (by omega)
  replace t1 := Own.keep t1 he20 (by omega)
  replace r := Own.keep r he20 (by omega)
  replace aL_0 := he20.cell aL_0 (by simp only; omega)
  replace aL_1 := he20.cell aL_1 (by simp only; omega)
  replace w0_0 := he20.cell w0_0 (by simp only; omega)
  replace w0_1 := he20.cell w0_1 (by simp only; omega)
  replace x0_0 := he20.cell x0_0 (by simp only; omega)
  replace x0_1 := he20.cell x0_1 (by simp only; omega)
  replace g0_0 := he20.cell g0_0 (by simp only; omega)
  replace g0_1 := he20.cell g0_1 (by simp only; omega)
  replace aL_l := Nat.lt_of_lt_of_le aL_l hz20
  replace w0_l := Nat.lt_of_lt_of_le w0_l hz20
  replace x0_l := Nat.lt_of_lt_of_le x0_l hz20
  replace g0_l := Nat.lt_of_lt_of_le g0_l hz20
  clear he
  clear t2
  clear t9
  go_wp2_with fail
  refine (eqLedger_same Q _ N _ _ N _ R w20 (Own.rd r (by omega)) (Own.rd W0 (by omega)) (by omega)).mono ?_
  rintro e w21 ⟨rfl, hb⟩
  have he21 : Eff 0 0 w20 w21 := Eff.of hb
  have hz21 : w20.heap.size ≤ w21.heap.size := he21.size
  have b21 : Below W.heap.size W w21 := b20.trans (he21.below b20.size (by omega))
  replace hr := (hr.below (he21.below (B := W.heap.size) (by omega) (by omega)) (Nat.le_refl _))
  replace hp := (hp.below (he21.below (B := W.heap.size) (by omega) (by omega)) (Nat.le_refl _))
  replace W0 := Own.keep W0 he21 (by omega)
  replace t1 := Own.keep t1 he21 (by omega)
  replace r := Own.keep r he21 (by omega)
  replace aL_0 := he21.cell aL_0 (by simp only; omega)
  replace aL_1 := he21.cell aL_1 (by simp only; omega)
  replace w0_0 := he21.cell w0_0 (by simp only; omega)
  replace w0_1 := he21.cell w0_1 (by simp only; omega)
  replace x0_0 := he21.cell x0_0 (by simp only; omega)
  replace x0_1 := he21.cell x0_1 (by simp only; omega)
  replace g0_0 := he21.cell g0_0 (by simp only; omega)
  replace g0_1 := he21.cell g0_1 (by simp only; omega)
  replace aL_l := Nat.lt_of_lt_of_le aL_l hz21
  replace w0_l := Nat.lt_of_lt_of_le w0_l hz21
  replace x0_l := Nat.lt_of_lt_of_le x0_l hz21
  replace g0_l := Nat.lt_of_lt_of_le g0_l hz21
  clear hb
  go_wp2_with fail
  refine (markLedger_z Q _ N _ R _ _ 1 w21 r (by omega) (by omega) _ rfl).mono ?_
  rintro e w22 ⟨rfl, r, he⟩
  have he22 : Eff (w10.heap.size) (w11.heap.size) w21 w22 := he
  have hz22 : w21.heap.size ≤ w22.heap.size := he22.size
  have b22 : Below W.heap.size W w22 := b21.trans (he22.below b21.size (by omega))
  replace hr := (hr.below (he22.below (B := W.heap.size) (by omega) (by omega)) (Nat.le_refl _))
  replace hp := (hp.below (he22.below (B := W.heap.size) (by omega) (by omega)) (Nat.le_refl _))
  replace W0 := Own.keep W0 he22 (by omega)
  replace t1 := Own.keep t1 he22 (by omega)
  replace aL_0 := he22.cell aL_0 (by simp only; omega)
  replace aL_1 := he22.cell aL_1 (by simp only; omega)
  replace w0_0 := he22.cell w0_0 (by simp only; omega)
  replace w0_1 := he22.cell w0_1 (by simp only; omega)
  replace x0_0 := he22.cell x0_0 (by simp only; omega)
  replace x0_1 := he22.cell x0_1 (by simp only; omega)
  replace g0_0 := he22.cell g0_0 (by simp only; omega)
  replace g0_1 := he22.cell g0_1 (by simp only; omega)
  replace aL_l := Nat.lt_of_lt_of_le aL_l hz22
  replace w0_l := Nat.lt_of_lt_of_le w0_l hz22
  replace x0_l := Nat.lt_of_lt_of_le x0_l hz22
  replace g0_l := Nat.lt_of_lt_of_le g0_l hz22
  clear he
  go_wp2_with fail
  refine (heldLedger_z Q _ N _ 1 w22 (Own.rd r (by omega)) (by omega) (by omega) _ rfl).mono ?_
  rintro e w23 ⟨rfl, hb⟩
  have he23 : Eff 0 0 w22 w23 := Eff.of hb
  have hz23 : w22.heap.size ≤ w23.heap.size := he23.size
  have b23 : Below W.heap.size W w23 := b22.trans (he23.below b22.size (by omega))
  replace hr := (hr.below (he23.below (B := W.heap.size) (by omega) (by omega)) (Nat.le_refl _))
  replace hp := (hp.below (he23.below (B := W.heap.size) (by omega) (by omega)) (Nat.le_refl _))
  replace W0 := Own.keep W0 he23 (by omega)
  replace t1 := Own.keep t1 he23 (by omega)
  replace r := Own.keep r he23 (by omega)
  replace aL_0 := he23.cell aL_0 (by simp only; omega)
  replace aL_1 := he23.cell aL_1 (by simp only; omega)
  replace w0_0 := he23.cell w0_0 (by simp only; omega)
  replace w0_1 := he23.cell w0_1 (by simp only; omega)
  replace x0_0 := he23.cell x0_0 (by simp only; omega)
  replace x0_1 := he23.cell x0_1 (by simp only; omega)
  replace g0_0 := he23.cell g0_0 (by simp only; omega)
  replace g0_1 := he23.cell g0_1 (by simp only; omega)
  replace aL_l := Nat.lt_of_lt_of_le aL_l hz23
  replace w0_l := Nat.lt_of_lt_of_le w0_l hz23
  replace x0_l := Nat.lt_of_lt_of_le x0_l hz23
  replace g0_l := Nat.lt_of_lt_of_le g0_l hz23
  clear hb
  clear t1
  clear x0_l
  clear x0_0
  clear x0_1
  go_wp2_with fail
  refine (toLedger_any q A n c ls w23 (hr.more (by omega)) (by omega)).mono ?_
  rintro e w24 ⟨At5, ct5, rfl, t5, hb⟩
  have he24 : Eff 0 0 w23 w24 := Eff.of hb
  have hz24 : w23.heap.size ≤ w24.heap.size := he24.size
  have b24 : Below W.heap.size W w24 := b23.trans (he24.below b23.size (by omega))
  replace hr := (hr.below (he24.below (B := W.heap.size) (by omega) (by omega)) (Nat.le_refl _))
  replace hp := (hp.below (he24.below (B := W.heap.size) (by omega) (by omega)) (Nat.le_refl _))
  replace W0 := Own.keep W0 he24 (by omega)
  replace r := Own.keep r he24 (by omega)
  replace aL_0 := he24.cell aL_0 (by simp only; omega)
  replace aL_1 := he24.cell aL_1 (by simp only; omega)
  replace w0_0 := he24.cell w0_0 (by simp only; omega)
  replace w0_1 := he24.cell w0_1 (by simp only; omega)
  replace g0_0 := he24.cell g0_0 (by simp only; omega)
  replace g0_1 := he24.cell g0_1 (by simp only; omega)
  replace aL_l := Nat.lt_of_lt_of_le aL_l hz24
  replace w0_l := Nat.lt_of_lt_of_le w0_l hz24
  replace g0_l := Nat.lt_of_lt_of_le g0_l hz24
  clear hb
  go_wp2_with fail
  refine (toPostingS_any Ap np cp es w24 (hp.more (by omega)) (by omega) (ps_len hp (by rw [HDS.out]; exact HNB.out))).mono ?_
  rintro e w25 ⟨At6, ct6, est6, rfl, hdt6, t6, hb⟩
  rw [HDS.out] at hdt6
  have HDt6 := Lib.hid hdt6
  clear hdt6
  have he25 : Eff 0 0 w24 w25 := Eff.of hb
  have hz25 : w24.heap.size ≤ w25.heap.size := he25.size
  have b25 : Below W.heap.size W w25 := b24.trans (he25.below b24.size (by omega))
  replace hr := (hr.below (he25.below (B := W.heap.size) (by omega) (by omega)) (Nat.le_refl _))
  replace hp := (hp.below (he25.below (B := W.heap.size) (by omega) (by omega)) (Nat.le_refl _))
  replace W0 := Own.keep W0 he25 (by omega)
  replace r := Own.keep r he25 (by omega)
  replace t5 := Own.keep t5 he25 (by omega)
  replace aL_0 := he25.cell aL_0 (by simp only; omega)
  replace aL_1 := he25.cell aL_1 (by simp only; omega)
  replace w0_0 := he25.cell w0_0 (by simp only; omega)
  replace w0_1 := he25.cell w0_1 (by simp only; omega)
  replace g0_0 := he25.cell g0_0 (by simp only; omega)
  replace g0_1 := he25.cell g0_1 (by simp only; omega)
  replace aL_l := Nat.lt_of_lt_of_le aL_l hz25
  replace w0_l := Nat.lt_of_lt_of_le w0_l hz25
  replace g0_l := Nat.lt_of_lt_of_le g0_l hz25
  clear hb
  go_wp2_with fail
  refine (impl_PostAllR HQ.out HR.out HC.out _ n _ _ np _ _ w25 HDt6.out (Own.rd t5 (Own.le t5)) (OwnR.rd t6 (OwnR.le t6)) (by omega) (by omega) HNB.out (Own.caps t5)).mono ?_
  rintro e w26 hpost
  obtain ⟨AH0, nH0, cH0, hnH0, rfl, H0, hb⟩ := hpost
  rw [HN.out] at hnH0
  obtain rfl : N = nH0 := hnH0.symm
  clear hnH0
  have he26 : Eff 0 0 w25 w26 := Eff.of hb
  have hz26 : w25.heap.size ≤ w26.heap.size := he26.size
  have b26 : Below W.heap.size W w26 := b25.trans (he26.below b25.size (by omega))
  replace hr := (hr.below (he26.below (B := W.heap.size) (by omega) (by omega)) (Nat.le_refl _))
  replace hp := (hp.below (he26.below (B := W.heap.size) (by omega) (by omega)) (Nat.le_refl _))
  replace W0 := Own.keep W0 he26 (by omega)
  replace r := Own.keep r he26 (by omega)
  replace t5 := Own.keep t5 he26 (by omega)
  replace t6 := OwnR.keep t6 he26 (by omega)
  replace aL_0 := he26.cell aL_0 (by simp only; omega)
  replace aL_1 := he26.cell aL_1 (by simp only; omega)
  replace w0_0 := he26.cell w0_0 (by simp only; omega)
  replace w0_1 := he26.cell w0_1 (by simp only; omega)
  replace g0_0 := he26.cell g0_0 (by simp only; omega)
  replace g0_1 := he26.cell g0_1 (by simp only; omega)
  replace aL_l := Nat.lt_of_lt_of_le aL_l hz26
  replace w0_l := Nat.lt_of_lt_of_le w0_l hz26
  replace g0_l := Nat.lt_of_lt_of_le g0_l hz26
  clear hb
  clear t5
  clear t6
  have aL_0P := (Eff.alloc w26 (.cells #[.int .i64 Q, .slice AH0 N cH0] 34)).cell aL_0 (by simp only; omega)
  have aL_1P := (Eff.alloc w26 (.cells #[.int .i64 Q, .slice AH0 N cH0] 34)).cell aL_1 (by simp only; omega)
  have w0_0P := (Eff.alloc w26 (.cells #[.int .i64 Q, .slice AH0 N cH0] 34)).cell w0_0 (by simp only; omega)
  have w0_1P := (Eff.alloc w26 (.cells #[.int .i64 Q, .slice AH0 N cH0] 34)).cell w0_1 (by simp only; omega)
  have g0_0P := (Eff.alloc w26 (.cells #[.int .i64 Q, .slice AH0 N cH0] 34)).cell g0_0 (by simp only; omega)
  have g0_1P := (Eff.alloc w26 (.cells #[.int .i64 Q, .slice AH0 N cH0] 34)).cell g0_1 (by simp only; omega)
  go_wp2_with fail
  have he27 : Eff 0 0 w26 (w26.alloc (.cells #[.int .i64 Q, .slice AH0 N cH0] 34)) := Eff.alloc _ _
  have hs27 : (w26.alloc (.cells #[.int .i64 Q, .slice AH0 N cH0] 34)).heap.size = w26.heap.size + 1 := (by simp)
  have h0_0 : (w26.alloc (.cells #[.int .i64 Q, .slice AH0 N cH0] 34)).cell? ⟨w26.heap.size, 0, none⟩ = some (.int .i64 Q) := var_cell _ _ _ _ _ rfl
  have h0_1 : (w26.alloc (.cells #[.int .i64 Q, .slice AH0 N cH0] 34)).cell? ⟨w26.heap.size, 1, none⟩ = some (.slice AH0 N cH0) := var_cell _ _ _ _ _ rfl
  generalize (w26.alloc (.cells #[.int .i64 Q, .slice AH0 N cH0] 34)) = w27 at *
  have hz27 : w26.heap.size ≤ w27.heap.size := he27.size
  have b27 : Below W.heap.size W w27 := b26.trans (he27.below b26.size (by omega))
  replace hr := (hr.below (he27.below (B := W.heap.size) (by omega) (by omega)) (Nat.le_refl _))
  replace hp := (hp.below (he27.below (B := W.heap.size) (by omega) (by omega)) (Nat.le_refl _))
  replace W0 := Own.keep W0 he27 (by omega)
  replace r := Own.keep r he27 (by omega)
  replace H0 := Own.keep H0 he27 (by omega)
  replace aL_0 := he27.cell aL_0 (by simp only; omega)
  replace aL_1 := he27.cell aL_1 (by simp only; omega)
  replace w0_0 := he27.cell w0_0 (by simp only; omega)
  replace w0_1 := he27.cell w0_1 (by simp only; omega)
  replace g0_0 := he27.cell g0_0 (by simp only; omega)
  replace g0_1 := he27.cell g0_1 (by simp only; omega)
  replace aL_l := Nat.lt_of_lt_of_le aL_l hz27
  replace w0_l := Nat.lt_of_lt_of_le w0_l hz27
  replace g0_l := Nat.lt_of_lt_of_le g0_l hz27
  have h0_l : w26.heap.size < w27.heap.size := (by omega)
  clear aL_0P aL_1P w0_0P w0_1P g0_0P g0_1P
  have hst27 : w26.heap.size < w27.heap.size := by omega
  clear hs27
  refine (eqLedger_same Q _ N _ _ N _ R w27 (Own.rd H0 (by omega)) (Own.rd W0 (by omega)) (by omega)).mono ?_
  rintro e w28 ⟨rfl, hb⟩
  have he28 : Eff 0 0 w27 w28 := Eff.of hb
  have hz28 : w27.heap.size ≤ w28.heap.size := he28.size
  have b28 : Below W.heap.size W w28 := b27.trans (he28.below b27.size (by omega))
  replace hr := (hr.below (he28.below (B := W.heap.size) (by omega) (by omega)) (Nat.le_refl _))
  replace hp := (hp.below (he28.below (B := W.heap.size) (by omega) (by omega)) (Nat.le_refl _))
  replace W0 := Own.keep W0 he28 (by omega)
  replace r := Own.keep r he28 (by omega)
  replace H0 := Own.keep H0 he28 (by omega)
  replace aL_0 := he28.cell aL_0 (by simp only; omega)
  replace aL_1 := he28.cell aL_1 (by simp only; omega)
  replace w0_0 := he28.cell w0_0 (by simp only; omega)
  replace w0_1 := he28.cell w0_1 (by simp only; omega)
  replace g0_0 := he28.cell g0_0 (by simp only; omega)
  replace g0_1 := he28.cell g0_1 (by simp only; omega)
  replace h0_0 := he28.cell h0_0 (by simp only; omega)
  replace h0_1 := he28.cell h0_1 (by simp only; omega)
  replace aL_l := Nat.lt_of_lt_of_le aL_l hz28
  replace w0_l := Nat.lt_of_lt_of_le w0_l hz28
  replace g0_l := Nat.lt_of_lt_of_le g0_l hz28
  replace h0_l := Nat.lt_of_lt_of_le h0_l hz28
  clear hb
  go_wp2_with fail
  refine (heldLedger_z Q _ N _ 1 w28 (Own.rd r (by omega)) (by omega) (by omega) _ rfl).mono ?_
  rintro e w29 ⟨rfl, hb⟩
  have he29 : Eff 0 0 w28 w29 := Eff.of hb
  have hz29 : w28.heap.size ≤ w29.heap.size := he29.size
  have b29 : Below W.heap.size W w29 := b28.trans (he29.below b28.size (by omega))
  replace hr := (hr.below (he29.below (B := W.heap.size) (by omega) (by omega)) (Nat.le_refl _))
  replace hp := (hp.below (he29.below (B := W.heap.size) (by omega) (by omega)) (Nat.le_refl _))
  replace W0 := Own.keep W0 he29 (by omega)
  replace r := Own.keep r he29 (by omega)
  replace H0 := Own.keep H0 he29 (by omega)
  replace aL_0 := he29.cell aL_0 (by simp only; omega)
  replace aL_1 := he29.cell aL_1 (by simp only; omega)
  replace w0_0 := he29.cell w0_0 (by simp only; omega)
  replace w0_1 := he29.cell w0_1 (by simp only; omega)
  replace g0_0 := he29.cell g0_0 (by simp only; omega)
  replace g0_1 := he29.cell g0_1 (by simp only; omega)
  replace h0_0 := he29.cell h0_0 (by simp only; omega)
  replace h0_1 := he29.cell h0_1 (by simp only; omega)
  replace aL_l := Nat.lt_of_lt_of_le aL_l hz29
  replace w0_l := Nat.lt_of_lt_of_le w0_l hz29
  replace g0_l := Nat.lt_of_lt_of_le g0_l hz29
  replace h0_l := Nat.lt_of_lt_of_le h0_l hz29
  clear hb
  go_wp2_with fail
  go_ret
  exact ⟨rfl, b29⟩
end Go.Proofs.Ytgjphejmppehjaa
