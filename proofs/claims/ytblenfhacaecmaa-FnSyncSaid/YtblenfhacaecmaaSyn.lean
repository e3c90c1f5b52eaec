/- The walk of FnSync. -/
import Derived.Test.YtblenfhacaecmaaSye
import Derived.Test.YtblenfhacaecmaaDsy
import Derived.Test.YtblenfhacaecmaaDci
import Derived.Test.YtblenfhacaecmaaStr
namespace Go.Proofs.Ytblenfhacaecmaa
open Go.RowKit
theorem isync_no (Ac : Option Addr) (nc cc : Nat) (Aw : Option Addr) (nw cw : Nat) (dc : List (List UInt8)) (dw : List (Int × List UInt8)) (W : World) (h : RdDk W W.heap.size Ac nc Aw nw dc dw) (LB : lenB dc dw) (hk : dkOk dc dw = false) :
    Calls Try.prog 25 #[.agg #[.slice Ac nc cc, .slice Aw nw cw]] W (MadeD [] [] W) := by
  have := impl_DiskSync_d Ac nc cc Aw nw cw dc dw W h LB
  rwa [hk, if_neg (by simp)] at this
theorem isync_yes (Ac : Option Addr) (nc cc : Nat) (Aw : Option Addr) (nw cw : Nat) (dc : List (List UInt8)) (dw : List (Int × List UInt8)) (W : World) (h : RdDk W W.heap.size Ac nc Aw nw dc dw) (LB : lenB dc dw) (hk : dkOk dc dw = true) {S : List (List UInt8)} (hS : syncN dc dw dw.length = S) :
    Calls Try.prog 25 #[.agg #[.slice Ac nc cc, .slice Aw nw cw]] W (MadeD S [] W) := by
  have := impl_DiskSync_d Ac nc cc Aw nw cw dc dw W h LB
  rwa [if_pos hk, hS] at this
theorem icrash_none (Ac : Option Addr) (nc cc : Nat) (Aw : Option Addr) (nw cw : Nat) (S : List (List UInt8)) (Ak : Option Addr) (nk ck : Nat) (ks : List Int) (W : World) (h : RdDk W W.heap.size Ac nc Aw nw S []) (hS : dkOk S [] = true) (hr : Rd W W.heap.size 1 Ak nk (ks.map (Value.int .i64))) (hn : nk ≤ 1048576) :
    Calls Try.prog 28 #[.agg #[.slice Ac nc cc, .slice Aw nw cw], .slice Ak nk ck] W (MadeD S [] W) := by
  have := impl_DiskCrash_d Ac nc cc Aw nw cw S [] Ak nk ck ks W h (lenB_ok hS) hr hn
  rw [if_pos hS] at this
  exact this
theorem iread_yes (Ac : Option Addr) (nc cc : Nat) (Aw : Option Addr) (nw cw : Nat) (dc : List (List UInt8)) (dw : List (Int × List UInt8)) (p : Int) (W : World) (h : RdDk W W.heap.size Ac nc Aw nw dc dw) (LB : lenB dc dw) {l : List UInt8} (h1 : drdB dc dw p = l) (h2 : drdOk dc dw p = true) :
    Calls Try.prog 14 #[.agg #[.slice Ac nc cc, .slice Aw nw cw], .int .i64 p] W (MadeBT l true W) := by
  have := impl_DiskRead_d Ac nc cc Aw nw cw dc dw p W h LB
  rwa [h1, h2] at this
set_option maxHeartbeats 4000000 in
set_option maxRecDepth 100000 in
theorem walk_FnSync (A : Option Addr) (n c : Nat) (l : List UInt8) (W : World) (_hnc : n ≤ c) (_hm : c ≤ maxLen) (hr : Rd W W.heap.size 1 A n (Lib.byteCells l)) :
    Calls Try.prog 5 #[.slice A n c] W fun e w' => e = .returned (.bool true) ∧ Below W.heap.size W w' := by
  by_cases hn1 : 1048576 < n
  · unfold maxLen at _hm
    go_enter Try.func5, Try.ntmps5
    go_wp2
    go_ret
    exact ⟨rfl, Below.refl _ _⟩
  · have hn : n ≤ 1048576 := by omega
    clear hn1
    go_enter Try.func5, Try.ntmps5
    go_wp2_with fail
    refine (DrawDiskSync_any W A n c l (hr.more (by omega)) hn).mono ?_
    rintro e w1 ⟨Ac, nc, cc, Aw, nw, cw, dc, dw, rfl, hlb, hD, hb⟩
    have he1 : Eff 0 0 W w1 := Eff.of hb
    have hz1 : W.heap.size ≤ w1.heap.size := he1.size
    have b1 : Below W.heap.size W w1 := he1.below (Nat.le_refl _) (by omega)
    replace hr := (hr.below (he1.below (B := W.heap.size) (by omega) (by omega)) (Nat.le_refl _))
    clear hb
    clear hr he1
    have hb0 := b1
    have HLB := Lib.hid hlb
    have hlen := hD.len
    have HLN := Lib.hid hlen
    have hncb : nc ≤ 1048576 := by have := hlb.1; omega
    clear hlb hlen b1
    rcases hok : dkOk dc dw with _ | _
    · skip
      have HOK := Lib.hid hok
      clear hok
      go_wp2_with fail
      have he1 : Eff 0 0 w1 (w1.alloc (.cells #[.slice Ac nc cc, .slice Aw nw cw] 33)) := Eff.alloc _ _
      have hs1 : (w1.alloc (.cells #[.slice Ac nc cc, .slice Aw nw cw] 33)).heap.size = w1.heap.size + 1 := (by simp)
      have d_0 : (w1.alloc (.cells #[.slice Ac nc cc, .slice Aw nw cw] 33)).cell? ⟨w1.heap.size, 0, none⟩ = some (.slice Ac nc cc) := var_cell _ _ _ _ _ rfl
      have d_1 : (w1.alloc (.cells #[.slice Ac nc cc, .slice Aw nw cw] 33)).cell? ⟨w1.heap.size, 1, none⟩ = some (.slice Aw nw cw) := var_cell _ _ _ _ _ rfl
      generalize (w1.alloc (.cells #[.slice Ac nc cc, .slice Aw nw cw] 33)) = v1 at *
      have hz1 : w1.heap.size ≤ v1.heap.size := he1.size
      have b1 : Below w1.heap.size w1 v1 := he1.below (Nat.le_refl _) (by omega)
      replace hD := (hD.below (he1.below (B := w1.heap.size) (by omega) (by omega)) (Nat.le_refl _))
      have d_l : w1.heap.size < v1.heap.size := (by omega)
      clear hs1
      refine (isync_no Ac nc cc Aw nw cw dc dw v1 (hD.more (by omega)) HLB.out HOK.out).mono ?_
      rintro e v2 ⟨A2, n2, c2, B2, m2, e2, hn2, hm2, rfl, o2, hb⟩
      obtain rfl : n2 = 0 := hn2
      obtain rfl : m2 = 0 := hm2
      have he2 : Eff 0 0 v1 v2 := Eff.of hb
      have hz2 : v1.heap.size ≤ v2.heap.size := he2.size
      have b2 : Below w1.heap.size w1 v2 := b1.trans (he2.below b1.size (by omega))
      replace hD := (hD.below (he2.below (B := w1.heap.size) (by omega) (by omega)) (Nat.le_refl _))
      replace d_0 := he2.cell d_0 (by simp only; omega)
      replace d_1 := he2.cell d_1 (by simp only; omega)
      replace d_l := Nat.lt_of_lt_of_le d_l hz2
      clear hb
      have d_0P := (Eff.alloc v2 (.cells #[.slice A2 0 c2, .slice B2 0 e2] 33)).cell d_0 (by simp only; omega)
      have d_1P := (Eff.alloc v2 (.cells #[.slice A2 0 c2, .slice B2 0 e2] 33)).cell d_1 (by simp only; omega)
      go_wp2_with fail
      have he3 : Eff 0 0 v2 (v2.alloc (.cells #[.slice A2 0 c2, .slice B2 0 e2] 33)) := Eff.alloc _ _
      have hs3 : (v2.alloc (.cells #[.slice A2 0 c2, .slice B2 0 e2] 33)).heap.size = v2.heap.size + 1 := (by simp)
      have e_0 : (v2.alloc (.cells #[.slice A2 0 c2, .slice B2 0 e2] 33)).cell? ⟨v2.heap.size, 0, none⟩ = some (.slice A2 0 c2) := var_cell _ _ _ _ _ rfl
      have e_1 : (v2.alloc (.cells #[.slice A2 0 c2, .slice B2 0 e2] 33)).cell? ⟨v2.heap.size, 1, none⟩ = some (.slice B2 0 e2) := var_cell _ _ _ _ _ rfl
      generalize (v2.alloc (.cells #[.slice A2 0 c2, .slice B2 0 e2] 33)) = v3 at *
      have hz3 : v2.heap.size ≤ v3.heap.size := he3.size
      have b3 : Below w1.heap.size w1 v3 := b2.trans (he3.below b2.size (by omega))
      replace hD := (hD.below (he3.below (B := w1.heap.size) (by omega) (by omega)) (Nat.le_refl _))
      replace o2 := o2.keep he3 (by omega)
      replace d_0 := he3.cell d_0 (by simp only; omega)
      replace d_1 := he3.cell d_1 (by simp only; omega)
      replace d_l := Nat.lt_of_lt_of_le d_l hz3
      have e_l : v2.heap.size < v3.heap.size := (by omega)
      clear d_0P d_1P
      clear hs3
      refine (spec_DiskOk_d Ac nc cc Aw nw cw dc dw v3 (hD.more (by omega)) HLB.out).mono ?_
      rintro e v4 ⟨rfl, hb⟩
      rw [HOK.out]
      have he4 : Eff 0 0 v3 v4 := Eff.of hb
      have hz4 : v3.heap.size ≤ v4.heap.size := he4.size
      have b4 : Below w1.heap.size w1 v4 := b3.trans (he4.below b3.size (by omega))
      replace hD := (hD.below (he4.below (B := w1.heap.size) (by omega) (by omega)) (Nat.le_refl _))
      replace o2 := o2.keep he4 (by omega)
      replace d_0 := he4.cell d_0 (by simp only; omega)
      replace d_1 := he4.cell d_1 (by simp only; omega)
      replace e_0 := he4.cell e_0 (by simp only; omega)
      replace e_1 := he4.cell e_1 (by simp only; omega)
      replace d_l := Nat.lt_of_lt_of_le d_l hz4
      replace e_l := Nat.lt_of_lt_of_le e_l hz4
      clear hb
      go_wp2_with fail
      refine (impl_DiskOk_d Ac nc cc Aw nw cw dc dw v4 (hD.more (by omega)) HLB.out).mono ?_
      rintro e v5 ⟨rfl, hb⟩
      rw [HOK.out]
      have he5 : Eff 0 0 v4 v5 := Eff.of hb
      have hz5 : v4.heap.size ≤ v5.heap.size := he5.size
      have b5 : Below w1.heap.size w1 v5 := b4.trans (he5.below b4.size (by omega))
      replace hD := (hD.below (he5.below (B := w1.heap.size) (by omega) (by omega)) (Nat.le_refl _))
      replace o2 := o2.keep he5 (by omega)
      replace d_0 := he5.cell d_0 (by simp only; omega)
      replace d_1 := he5.cell d_1 (by simp only; omega)
      replace e_0 := he5.cell e_0 (by simp only; omega)
      replace e_1 := he5.cell e_1 (by simp only; omega)
      replace d_l := Nat.lt_of_lt_of_le d_l hz5
      replace e_l := Nat.lt_of_lt_of_le e_l hz5
      clear hb
      go_wp2_with fail
      go_ret
      exact ⟨rfl, hb0.trans (b5.mono hb0.size)⟩
    · skip
      have HOK := Lib.hid hok
      clear hok
      go_wp2_with fail
      have he1 : Eff 0 0 w1 (w1.alloc (.cells #[.slice Ac nc cc, .slice Aw nw cw] 33)) := Eff.alloc _ _
      have hs1 : (w1.alloc (.cells #[.slice Ac nc cc, .slice Aw nw cw] 33)).heap.size = w1.heap.size + 1 := (by simp)
      have d_0 : (w1.alloc (.cells #[.slice Ac nc cc, .slice Aw nw cw] 33)).cell? ⟨w1.heap.size, 0, none⟩ = some (.slice Ac nc cc) := var_cell _ _ _ _ _ rfl
      have d_1 : (w1.alloc (.cells #[.slice Ac nc cc, .slice Aw nw cw] 33)).cell? ⟨w1.heap.size, 1, none⟩ = some (.slice Aw nw cw) := var_cell _ _ _ _ _ rfl
      generalize (w1.alloc (.cells #[.slice Ac nc cc, .slice Aw nw cw] 33)) = v1 at *
      have hz1 : w1.heap.size ≤ v1.heap.size := he1.size
      have b1 : Below w1.heap.size w1 v1 := he1.below (Nat.le_refl _) (by omega)
      replace hD := (hD.below (he1.below (B := w1.heap.size) (by omega) (by omega)) (Nat.le_refl _))
      have d_l : w1.heap.size < v1.heap.size := (by omega)
      clear hs1
      obtain ⟨S, hS⟩ : ∃ S, syncN dc dw dw.length = S := ⟨_, rfl⟩
      have hks : dkOk S [] = true := hS ▸ sync_dk HOK.out
      have hrd : ∀ p : Int, 0 ≤ p → p < (nc : Int) → drdB S [] p = drdB dc dw p ∧ drdOk dc dw p = true ∧ drdOk S [] p = true := fun p h0 hp => hS ▸ synced_read HOK.out h0 (by rw [HLN.out.1]; exact hp)
      have HS := Lib.hid hS
      have HKS := Lib.hid hks
      have HRD := Lib.hid hrd
      clear hS hks hrd
      refine (isync_yes Ac nc cc Aw nw cw dc dw v1 (hD.more (by omega)) HLB.out HOK.out HS.out).mono ?_
      rintro e v2 ⟨A2, n2, c2, B2, m2, e2, hn2, hm2, rfl, o2, hb⟩
      obtain rfl : m2 = 0 := hm2
      clear hn2
      have he2 : Eff 0 0 v1 v2 := Eff.of hb
      have hz2 : v1.heap.size ≤ v2.heap.size := he2.size
      have b2 : Below w1.heap.size w1 v2 := b1.trans (he2.below b1.size (by omega))
      replace hD := (hD.below (he2.below (B := w1.heap.size) (by omega) (by omega)) (Nat.le_refl _))
      replace d_0 := he2.cell d_0 (by simp only; omega)
      replace d_1 := he2.cell d_1 (by simp only; omega)
      replace d_l := Nat.lt_of_lt_of_le d_l hz2
      clear hb
      have d_0P := (Eff.alloc v2 (.cells #[.slice A2 n2 c2, .slice B2 0 e2] 33)).cell d_0 (by simp only; omega)
      have d_1P := (Eff.alloc v2 (.cells #[.slice A2 n2 c2, .slice B2 0 e2] 33)).cell d_1 (by simp only; omega)
      go_wp2_with fail
      have he3 : Eff 0 0 v2 (v2.alloc (.cells #[.slice A2 n2 c2, .slice B2 0 e2] 33)) := Eff.alloc _ _
      have hs3 : (v2.alloc (.cells #[.slice A2 n2 c2, .slice B2 0 e2] 33)).heap.size = v2.heap.size + 1 := (by simp)
      have e_0 : (v2.alloc (.cells #[.slice A2 n2 c2, .slice B2 0 e2] 33)).cell? ⟨v2.heap.size, 0, none⟩ = some (.slice A2 n2 c2) := var_cell _ _ _ _ _ rfl
      have e_1 : (v2.alloc (.cells #[.slice A2 n2 c2, .slice B2 0 e2] 33)).cell? ⟨v2.heap.size, 1, none⟩ = some (.slice B2 0 e2) := var_cell _ _ _ _ _ rfl
      generalize (v2.alloc (.cells #[.slice A2 n2 c2, .slice B2 0 e2] 33)) = v3 at *
      have hz3 : v2.heap.size ≤ v3.heap.size := he3.size
      have b3 : Below w1.heap.size w1 v3 := b2.trans (he3.below b2.size (by omega))
      replace hD := (hD.below (he3.below (B := w1.heap.size) (by omega) (by omega)) (Nat.le_refl _))
      replace o2 := o2.keep he3 (by omega)
      replace d_0 := he3.cell d_0 (by simp only; omega)
      replace d_1 := he3.cell d_1 (by simp only; omega)
      replace d_l := Nat.lt_of_lt_of_le d_l hz3
      have e_l : v2.heap.size < v3.heap.size := (by omega)
      clear d_0P d_1P
      clear hs3
      refine (spec_DiskOk_d Ac nc cc Aw nw cw dc dw v3 (hD.more (by omega)) HLB.out).mono ?_
      rintro e v4 ⟨rfl, hb⟩
      rw [HOK.out]
      have he4 : Eff 0 0 v3 v4 := Eff.of hb
      have hz4 : v3.heap.size ≤ v4.heap.size := he4.size
      have b4 : Below w1.heap.size w1 v4 := b3.trans (he4.below b3.size (by omega))
      replace hD := (hD.below (he4.below (B := w1.heap.size) (by omega) (by omega)) (Nat.le_refl _))
      replace o2 := o2.keep he4 (by omega)
      replace d_0 := he4.cell d_0 (by simp only; omega)
      replace d_1 := he4.cell d_1 (by simp only; omega)
      replace e_0 := he4.cell e_0 (by simp only; omega)
      replace e_1 := he4.cell e_1 (by simp only; omega)
      replace d_l := Nat.lt_of_lt_of_le d_l hz4
      replace e_l := Nat.lt_of_lt_of_le e_l hz4
      clear hb
      go_wp2_with fail
      have he5 : Eff 0 0 v4 (v4.alloc (.cells #[.int .i64 3, .int .i64 128] 3)) := (Eff.alloc _ _)
      have hs5 : (v4.alloc (.cells #[.int .i64 3, .int .i64 128] 3)).heap.size = v4.heap.size + 1 := (by simp)
      have ks : Own 3 1 (v4.alloc (.cells #[.int .i64 3, .int .i64 128] 3)) v4.heap.size (v4.heap.size + 1) (some ⟨v4.heap.size, 0, none⟩) 2 2 [.int .i64 3, .int .i64 128] := new_rowN v4 [.int .i64 3, .int .i64 128] 3
      generalize (v4.alloc (.cells #[.int .i64 3, .int .i64 128] 3)) = v5 at *
      have hz5 : v4.heap.size ≤ v5.heap.size := he5.size
      have b5 : Below w1.heap.size w1 v5 := b4.trans (he5.below b4.size (by omega))
      replace hD := (hD.below (he5.below (B := w1.heap.size) (by omega) (by omega)) (Nat.le_refl _))
      replace o2 := o2.keep he5 (by omega)
      replace d_0 := he5.cell d_0 (by simp only; omega)
      replace d_1 := he5.cell d_1 (by simp only; omega)
      replace e_0 := he5.cell e_0 (by simp only; omega)
      replace e_1 := he5.cell e_1 (by simp only; omega)
      replace d_l := Nat.lt_of_lt_of_le d_l hz5
      replace e_l := Nat.lt_of_lt_of_le e_l hz5
      refine (icrash_none A2 n2 c2 B2 0 e2 S _ _ _ [3, 128] v5 (OwnD.rd o2 (OwnD.le o2)) HKS.out (Own.rd ks (Own.le ks)) (by omega)).mono ?_
      rintro e v6 ⟨A3, n3, c3, B3, m3, e3, -, -, rfl, o3, hb⟩
      have he6 : Eff 0 0 v5 v6 := Eff.of hb
      have hz6 : v5.heap.size ≤ v6.heap.size := he6.size
      have b6 : Below w1.heap.size w1 v6 := b5.trans (he6.below b5.size (by omega))
      replace hD := (hD.below (he6.below (B := w1.heap.size) (by omega) (by omega)) (Nat.le_refl _))
      replace o2 := o2.keep he6 (by omega)
      replace ks := Own.keep ks he6 (by omega)
      replace d_0 := he6.cell d_0 (by simp only; omega)
      replace d_1 := he6.cell d_1 (by simp only; omega)
      replace e_0 := he6.cell e_0 (by simp only; omega)
      replace e_1 := he6.cell e_1 (by simp only; omega)
      replace d_l := Nat.lt_of_lt_of_le d_l hz6
      replace e_l := Nat.lt_of_lt_of_le e_l hz6
      clear hb
      clear ks
      clear hs5
      clear o2
      have d_0P := (Eff.alloc v6 (.cells #[.slice A3 n3 c3, .slice B3 m3 e3] 33)).cell d_0 (by simp only; omega)
      have d_1P := (Eff.alloc v6 (.cells #[.slice A3 n3 c3, .slice B3 m3 e3] 33)).cell d_1 (by simp only; omega)
      have e_0P := (Eff.alloc v6 (.cells #[.slice A3 n3 c3, .slice B3 m3 e3] 33)).cell e_0 (by simp only; omega)
      have e_1P := (Eff.alloc v6 (.cells #[.slice A3 n3 c3, .slice B3 m3 e3] 33)).cell e_1 (by simp only; omega)
      go_wp2_with fail
      have he7 : Eff 0 0 v6 (v6.alloc (.cells #[.slice A3 n3 c3, .slice B3 m3 e3] 33)) := Eff.alloc _ _
      have hs7 : (v6.alloc (.cells #[.slice A3 n3 c3, .slice B3 m3 e3] 33)).heap.size = v6.heap.size + 1 := (by simp)
      have f_0 : (v6.alloc (.cells #[.slice A3 n3 c3, .slice B3 m3 e3] 33)).cell? ⟨v6.heap.size, 0, none⟩ = some (.slice A3 n3 c3) := var_cell _ _ _ _ _ rfl
      have f_1 : (v6.alloc (.cells #[.slice A3 n3 c3, .slice B3 m3 e3] 33)).cell? ⟨v6.heap.size, 1, none⟩ = some (.slice B3 m3 e3) := var_cell _ _ _ _ _ rfl
      generalize (v6.alloc (.cells #[.slice A3 n3 c3, .slice B3 m3 e3] 33)) = v7 at *
      have hz7 : v6.heap.size ≤ v7.heap.size := he7.size
      have b7 : Below w1.heap.size w1 v7 := b6.trans (he7.below b6.size (by omega))
      replace hD := (hD.below (he7.below (B := w1.heap.size) (by omega) (by omega)) (Nat.le_refl _))
      replace o3 := o3.keep he7 (by omega)
      replace d_0 := he7.cell d_0 (by simp only; omega)
      replace d_1 := he7.cell d_1 (by simp only; omega)
      replace e_0 := he7.cell e_0 (by simp only; omega)
      replace e_1 := he7.cell e_1 (by simp only; omega)
      replace d_l := Nat.lt_of_lt_of_le d_l hz7
      replace e_l := Nat.lt_of_lt_of_le e_l hz7
      have f_l : v6.heap.size < v7.heap.size := (by omega)
      clear d_0P d_1P e_0P e_1P
      clear hs7
      have hle := OwnD.le o3
      go_loopw [36] (fun vi wr => ∃ (i : Nat), i ≤ nc ∧ vi = .int .i64 (i : Int) ∧ Below v7.heap.size v7 wr) (fun vi _ => nc - (intOf vi).toNat)
      case atStart => exact ⟨0, by omega, rfl, Below.refl _ _⟩
      case round =>
        obtain ⟨i, hi, rfl, hb⟩ := hrel
        have hzr := hb.size
        by_cases hlt : i < nc
        · skip
          have hbr := hb
          replace hD := hD.below hb (by omega)
          replace o3 := OwnD.keep o3 (Eff.of hb) (.inr (.inr (Nat.le_refl _)))
          replace d_0 := (Eff.of hb).cell d_0 (.inr (Nat.zero_le _))
          replace d_1 := (Eff.of hb).cell d_1 (.inr (Nat.zero_le _))
          replace e_0 := (Eff.of hb).cell e_0 (.inr (Nat.zero_le _))
          replace e_1 := (Eff.of hb).cell e_1 (.inr (Nat.zero_le _))
          replace f_0 := (Eff.of hb).cell f_0 (.inr (Nat.zero_le _))
          replace f_1 := (Eff.of hb).cell f_1 (.inr (Nat.zero_le _))
          replace d_l := Nat.lt_of_lt_of_le d_l hzr
          replace e_l := Nat.lt_of_lt_of_le e_l hzr
          replace f_l := Nat.lt_of_lt_of_le f_l hzr
          clear hb
          have hi0 : (0 : Int) ≤ (i : Int) := by omega
          have hi1 : (i : Int) < (nc : Int) := by omega
          obtain ⟨h1, h2, h3⟩ := HRD.out (i : Int) hi0 hi1
          obtain ⟨bl, hbl⟩ : ∃ x, drdB dc dw (i : Int) = x := ⟨_, rfl⟩
          rw [hbl] at h1
          have H0 := Lib.hid hbl
          have H1 := Lib.hid h1
          have H2 := Lib.hid h2
          have H3 := Lib.hid h3
          have HSB := Lib.hid (lenB_ok HKS.out)
          clear h1 h2 h3 hbl
          go_wp2_with fail
          refine (iread_yes Ac nc cc Aw nw cw dc dw (i : Int) wr (hD.more (by omega)) HLB.out H0.out H2.out).mono ?_
          rintro e x1 ⟨A4, n4, c4, -, rfl, r4, hb⟩
          have he1 : Eff 0 0 wr x1 := Eff.of hb
          have hz1 : wr.heap.size ≤ x1.heap.size := he1.size
          have b1 : Below v7.heap.size v7 x1 := hbr.trans (he1.below hbr.size (by omega))
          replace hD := (hD.below (he1.below (B := w1.heap.size) (by omega) (by omega)) (Nat.le_refl _))
          replace o3 := o3.keep he1 (by omega)
          replace d_0 := he1.cell d_0 (by simp only; omega)
          replace d_1 := he1.cell d_1 (by simp only; omega)
          replace e_0 := he1.cell e_0 (by simp only; omega)
          replace e_1 := he1.cell e_1 (by simp only; omega)
          replace f_0 := he1.cell f_0 (by simp only; omega)
          replace f_1 := he1.cell f_1 (by simp only; omega)
          replace d_l := Nat.lt_of_lt_of_le d_l hz1
          replace e_l := Nat.lt_of_lt_of_le e_l hz1
          replace f_l := Nat.lt_of_lt_of_le f_l hz1
          clear hb
          go_wp2_with fail
          refine (iread_yes A3 n3 c3 B3 m3 e3 S [] (i : Int) x1 (OwnD.rd o3 (by omega)) HSB.out H1.out H3.out).mono ?_
          rintro e x2 ⟨A5, n5, c5, -, rfl, r5, hb⟩
          have he2 : Eff 0 0 x1 x2 := Eff.of hb
          have hz2 : x1.heap.size ≤ x2.heap.size := he2.size
          have b2 : Below v7.heap.size v7 x2 := b1.trans (he2.below b1.size (by omega))
          replace hD := (hD.below (he2.below (B := w1.heap.size) (by omega) (by omega)) (Nat.le_refl _))
          replace o3 := o3.keep he2 (by omega)
          replace r4 := Own.keep r4 he2 (by omega)
          replace d_0 := he2.cell d_0 (by simp only; omega)
          replace d_1 := he2.cell d_1 (by simp only; omega)
          replace e_0 := he2.cell e_0 (by simp only; omega)
          replace e_1 := he2.cell e_1 (by simp only; omega)
          replace f_0 := he2.cell f_0 (by simp only; omega)
          replace f_1 := he2.cell f_1 (by simp only; omega)
          replace d_l := Nat.lt_of_lt_of_le d_l hz2
          replace e_l := Nat.lt_of_lt_of_le e_l hz2
          replace f_l := Nat.lt_of_lt_of_le f_l hz2
          clear hb
          have hc1 := (Own.rd r4 (B := x2.heap.size) (by omega)).str 27 5 c4 Try.underlying27 Try.underlying5 9 Try.underlying9
          have hc2 := (Own.rd r5 (B := x2.heap.size) (by omega)).str 27 5 c5 Try.underlying27 Try.underlying5 9 Try.underlying9
          obtain ⟨s2, hs2x⟩ : ∃ s, bstr bl = s := ⟨_, rfl⟩
          rw [hs2x] at hc1 hc2
          have hne : (s2 != s2) = false := by rw [← hs2x]; exact bstr_eq bl
          clear hs2x
          go_wp2_with fail
          go_roundw
          case rel => exact ⟨i + 1, by omega, by go_num, b2⟩
          case measure => simp [intOf]; omega
        · obtain rfl : i = nc := by omega
          have hbr := hb
          replace hD := hD.below hb (by omega)
          replace o3 := OwnD.keep o3 (Eff.of hb) (.inr (.inr (Nat.le_refl _)))
          replace d_0 := (Eff.of hb).cell d_0 (.inr (Nat.zero_le _))
          replace d_1 := (Eff.of hb).cell d_1 (.inr (Nat.zero_le _))
          replace e_0 := (Eff.of hb).cell e_0 (.inr (Nat.zero_le _))
          replace e_1 := (Eff.of hb).cell e_1 (.inr (Nat.zero_le _))
          replace f_0 := (Eff.of hb).cell f_0 (.inr (Nat.zero_le _))
          replace f_1 := (Eff.of hb).cell f_1 (.inr (Nat.zero_le _))
          replace d_l := Nat.lt_of_lt_of_le d_l hzr
          replace e_l := Nat.lt_of_lt_of_le e_l hzr
          replace f_l := Nat.lt_of_lt_of_le f_l hzr
          clear hb
          have i1 : ¬ (i : Int) < (i : Int) := by omega
          go_wp2_with fail
          go_ret
          exact ⟨rfl, hb0.trans ((b7.trans (hbr.mono b7.size)).mono hb0.size)⟩
end Go.Proofs.Ytblenfhacaecmaa
