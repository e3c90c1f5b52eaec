/- Draws of disks (l03Disk). -/
import Derived.Test.YtblenfhacaecmaaSyp
import Derived.Test.YtblenfhacaecmaaDraw4
import Derived.Test.YtblenfhacaecmaaSecB
import Derived.Test.YtblenfhacaecmaaDwr
import Derived.Test.YtblenfhacaecmaaDcs
import Derived.Test.YtblenfhacaecmaaInt
import Derived.RegionTactic
import Derived.Deep.Cut
import Derived.Deep.DeepCutAuto
namespace Go.Proofs.Ytblenfhacaecmaa
open Go.RowKit
/-- A valid disk of few cells and few writes. -/
def okD (dc : List (List UInt8)) (dw : List (Int × List UInt8)) (r : Nat) : Prop := dkOk dc dw = true ∧ dc.length ≤ 6 ∧ dw.length ≤ r
theorem okD_new {x : Int} (h0 : 0 ≤ x) (h1 : x < 6) : okD (newC (1 + x)) [] 0 := by
  have e : newC (1 + x) = List.replicate (1 + x).toNat [] := by unfold newC; rw [if_pos (by omega)]
  rw [e]
  refine ⟨dkOk_iff.2 ⟨by simp; omega, fun l hl => ?_, fun x hx => by simp at hx⟩, by simp; omega, by simp⟩
  have := (List.mem_replicate.1 hl).2
  subst this; simp
theorem okD_sync {dc : List (List UInt8)} {dw : List (Int × List UInt8)} {r : Nat} (h : okD dc dw r) : okD (syncN dc dw dw.length) [] (r + 1) := ⟨sync_dk h.1, by rw [sync_len h.1 (Nat.le_refl _)]; exact h.2.1, by simp⟩
theorem okD_crash {dc : List (List UInt8)} {dw : List (Int × List UInt8)} {r : Nat} (ks : List Int) (h : okD dc dw r) : okD (crashN dc dw ks dw.length) [] (r + 1) := ⟨crash_dk ks h.1 _, by rw [(crashN_ok (ks := ks) h.1 _).1]; exact h.2.1, by simp⟩
theorem okD_write {dc : List (List UInt8)} {dw : List (Int × List UInt8)} {r : Nat} {p : Int} {l : List UInt8} (h : okD dc dw r) (hr : r ≤ 7) (h0 : 0 ≤ p) (h1 : p < (dc.length : Int)) (hl : l.length = 128) : okD dc (dw ++ [(p, l)]) (r + 1) := by
  obtain ⟨a, b, c⟩ := h
  obtain ⟨⟨a1, a2, a3⟩, a4, a5⟩ := dkOk_iff.1 a
  refine ⟨dkOk_iff.2 ⟨⟨a1, a2, by simp; omega⟩, a4, fun x hx => ?_⟩, b, by simp; omega⟩
  rcases List.mem_append.1 hx with hx | hx
  · exact a5 x hx
  · simp at hx; subst hx; exact ⟨h0, h1, hl⟩
theorem okD_dwr {dc : List (List UInt8)} {dw : List (Int × List UInt8)} {r : Nat} {p : Int} {l : List UInt8} (h : okD dc dw r) (hr : r ≤ 7) (h0 : 0 ≤ p) (h1 : p < (dc.length : Int)) (hl : l.length = 128) : dwrOk dc dw p l = true := by
  unfold dwrOk; rw [h.1, (okD_write h hr h0 h1 hl).1]; rfl
theorem sync_any (Ac : Option Addr) (nc cc : Nat) (Aw : Option Addr) (nw cw r : Nat) (dc : List (List UInt8)) (dw : List (Int × List UInt8)) (W : World) (h : RdDk W W.heap.size Ac nc Aw nw dc dw) (hk : okD dc dw r) :
    Calls Try.prog 29 #[.agg #[.slice Ac nc cc, .slice Aw nw cw]] W (MadeD (syncN dc dw dw.length) [] W) := by
  have := spec_DiskSync_d Ac nc cc Aw nw cw dc dw W h (lenB_ok hk.1)
  rwa [if_pos hk.1] at this
theorem crash_any (Ac : Option Addr) (nc cc : Nat) (Aw : Option Addr) (nw cw r : Nat) (dc : List (List UInt8)) (dw : List (Int × List UInt8)) (Ak : Option Addr) (nk ck : Nat) (ks : List Int) (W : World) (h : RdDk W W.heap.size Ac nc Aw nw dc dw) (hk : okD dc dw r) (hr : Rd W W.heap.size 1 Ak nk (ks.map (Value.int .i64))) (hn : nk ≤ 1048576) :
    Calls Try.prog 32 #[.agg #[.slice Ac nc cc, .slice Aw nw cw], .slice Ak nk ck] W (MadeD (crashN dc dw ks dw.length) [] W) := by
  have := spec_DiskCrash_d Ac nc cc Aw nw cw dc dw Ak nk ck ks W h (lenB_ok hk.1) hr hn
  rwa [if_pos hk.1] at this
theorem write_any (Ac : Option Addr) (nc cc : Nat) (Aw : Option Addr) (nw cw r : Nat) (dc : List (List UInt8)) (dw : List (Int × List UInt8)) (p : Int) (Ax : Option Addr) (nx cx : Nat) (l : List UInt8) (W : World) (h : RdDk W W.heap.size Ac nc Aw nw dc dw) (hk : okD dc dw r) (hr : r ≤ 7) (h0 : 0 ≤ p) (h1 : p < (dc.length : Int)) (hl : l.length = 128) (hi : Rd W W.heap.size 1 Ax nx (Lib.byteCells l)) (hnx : nx ≤ 1048576) :
    Calls Try.prog 20 #[.agg #[.slice Ac nc cc, .slice Aw nw cw], .int .i64 p, .slice Ax nx cx] W (MadeDT dc (dw ++ [(p, l)]) true W) := by
  have := spec_DiskWrite_d Ac nc cc Aw nw cw dc dw p Ax nx cx l W h (lenB_ok hk.1) hi hnx
  rw [okD_dwr hk hr h0 h1 hl] at this
  exact this
/-- A disk of the call's own, drawn. -/
def DkPost (B g : Nat) (w : World) (e : Ending) (w' : World) : Prop :=
  ∃ (Ac : Option Addr) (nc cc : Nat) (Aw : Option Addr) (nw cw : Nat) (dc : List (List UInt8)) (dw : List (Int × List UInt8)), e = .returned (.agg #[.slice Ac nc cc, .slice Aw nw cw]) ∧ okD dc dw 7 ∧ Cur B w' g ∧ OwnD w' w.heap.size w'.heap.size Ac nc cc Aw nw cw dc dw ∧ Eff g (g + 1) w w'
theorem eff_set2k (w : World) (b : Nat) (u0 u1 : Value) : Eff b (b + 1) w ((w.setCell ⟨b, 0, none⟩ u0).setCell ⟨b, 1, none⟩ u1) := (eff_set w b 0 u0).trans (eff_set _ b 1 u1)
theorem DkPost.mk {B g b lo hi nc cc nw cw r : Nat} {w w1 w2 : World} {Ac Aw : Option Addr} {dc : List (List UInt8)} {dw : List (Int × List UInt8)} (hk : okD dc dw r) (hr : r ≤ 7) (E : Eff g (g + 1) w w1) (hc : Cur B w1 g) (o : OwnD w1 lo hi Ac nc cc Aw nw cw dc dw) (he : Eff b (b + 1) w1 w2) (h1 : w.heap.size ≤ lo) (h2 : b + 1 ≤ lo ∨ hi ≤ b) (h3 : w.heap.size ≤ b) (h4 : B ≤ g ∧ g < w.heap.size) :
    DkPost B g w (.returned (.agg #[.slice Ac nc cc, .slice Aw nw cw])) w2 :=
  ⟨Ac, nc, cc, Aw, nw, cw, dc, dw, rfl, ⟨hk.1, hk.2.1, by have := hk.2.2; omega⟩, hc.keep he (by omega) (by omega), (o.keep he (by omega)).wide h1 (Nat.le_trans o.le he.size) (Nat.le_refl _), E.step he (by omega)⟩
/-- Behind a draw and a call: the disk's variable d holds another disk. -/
def MidDk (B g d r : Nat) (w wx : World) : Prop :=
  ∃ A2 n2 c2 B2 m2 e2 dc2 dw2 lo2 hi2, okD dc2 dw2 (r + 1) ∧ d + 1 ≤ lo2 ∧ w.heap.size ≤ lo2 ∧ wx.cell? ⟨d, 0, none⟩ = some (.slice A2 n2 c2) ∧ wx.cell? ⟨d, 1, none⟩ = some (.slice B2 m2 e2) ∧ wx.frozen? ⟨d, 0, none⟩ = false ∧ wx.frozen? ⟨d, 1, none⟩ = false ∧ OwnD wx lo2 hi2 A2 n2 c2 B2 m2 e2 dc2 dw2 ∧ Cur B wx g ∧ ∃ wy, Eff g (g + 1) w wy ∧ Eff d (d + 1) wy wx
theorem MidDk.mk {B g d r lo hi n2 c2 m2 e2 : Nat} {w w1 : World} {A2 B2 : Option Addr} {dc : List (List UInt8)} {dw : List (Int × List UInt8)} {x0 x1 : Value} (hk : okD dc dw (r + 1)) (o : OwnD w1 lo hi A2 n2 c2 B2 m2 e2 dc dw) (hc : Cur B w1 g) (E : Eff g (g + 1) w w1) (h1 : d + 1 ≤ lo) (h2 : w.heap.size ≤ lo) (h3 : g < d ∧ B ≤ g)
    (f0 : w1.frozen? ⟨d, 0, none⟩ = false) (f1 : w1.frozen? ⟨d, 1, none⟩ = false) (c0 : w1.cell? ⟨d, 0, none⟩ = some x0) (c1 : w1.cell? ⟨d, 1, none⟩ = some x1) : MidDk B g d r w ((w1.setCell ⟨d, 0, none⟩ (.slice A2 n2 c2)).setCell ⟨d, 1, none⟩ (.slice B2 m2 e2)) := by
  have E2 := eff_set2k w1 d (.slice A2 n2 c2) (.slice B2 m2 e2)
  exact ⟨A2, n2, c2, B2, m2, e2, dc, dw, lo, hi, hk, h1, h2, set_other (set_same c0 _) _ (.inr (by omega)), set_same (set_other c1 _ (.inr (by omega))) _, set_frozen (set_frozen f0 _) _, set_frozen (set_frozen f1 _) _, o.keep E2 (by omega), hc.keep E2 (by omega) (by omega), w1, E, E2⟩
set_option maxHeartbeats 8000000 in
set_option maxRecDepth 100000 in
theorem l03Disk_any (B g : Nat) (W : World) (hc : Cur B W g) : Calls Try.prog 79 #[.pointer (some ⟨g, 0, none⟩)] W (DkPost B g W) := by
  have hgl := hc.lt
  have hgB := hc.le
  have E0 : Eff g (g + 1) W W := Eff.refl _ _ _
  go_enter Try.func79, Try.ntmps79
  go_wp2_with fail
  have he1 : Eff 0 0 W (W.alloc (.cells #[.slice none 0 0, .slice none 0 0] 33)) := Eff.alloc _ _
  have hs1 : (W.alloc (.cells #[.slice none 0 0, .slice none 0 0] 33)).heap.size = W.heap.size + 1 := (by simp)
  have res_0 : (W.alloc (.cells #[.slice none 0 0, .slice none 0 0] 33)).cell? ⟨W.heap.size, 0, none⟩ = some (.slice none 0 0) := var_cell _ _ _ _ _ rfl
  have res_1 : (W.alloc (.cells #[.slice none 0 0, .slice none 0 0] 33)).cell? ⟨W.heap.size, 1, none⟩ = some (.slice none 0 0) := var_cell _ _ _ _ _ rfl
  have res_f0 : (W.alloc (.cells #[.slice none 0 0, .slice none 0 0] 33)).frozen? ⟨W.heap.size, 0, none⟩ = false := var_frozen _ _ _ _
  have res_f1 : (W.alloc (.cells #[.slice none 0 0, .slice none 0 0] 33)).frozen? ⟨W.heap.size, 1, none⟩ = false := var_frozen _ _ _ _
  generalize (W.alloc (.cells #[.slice none 0 0, .slice none 0 0] 33)) = w1 at *
  have hz1 : W.heap.size ≤ w1.heap.size := he1.size
  have E1 : Eff g (g + 1) W w1 := E0.step he1 (by omega)
  have S1 := E1.size
  replace hc := hc.keep he1 (by omega) (by omega)
  have res_l : W.heap.size < w1.heap.size := (by omega)
  have hw1 : w1.heap.size = W.heap.size + 1 := hs1
  clear hs1
  refine (l01Below_any B g (6) (by omega) w1 hc).mono ?_
  rintro e w2 hpost
  obtain ⟨x, rfl, ⟨x_0, x_1, -⟩, hc, he⟩ := hpost.eff
  clear hpost
  replace x_1 := x_1 (by omega)
  have he2 : Eff (g) (g + 1) w1 w2 := he
  have hz2 : w1.heap.size ≤ w2.heap.size := he2.size
  have E2 : Eff g (g + 1) W w2 := E1.step he2 (by omega)
  have S2 := E2.size
  replace res_f0 := (he2.frozen res_0 (by simp only; omega)).trans res_f0
  replace res_f1 := (he2.frozen res_1 (by simp only; omega)).trans res_f1
  replace res_0 := he2.cell res_0 (by simp only; omega)
  replace res_1 := he2.cell res_1 (by simp only; omega)
  replace res_l := Nat.lt_of_lt_of_le res_l hz2
  clear he
  go_wp2_with fail
  refine (spec_DiskNew (1 + x) w2).mono ?_
  rintro e w3 ⟨Ac, nc, cc, Aw, nw, cw, cs, ws, rfl, h1, h2, hO, hb⟩
  have o : OwnD w3 w2.heap.size w3.heap.size Ac nc cc Aw nw cw (newC (1 + x)) [] := ⟨cs, ws, hO, h1, h2⟩
  have HK := Lib.hid (okD_new x_0 x_1)
  clear h1 h2 hO
  have he3 : Eff 0 0 w2 w3 := Eff.of hb
  have hz3 : w2.heap.size ≤ w3.heap.size := he3.size
  have E3 : Eff g (g + 1) W w3 := E2.step he3 (by omega)
  have S3 := E3.size
  replace res_f0 := (he3.frozen res_0 (by simp only; omega)).trans res_f0
  replace res_f1 := (he3.frozen res_1 (by simp only; omega)).trans res_f1
  replace res_0 := he3.cell res_0 (by simp only; omega)
  replace res_1 := he3.cell res_1 (by simp only; omega)
  replace res_l := Nat.lt_of_lt_of_le res_l hz3
  replace hc := hc.keep he3 (by omega) (by omega)
  clear hb
  go_upto_region 2 with fail
  have he4 : Eff 0 0 w3 (w3.alloc (.cells #[.slice Ac nc cc, .slice Aw nw cw] 33)) := Eff.alloc _ _
  have hs4 : (w3.alloc (.cells #[.slice Ac nc cc, .slice Aw nw cw] 33)).heap.size = w3.heap.size + 1 := (by simp)
  have d_0 : (w3.alloc (.cells #[.slice Ac nc cc, .slice Aw nw cw] 33)).cell? ⟨w3.heap.size, 0, none⟩ = some (.slice Ac nc cc) := var_cell _ _ _ _ _ rfl
  have d_1 : (w3.alloc (.cells #[.slice Ac nc cc, .slice Aw nw cw] 33)).cell? ⟨w3.heap.size, 1, none⟩ = some (.slice Aw nw cw) := var_cell _ _ _ _ _ rfl
  have d_f0 : (w3.alloc (.cells #[.slice Ac nc cc, .slice Aw nw cw] 33)).frozen? ⟨w3.heap.size, 0, none⟩ = false := var_frozen _ _ _ _
  have d_f1 : (w3.alloc (.cells #[.slice Ac nc cc, .slice Aw nw cw] 33)).frozen? ⟨w3.heap.size, 1, none⟩ = false := var_frozen _ _ _ _
  generalize (w3.alloc (.cells #[.slice Ac nc cc, .slice Aw nw cw] 33)) = w4 at *
  have hz4 : w3.heap.size ≤ w4.heap.size := he4.size
  have E4 : Eff g (g + 1) W w4 := E3.step he4 (by omega)
  have S4 := E4.size
  replace o := o.keep he4 (by omega)
  replace res_f0 := (he4.frozen res_0 (by simp only; omega)).trans res_f0
  replace res_f1 := (he4.frozen res_1 (by simp only; omega)).trans res_f1
  replace res_0 := he4.cell res_0 (by simp only; omega)
  replace res_1 := he4.cell res_1 (by simp only; omega)
  replace res_l := Nat.lt_of_lt_of_le res_l hz4
  replace hc := hc.keep he4 (by omega) (by omega)
  have d_l : w3.heap.size < w4.heap.size := (by omega)
  clear hs4
  go_wp2_with fail
  refine (l01Below_any B g (7) (by omega) w4 hc).mono ?_
  rintro e w5 hpost
  obtain ⟨y, rfl, ⟨y_0, y_1, -⟩, hc, he⟩ := hpost.eff
  clear hpost
  replace y_1 := y_1 (by omega)
  have he5 : Eff (g) (g + 1) w4 w5 := he
  have hz5 : w4.heap.size ≤ w5.heap.size := he5.size
  have E5 : Eff g (g + 1) W w5 := E4.step he5 (by omega)
  have S5 := E5.size
  replace o := o.keep he5 (by omega)
  replace res_f0 := (he5.frozen res_0 (by simp only; omega)).trans res_f0
  replace res_f1 := (he5.frozen res_1 (by simp only; omega)).trans res_f1
  replace d_f0 := (he5.frozen d_0 (by simp only; omega)).trans d_f0
  replace d_f1 := (he5.frozen d_1 (by simp only; omega)).trans d_f1
  replace res_0 := he5.cell res_0 (by simp only; omega)
  replace res_1 := he5.cell res_1 (by simp only; omega)
  replace d_0 := he5.cell d_0 (by simp only; omega)
  replace d_1 := he5.cell d_1 (by simp only; omega)
  replace res_l := Nat.lt_of_lt_of_le res_l hz5
  replace d_l := Nat.lt_of_lt_of_le d_l hz5
  clear he
  go_wp2_with fail
  have hdbW : W.heap.size < w3.heap.size := by omega
  obtain ⟨R, rfl⟩ : ∃ R : Nat, y = (R : Int) := ⟨y.toNat, by omega⟩
  go_loopw [5] (fun vn wr => ∃ (k r nc cc nw cw lo hi : Nat) (Ac Aw : Option Addr) (dc : List (List UInt8)) (dw : List (Int × List UInt8)), r + k ≤ 6 ∧ vn = .int .i64 (k : Int) ∧ Hid (okD dc dw r) ∧ OwnD wr lo hi Ac nc cc Aw nw cw dc dw ∧ (hi ≤ w3.heap.size ∨ w3.heap.size + 1 ≤ lo) ∧ W.heap.size + 1 ≤ lo ∧ Cur B wr g ∧ Eff g (g + 1) W wr ∧ wr.cell? ⟨W.heap.size, 0, none⟩ = some (.slice none 0 0) ∧ wr.cell? ⟨W.heap.size, 1, none⟩ = some (.slice none 0 0) ∧ wr.frozen? ⟨W.heap.size, 0, none⟩ = false ∧ wr.frozen? ⟨W.heap.size, 1, none⟩ = false ∧ wr.cell? ⟨w3.heap.size, 0, none⟩ = some (.slice Ac nc cc) ∧ wr.cell? ⟨w3.heap.size, 1, none⟩ = some (.slice Aw nw cw) ∧ wr.frozen? ⟨w3.heap.size, 0, none⟩ = false ∧ wr.frozen? ⟨w3.heap.size, 1, none⟩ = false ∧ w3.heap.size < wr.heap.size) (fun vn _ => (intOf vn).toNat)
  case atStart => exact ⟨R, 0, nc, cc, nw, cw, _, _, Ac, Aw, _, _, by omega, rfl, HK, o, .inl (Nat.le_refl _), by omega, hc, E5, res_0, res_1, res_f0, res_f1, d_0, d_1, d_f0, d_f1, d_l⟩
  clear hc o HK res_0 res_1 res_f0 res_f1 d_0 d_1 d_f0 d_f1 d_l res_l E1 S1 he1 E2 S2 he2 E3 S3 he3 E4 S4 he4 E5 S5 he5
  case round =>
    obtain ⟨k, r, nc, cc, nw, cw, lo, hi, Ac, Aw, dc, dw, hrk, rfl, HK, o, hdo, hlo, hc, E, res_0, res_1, res_f0, res_f1, d_0, d_1, d_f0, d_f1, d_l⟩ := hrel
    have res_l : W.heap.size < wr.heap.size := by omega
    have hdl := d_l
    by_cases hlt : 0 < k
    · obtain ⟨k, rfl⟩ : ∃ q, k = q + 1 := ⟨k - 1, by omega⟩
      have hk0 : (0 : Int) < ((k + 1 : Nat) : Int) := by omega
      have hgl := hc.lt
      have hgB := hc.le
      have E0 := E
      have S0 := E0.size
      clear E
      go_wp2_with fail
      refine (l01Below_any B g (6) (by omega) wr hc).mono ?_
      rintro e u1 hpost
      obtain ⟨j, rfl, ⟨j_0, j_1, -⟩, hc, he⟩ := hpost.eff
      clear hpost
      replace j_1 := j_1 (by omega)
      have he1 : Eff (g) (g + 1) wr u1 := he
      have hz1 : wr.heap.size ≤ u1.heap.size := he1.size
      have E1 : Eff g (g + 1) W u1 := E0.step he1 (by omega)
      have S1 := E1.size
      replace o := o.keep he1 (by omega)
      replace res_f0 := (he1.frozen res_0 (by simp only; omega)).trans res_f0
      replace res_f1 := (he1.frozen res_1 (by simp only; omega)).trans res_f1
      replace d_f0 := (he1.frozen d_0 (by simp only; omega)).trans d_f0
      replace d_f1 := (he1.frozen d_1 (by simp only; omega)).trans d_f1
      replace res_0 := he1.cell res_0 (by simp only; omega)
      replace res_1 := he1.cell res_1 (by simp only; omega)
      replace d_0 := he1.cell d_0 (by simp only; omega)
      replace d_1 := he1.cell d_1 (by simp only; omega)
      replace res_l := Nat.lt_of_lt_of_le res_l hz1
      replace d_l := Nat.lt_of_lt_of_le d_l hz1
      clear he
      go_wp2_with fail
      refine (l03Sector_any B g u1 hc).mono ?_
      rintro e u2 hpost
      obtain ⟨sq, so, As, ns, cs, sl, rfl, ⟨hq0, hq1, ho0, ho1, hns⟩, hc, s, he⟩ := hpost
      have he2 : Eff (g) (g + 1) u1 u2 := he
      have hz2 : u1.heap.size ≤ u2.heap.size := he2.size
      have E2 : Eff g (g + 1) W u2 := E1.step he2 (by omega)
      have S2 := E2.size
      replace o := o.keep he2 (by omega)
      replace res_f0 := (he2.frozen res_0 (by simp only; omega)).trans res_f0
      replace res_f1 := (he2.frozen res_1 (by simp only; omega)).trans res_f1
      replace d_f0 := (he2.frozen d_0 (by simp only; omega)).trans d_f0
      replace d_f1 := (he2.frozen d_1 (by simp only; omega)).trans d_f1
      replace res_0 := he2.cell res_0 (by simp only; omega)
      replace res_1 := he2.cell res_1 (by simp only; omega)
      replace d_0 := he2.cell d_0 (by simp only; omega)
      replace d_1 := he2.cell d_1 (by simp only; omega)
      replace res_l := Nat.lt_of_lt_of_le res_l hz2
      replace d_l := Nat.lt_of_lt_of_le d_l hz2
      clear he
      have hso : secOk sq so ns = true := by unfold secOk; rw [inB_true hq0 hq1, inB_true ho0 ho1]; simp; omega
      have hsr : sl.length = ns := len_of_rd (Own.rd s (Own.le s))
      go_wp2_with fail
      refine (spec_SectorBytes sq so As ns cs sl (by omega) u2 (Own.rd s (Own.le s))).mono ?_
      rintro e u3 hp
      rw [hso] at hp
      obtain ⟨Ab, cb, rfl, b, hb⟩ := PutB.yes hp
      clear hp
      have he3 : Eff 0 0 u2 u3 := Eff.of hb
      have hz3 : u2.heap.size ≤ u3.heap.size := he3.size
      have E3 : Eff g (g + 1) W u3 := E2.step he3 (by omega)
      have S3 := E3.size
      replace o := o.keep he3 (by omega)
      replace s := s.keep he3 (by omega)
      replace res_f0 := (he3.frozen res_0 (by simp only; omega)).trans res_f0
      replace res_f1 := (he3.frozen res_1 (by simp only; omega)).trans res_f1
      replace d_f0 := (he3.frozen d_0 (by simp only; omega)).trans d_f0
      replace d_f1 := (he3.frozen d_1 (by simp only; omega)).trans d_f1
      replace res_0 := he3.cell res_0 (by simp only; omega)
      replace res_1 := he3.cell res_1 (by simp only; omega)
      replace d_0 := he3.cell d_0 (by simp only; omega)
      replace d_1 := he3.cell d_1 (by simp only; omega)
      replace res_l := Nat.lt_of_lt_of_le res_l hz3
      replace d_l := Nat.lt_of_lt_of_le d_l hz3
      replace hc := hc.keep he3 (by omega) (by omega)
      clear hb
      have hbl : (secBytes sq.toNat so.toNat ns sl).length = 128 := len_of_rd (Own.rd b (Own.le b))
      obtain ⟨bl, hble⟩ : ∃ x, secBytes sq.toNat so.toNat ns sl = x := ⟨_, rfl⟩
      rw [hble] at hbl b
      clear hble hso hsr s
      by_cases j0 : j = 0
      · skip
        subst j0
        go_wp2_with fail
        refine (sync_any Ac nc cc Aw nw cw r dc dw u3 (OwnD.rd o (OwnD.le o)) HK.out).mono ?_
        rintro e u4 ⟨A2, n2, c2, B2, m2, e2, -, -, rfl, o2, hb⟩
        have he4 : Eff 0 0 u3 u4 := Eff.of hb
        have hz4 : u3.heap.size ≤ u4.heap.size := he4.size
        have E4 : Eff g (g + 1) W u4 := E3.step he4 (by omega)
        have S4 := E4.size
        replace o := o.keep he4 (by omega)
        replace b := b.keep he4 (by omega)
        replace res_f0 := (he4.frozen res_0 (by simp only; omega)).trans res_f0
        replace res_f1 := (he4.frozen res_1 (by simp only; omega)).trans res_f1
        replace d_f0 := (he4.frozen d_0 (by simp only; omega)).trans d_f0
        replace d_f1 := (he4.frozen d_1 (by simp only; omega)).trans d_f1
        replace res_0 := he4.cell res_0 (by simp only; omega)
        replace res_1 := he4.cell res_1 (by simp only; omega)
        replace d_0 := he4.cell d_0 (by simp only; omega)
        replace d_1 := he4.cell d_1 (by simp only; omega)
        replace res_l := Nat.lt_of_lt_of_le res_l hz4
        replace d_l := Nat.lt_of_lt_of_le d_l hz4
        replace hc := hc.keep he4 (by omega) (by omega)
        clear hb
        go_upto_region 4 with fail
        have he5 : Eff (w3.heap.size) (w3.heap.size + 1) u4 (u4.setCell ⟨w3.heap.size, 0, none⟩ (.slice A2 n2 c2)) := eff_set _ _ _ _
        replace res_f0 := (he5.frozen res_0 (by simp only; omega)).trans res_f0
        replace res_f1 := (he5.frozen res_1 (by simp only; omega)).trans res_f1
        replace d_f0 := set_frozen (p := ⟨w3.heap.size, 0, none⟩) d_f0 (.slice A2 n2 c2)
        replace d_f1 := set_frozen (p := ⟨w3.heap.size, 0, none⟩) d_f1 (.slice A2 n2 c2)
        replace res_0 := he5.cell res_0 (by simp only; omega)
        replace res_1 := he5.cell res_1 (by simp only; omega)
        replace d_0 := set_same d_0 (.slice A2 n2 c2)
        replace d_1 := set_other (b' := w3.heap.size) (o' := 0) d_1 (.slice A2 n2 c2) (.inr (by omega))
        have hz5 : u4.heap.size ≤ (u4.setCell ⟨w3.heap.size, 0, none⟩ (.slice A2 n2 c2)).heap.size := he5.size
        generalize (u4.setCell ⟨w3.heap.size, 0, none⟩ (.slice A2 n2 c2)) = u5 at *
        have E5 : Eff g (g + 1) W u5 := E4.step he5 (by omega)
        have S5 := E5.size
        replace o := o.keep he5 (by omega)
        replace b := b.keep he5 (by omega)
        replace o2 := o2.keep he5 (by omega)
        replace res_l := Nat.lt_of_lt_of_le res_l hz5
        replace d_l := Nat.lt_of_lt_of_le d_l hz5
        replace hc := hc.keep he5 (by omega) (by omega)
        have he6 : Eff (w3.heap.size) (w3.heap.size + 1) u5 (u5.setCell ⟨w3.heap.size, 1, none⟩ (.slice B2 m2 e2)) := eff_set _ _ _ _
        replace res_f0 := (he6.frozen res_0 (by simp only; omega)).trans res_f0
        replace res_f1 := (he6.frozen res_1 (by simp only; omega)).trans res_f1
        replace d_f0 := set_frozen (p := ⟨w3.heap.size, 1, none⟩) d_f0 (.slice B2 m2 e2)
        replace d_f1 := set_frozen (p := ⟨w3.heap.size, 1, none⟩) d_f1 (.slice B2 m2 e2)
        replace res_0 := he6.cell res_0 (by simp only; omega)
        replace res_1 := he6.cell res_1 (by simp only; omega)
        replace d_0 := set_other (b' := w3.heap.size) (o' := 1) d_0 (.slice B2 m2 e2) (.inr (by omega))
        replace d_1 := set_same d_1 (.slice B2 m2 e2)
        have hz6 : u5.heap.size ≤ (u5.setCell ⟨w3.heap.size, 1, none⟩ (.slice B2 m2 e2)).heap.size := he6.size
        generalize (u5.setCell ⟨w3.heap.size, 1, none⟩ (.slice B2 m2 e2)) = u6 at *
        have E6 : Eff g (g + 1) W u6 := E5.step he6 (by omega)
        have S6 := E6.size
        replace o := o.keep he6 (by omega)
        replace b := b.keep he6 (by omega)
        replace o2 := o2.keep he6 (by omega)
        replace res_l := Nat.lt_of_lt_of_le res_l hz6
        replace d_l := Nat.lt_of_lt_of_le d_l hz6
        replace hc := hc.keep he6 (by omega) (by omega)
        go_wp2_with fail
        go_roundw
        case rel => exact ⟨k, r + 1, n2, c2, m2, e2, _, _, A2, B2, _, _, by omega, by go_num, Lib.hid (okD_sync HK.out), o2, by omega, by omega, hc, E6, res_0, res_1, res_f0, res_f1, d_0, d_1, d_f0, d_f1, d_l⟩
        case measure => simp [intOf] <;> omega
      have jn0 : (j == 0) = false := by simp; omega
      by_cases j1 : j = 1
      · skip
        subst j1
        go_wp2_with fail
        have he4 : Eff 0 0 u3 u3.drew := (Eff.refl _ _ _).drew
        have hz4 : u3.heap.size ≤ u3.drew.heap.size := he4.size
        have E4 : Eff g (g + 1) W u3.drew := E3.step he4 (by omega)
        have S4 := E4.size
        replace o := o.keep he4 (by omega)
        replace b := b.keep he4 (by omega)
        replace res_f0 := (he4.frozen res_0 (by simp only; omega)).trans res_f0
        replace res_f1 := (he4.frozen res_1 (by simp only; omega)).trans res_f1
        replace d_f0 := (he4.frozen d_0 (by simp only; omega)).trans d_f0
        replace d_f1 := (he4.frozen d_1 (by simp only; omega)).trans d_f1
        replace res_0 := he4.cell res_0 (by simp only; omega)
        replace res_1 := he4.cell res_1 (by simp only; omega)
        replace d_0 := he4.cell d_0 (by simp only; omega)
        replace d_1 := he4.cell d_1 (by simp only; omega)
        replace res_l := Nat.lt_of_lt_of_le res_l hz4
        replace d_l := Nat.lt_of_lt_of_le d_l hz4
        replace hc := hc.keep he4 (by omega) (by omega)
        have tok1 : True := trivial
        have tok2 : True := trivial
        go_region_with (first | (have _t := tok1; go_at_call 80; refine (l01Below_any B g 140 (by omega) u3.drew hc).mono ?_; rintro e u5 hpost; obtain ⟨z1, rfl, ⟨z1_0, z1_1, -⟩, hc, he⟩ := hpost.eff; clear hpost tok1 _t; replace z1_1 := z1_1 (by omega); have he5 : Eff (g) (g + 1) u3.drew u5 := he; have hz5 : u3.drew.heap.size ≤ u5.heap.size := he5.size; have E5 : Eff g (g + 1) W u5 := E4.step he5 (by omega); have S5 := E5.size; replace o := o.keep he5 (by omega); replace b := b.keep he5 (by omega); replace res_f0 := (he5.frozen res_0 (by simp only; omega)).trans res_f0; replace res_f1 := (he5.frozen res_1 (by simp only; omega)).trans res_f1; replace d_f0 := (he5.frozen d_0 (by simp only; omega)).trans d_f0; replace d_f1 := (he5.frozen d_1 (by simp only; omega)).trans d_f1; replace res_0 := he5.cell res_0 (by simp only; omega); replace res_1 := he5.cell res_1 (by simp only; omega); replace d_0 := he5.cell d_0 (by simp only; omega); replace d_1 := he5.cell d_1 (by simp only; omega); replace res_l := Nat.lt_of_lt_of_le res_l hz5; replace d_l := Nat.lt_of_lt_of_le d_l hz5; clear he) | (have _t := tok2; go_at_call 80; refine (l01Below_any B g 140 (by omega) u5 hc).mono ?_; rintro e u6 hpost; obtain ⟨z2, rfl, ⟨z2_0, z2_1, -⟩, hc, he⟩ := hpost.eff; clear hpost tok2 _t; replace z2_1 := z2_1 (by omega); have he6 : Eff (g) (g + 1) u5 u6 := he; have hz6 : u5.heap.size ≤ u6.heap.size := he6.size; have E6 : Eff g (g + 1) W u6 := E5.step he6 (by omega); have S6 := E6.size; replace o := o.keep he6 (by omega); replace b := b.keep he6 (by omega); replace res_f0 := (he6.frozen res_0 (by simp only; omega)).trans res_f0; replace res_f1 := (he6.frozen res_1 (by simp only; omega)).trans res_f1; replace d_f0 := (he6.frozen d_0 (by simp only; omega)).trans d_f0; replace d_f1 := (he6.frozen d_1 (by simp only; omega)).trans d_f1; replace res_0 := he6.cell res_0 (by simp only; omega); replace res_1 := he6.cell res_1 (by simp only; omega); replace d_0 := he6.cell d_0 (by simp only; omega); replace d_1 := he6.cell d_1 (by simp only; omega); replace res_l := Nat.lt_of_lt_of_le res_l hz6; replace d_l := Nat.lt_of_lt_of_le d_l hz6; clear he; have d_0P := (Eff.alloc u6 (.cells #[.int .i64 z1, .int .i64 z2] 3)).cell d_0 (by simp only; omega); have d_1P := (Eff.alloc u6 (.cells #[.int .i64 z1, .int .i64 z2] 3)).cell d_1 (by simp only; omega)) | (go_at_call 32; clear d_0P d_1P; have he7 : Eff 0 0 u6 (u6.alloc (.cells #[.int .i64 z1, .int .i64 z2] 3)) := (Eff.alloc _ _); have hs7 : (u6.alloc (.cells #[.int .i64 z1, .int .i64 z2] 3)).heap.size = u6.heap.size + 1 := (by simp); have ks : Own 3 1 (u6.alloc (.cells #[.int .i64 z1, .int .i64 z2] 3)) u6.heap.size (u6.heap.size + 1) (some ⟨u6.heap.size, 0, none⟩) 2 2 [.int .i64 z1, .int .i64 z2] := new_rowN u6 [.int .i64 z1, .int .i64 z2] 3; generalize (u6.alloc (.cells #[.int .i64 z1, .int .i64 z2] 3)) = u7 at *; have hz7 : u6.heap.size ≤ u7.heap.size := he7.size; have E7 : Eff g (g + 1) W u7 := E6.step he7 (by omega); have S7 := E7.size; replace o := o.keep he7 (by omega); replace b := b.keep he7 (by omega); replace res_f0 := (he7.frozen res_0 (by simp only; omega)).trans res_f0; replace res_f1 := (he7.frozen res_1 (by simp only; omega)).trans res_f1; replace d_f0 := (he7.frozen d_0 (by simp only; omega)).trans d_f0; replace d_f1 := (he7.frozen d_1 (by simp only; omega)).trans d_f1; replace res_0 := he7.cell res_0 (by simp only; omega); replace res_1 := he7.cell res_1 (by simp only; omega); replace d_0 := he7.cell d_0 (by simp only; omega); replace d_1 := he7.cell d_1 (by simp only; omega); replace res_l := Nat.lt_of_lt_of_le res_l hz7; replace d_l := Nat.lt_of_lt_of_le d_l hz7; replace hc := hc.keep he7 (by omega) (by omega); refine (crash_any Ac nc cc Aw nw cw r dc dw _ _ _ [z1, z2] u7 (OwnD.rd o (OwnD.le o)) HK.out (Own.rd ks (Own.le ks)) (by omega)).mono ?_; rintro e u8 ⟨A2, n2, c2, B2, m2, e2, -, -, rfl, o2, hb⟩; have he8 : Eff 0 0 u7 u8 := Eff.of hb; have hz8 : u7.heap.size ≤ u8.heap.size := he8.size; have E8 : Eff g (g + 1) W u8 := E7.step he8 (by omega); have S8 := E8.size; replace o := o.keep he8 (by omega); replace b := b.keep he8 (by omega); replace ks := ks.keep he8 (by omega); replace res_f0 := (he8.frozen res_0 (by simp only; omega)).trans res_f0; replace res_f1 := (he8.frozen res_1 (by simp only; omega)).trans res_f1; replace d_f0 := (he8.frozen d_0 (by simp only; omega)).trans d_f0; replace d_f1 := (he8.frozen d_1 (by simp only; omega)).trans d_f1; replace res_0 := he8.cell res_0 (by simp only; omega); replace res_1 := he8.cell res_1 (by simp only; omega); replace d_0 := he8.cell d_0 (by simp only; omega); replace d_1 := he8.cell d_1 (by simp only; omega); replace res_l := Nat.lt_of_lt_of_le res_l hz8; replace d_l := Nat.lt_of_lt_of_le d_l hz8; replace hc := hc.keep he8 (by omega) (by omega); clear hb; have es : Eff (w3.heap.size) (w3.heap.size + 1) u8 ((u8.setCell ⟨w3.heap.size, 0, none⟩ (.slice A2 n2 c2)).setCell ⟨w3.heap.size, 1, none⟩ (.slice B2 m2 e2)) := eff_set2k _ _ _ _; have rs0 := es.cell res_0 (by simp only; omega); have rs1 := es.cell res_1 (by simp only; omega); have rf0 := (es.frozen res_0 (by simp only; omega)).trans res_f0; have rf1 := (es.frozen res_1 (by simp only; omega)).trans res_f1; have rd0 : ((u8.setCell ⟨w3.heap.size, 0, none⟩ (.slice A2 n2 c2)).setCell ⟨w3.heap.size, 1, none⟩ (.slice B2 m2 e2)).cell? ⟨w3.heap.size, 0, none⟩ = some (.slice A2 n2 c2) := set_other (set_same d_0 _) _ (.inr (by omega)); have rd1 : ((u8.setCell ⟨w3.heap.size, 0, none⟩ (.slice A2 n2 c2)).setCell ⟨w3.heap.size, 1, none⟩ (.slice B2 m2 e2)).cell? ⟨w3.heap.size, 1, none⟩ = some (.slice B2 m2 e2) := set_same (set_other d_1 _ (.inr (by omega))) _; have rg0 : ((u8.setCell ⟨w3.heap.size, 0, none⟩ (.slice A2 n2 c2)).setCell ⟨w3.heap.size, 1, none⟩ (.slice B2 m2 e2)).frozen? ⟨w3.heap.size, 0, none⟩ = false := set_frozen (set_frozen d_f0 _) _; have rg1 : ((u8.setCell ⟨w3.heap.size, 0, none⟩ (.slice A2 n2 c2)).setCell ⟨w3.heap.size, 1, none⟩ (.slice B2 m2 e2)).frozen? ⟨w3.heap.size, 1, none⟩ = false := set_frozen (set_frozen d_f1 _) _; have rl := Nat.lt_of_lt_of_le d_l es.size; have o3 := o2.keep es (by omega); have hc3 := hc.keep es (by omega) (by omega); have E3 := E8.step es (by omega)))
        all_goals (go_wp2_with fail; go_roundw)
        all_goals (first | exact ⟨k, r + 1, n2, c2, m2, e2, _, _, A2, B2, _, _, by omega, by go_num, Lib.hid (okD_crash [z1, z2] HK.out), o3, by omega, by omega, hc3, E3, rs0, rs1, rf0, rf1, rd0, rd1, rg0, rg1, rl⟩ | (simp [intOf] <;> omega))
      · skip
        have jn1 : (j == 1) = false := by simp; omega
        go_wp2_with fail
        have he4 : Eff 0 0 u3 u3.drew := (Eff.refl _ _ _).drew
        have hz4 : u3.heap.size ≤ u3.drew.heap.size := he4.size
        have E4 : Eff g (g + 1) W u3.drew := E3.step he4 (by omega)
        have S4 := E4.size
        replace o := o.keep he4 (by omega)
        replace b := b.keep he4 (by omega)
        replace res_f0 := (he4.frozen res_0 (by simp only; omega)).trans res_f0
        replace res_f1 := (he4.frozen res_1 (by simp only; omega)).trans res_f1
        replace d_f0 := (he4.frozen d_0 (by simp only; omega)).trans d_f0
        replace d_f1 := (he4.frozen d_1 (by simp only; omega)).trans d_f1
        replace res_0 := he4.cell res_0 (by simp only; omega)
        replace res_1 := he4.cell res_1 (by simp only; omega)
        replace d_0 := he4.cell d_0 (by simp only; omega)
        replace d_1 := he4.cell d_1 (by simp only; omega)
        replace res_l := Nat.lt_of_lt_of_le res_l hz4
        replace d_l := Nat.lt_of_lt_of_le d_l hz4
        replace hc := hc.keep he4 (by omega) (by omega)
        have tok1 : True := trivial
        go_region_with (first | (go_at_call 80; have hnc := (OwnD.len o).1; have hnc1 := (dkOk_iff.1 HK.out.1).1.1; refine (l01Below_any B g (nc : Int) (by have := HK.out.2.1; omega) u3.drew hc).mono ?_; rintro e u5 hpost; obtain ⟨z1, rfl, ⟨z1_0, z1_1, -⟩, hc, he⟩ := hpost.eff; clear hpost; replace z1_1 := z1_1 (by omega); have he5 : Eff (g) (g + 1) u3.drew u5 := he; have hz5 : u3.drew.heap.size ≤ u5.heap.size := he5.size; have E5 : Eff g (g + 1) W u5 := E4.step he5 (by omega); have S5 := E5.size; replace o := o.keep he5 (by omega); replace b := b.keep he5 (by omega); replace res_f0 := (he5.frozen res_0 (by simp only; omega)).trans res_f0; replace res_f1 := (he5.frozen res_1 (by simp only; omega)).trans res_f1; replace d_f0 := (he5.frozen d_0 (by simp only; omega)).trans d_f0; replace d_f1 := (he5.frozen d_1 (by simp only; omega)).trans d_f1; replace res_0 := he5.cell res_0 (by simp only; omega); replace res_1 := he5.cell res_1 (by simp only; omega); replace d_0 := he5.cell d_0 (by simp only; omega); replace d_1 := he5.cell d_1 (by simp only; omega); replace res_l := Nat.lt_of_lt_of_le res_l hz5; replace d_l := Nat.lt_of_lt_of_le d_l hz5; clear he) | (go_at_call 20; refine (write_any Ac nc cc Aw nw cw r dc dw z1 _ _ _ bl u5 (OwnD.rd o (OwnD.le o)) HK.out (by omega) z1_0 (by omega) hbl (Own.rd b (Own.le b)) (by omega)).mono ?_; rintro e u6 ⟨A2, n2, c2, B2, m2, e2, -, -, rfl, o2, hb⟩; have he6 : Eff 0 0 u5 u6 := Eff.of hb; have hz6 : u5.heap.size ≤ u6.heap.size := he6.size; have E6 : Eff g (g + 1) W u6 := E5.step he6 (by omega); have S6 := E6.size; replace o := o.keep he6 (by omega); replace b := b.keep he6 (by omega); replace res_f0 := (he6.frozen res_0 (by simp only; omega)).trans res_f0; replace res_f1 := (he6.frozen res_1 (by simp only; omega)).trans res_f1; replace d_f0 := (he6.frozen d_0 (by simp only; omega)).trans d_f0; replace d_f1 := (he6.frozen d_1 (by simp only; omega)).trans d_f1; replace res_0 := he6.cell res_0 (by simp only; omega); replace res_1 := he6.cell res_1 (by simp only; omega); replace d_0 := he6.cell d_0 (by simp only; omega); replace d_1 := he6.cell d_1 (by simp only; omega); replace res_l := Nat.lt_of_lt_of_le res_l hz6; replace d_l := Nat.lt_of_lt_of_le d_l hz6; replace hc := hc.keep he6 (by omega) (by omega); clear hb; have es : Eff (w3.heap.size) (w3.heap.size + 1) u6 ((u6.setCell ⟨w3.heap.size, 0, none⟩ (.slice A2 n2 c2)).setCell ⟨w3.heap.size, 1, none⟩ (.slice B2 m2 e2)) := eff_set2k _ _ _ _; have rs0 := es.cell res_0 (by simp only; omega); have rs1 := es.cell res_1 (by simp only; omega); have rf0 := (es.frozen res_0 (by simp only; omega)).trans res_f0; have rf1 := (es.frozen res_1 (by simp only; omega)).trans res_f1; have rd0 : ((u6.setCell ⟨w3.heap.size, 0, none⟩ (.slice A2 n2 c2)).setCell ⟨w3.heap.size, 1, none⟩ (.slice B2 m2 e2)).cell? ⟨w3.heap.size, 0, none⟩ = some (.slice A2 n2 c2) := set_other (set_same d_0 _) _ (.inr (by omega)); have rd1 : ((u6.setCell ⟨w3.heap.size, 0, none⟩ (.slice A2 n2 c2)).setCell ⟨w3.heap.size, 1, none⟩ (.slice B2 m2 e2)).cell? ⟨w3.heap.size, 1, none⟩ = some (.slice B2 m2 e2) := set_same (set_other d_1 _ (.inr (by omega))) _; have rg0 : ((u6.setCell ⟨w3.heap.size, 0, none⟩ (.slice A2 n2 c2)).setCell ⟨w3.heap.size, 1, none⟩ (.slice B2 m2 e2)).frozen? ⟨w3.heap.size, 0, none⟩ = false := set_frozen (set_frozen d_f0 _) _; have rg1 : ((u6.setCell ⟨w3.heap.size, 0, none⟩ (.slice A2 n2 c2)).setCell ⟨w3.heap.size, 1, none⟩ (.slice B2 m2 e2)).frozen? ⟨w3.heap.size, 1, none⟩ = false := set_frozen (set_frozen d_f1 _) _; have rl := Nat.lt_of_lt_of_le d_l es.size; have o3 := o2.keep es (by omega); have hc3 := hc.keep es (by omega) (by omega); have E3 := E6.step es (by omega)))
        all_goals (go_wp2_with fail; go_roundw)
        all_goals (first | exact ⟨k, r + 1, n2, c2, m2, e2, _, _, A2, B2, _, _, by omega, by go_num, Lib.hid (okD_write HK.out (by omega) z1_0 (by omega) hbl), o3, by omega, by omega, hc3, E3, rs0, rs1, rf0, rf1, rd0, rd1, rg0, rg1, rl⟩ | (simp [intOf] <;> omega))
    · obtain rfl : k = 0 := by omega
      have hk0 : ¬ (0 : Int) < ((0 : Nat) : Int) := by omega
      have E0 := E
      go_wp2_with fail
      have r0 : ((wr.setCell ⟨W.heap.size, 0, none⟩ (.slice Ac nc cc)).setCell ⟨W.heap.size, 1, none⟩ (.slice Aw nw cw)).cell? ⟨W.heap.size, 0, none⟩ = some (.slice Ac nc cc) := set_other (set_same res_0 _) _ (.inr (by omega))
      have r1 : ((wr.setCell ⟨W.heap.size, 0, none⟩ (.slice Ac nc cc)).setCell ⟨W.heap.size, 1, none⟩ (.slice Aw nw cw)).cell? ⟨W.heap.size, 1, none⟩ = some (.slice Aw nw cw) := set_same (set_other res_1 _ (.inr (by omega))) _
      refine bodyPost_ret (v := .agg #[.slice Ac nc cc, .slice Aw nw cw]) (by simp [results, Try.results79, go_sem, r0, r1]) rfl ?_
      exact DkPost.mk HK.out (by omega) E0 hc o (eff_set2k _ _ _ _) (by omega) (by omega) (by omega) (by have := hc.le; omega)
end Go.Proofs.Ytblenfhacaecmaa
