/- Reading a disk: cellBytes, diskRead, DiskRead (program), l03Full, DiskRead (reference). -/
import Derived.Test.YtblenfhacaecmaaCpy
import Derived.Test.YtblenfhacaecmaaDpl
namespace Go.Proofs.Ytblenfhacaecmaa
open Go.RowKit
theorem made_zs {w : World} {lo n : Nat} {A : Option Addr} (h : w.ownsRow lo 5 1 (.slice A n n) n (madeCells (Value.int .u8 0).cells (n * 1)).toList) : OwnB w lo w.heap.size A n n (zsD n) := by
  have e : (madeCells (Value.int .u8 0).cells (n * 1)).toList = Lib.byteCells (zsD n) := by
    apply List.ext_getElem
    · simp [madeCells, zsD, Lib.byteCells]
    · intro k h1 h2
      simp [madeCells, zsD, Value.cells, Nat.mod_one, Lib.byteCells]
  rw [e] at h
  exact ⟨h, fun k hk => (h.lt k hk).2, Nat.le_refl _⟩
theorem full_zero {l : List UInt8} (h : l.length = 0) : fullC l = zsD 128 := by unfold fullC; rw [if_pos h]
theorem full_some {l : List UInt8} (h : l.length ≠ 0) : fullC l = l := by unfold fullC; rw [if_neg h]
theorem madeB_of {n m : Nat} {l l' : List UInt8} {w w' : World} {e : Ending} (h : MadeB n l w e w') (hn : n = m) (hl : l = l') : MadeB m l' w e w' := by subst hn; subst hl; exact h
/-- Bytes of the call's own and a bool. -/
def MadeBT (l : List UInt8) (ok : Bool) (w : World) (e : Ending) (w' : World) : Prop :=
  ∃ A n c, n = l.length ∧ e = .returned (.tuple #[.slice A n c, .bool ok]) ∧ OwnB w' w.heap.size w'.heap.size A n c l ∧ Below w.heap.size w w'
theorem madeBT_no {W w : World} (h : Below W.heap.size W w) : MadeBT [] false W (.returned (.tuple #[.slice none 0 0, .bool false])) w := ⟨none, 0, 0, rfl, rfl, Own.nil _ _ _ _ _ (Nat.le_refl _), h⟩
theorem madeBT_of {l l' : List UInt8} {ok : Bool} {w w' : World} {e : Ending} (h : MadeBT l ok w e w') (hl : l = l') : MadeBT l' ok w e w' := hl ▸ h
def inD (dc : List (List UInt8)) (p : Int) : Bool := decide (0 ≤ p ∧ p < (dc.length : Int))
/-- What DiskRead gives. -/
def drdOk (dc : List (List UInt8)) (dw : List (Int × List UInt8)) (p : Int) : Bool := dkOk dc dw && inD dc p
def drdB (dc : List (List UInt8)) (dw : List (Int × List UInt8)) (p : Int) : List UInt8 := if drdOk dc dw p then readD dc dw p else []
set_option maxHeartbeats 1000000 in
set_option maxRecDepth 100000 in
theorem impl_cellBytes_any (A : Option Addr) (n c : Nat) (l : List UInt8) (W : World) (hr : Rd W W.heap.size 1 A n (Lib.byteCells l)) (hn : n ≤ 1099511627776) :
    Calls Try.prog 67 #[.agg #[.slice A n c]] W (MadeB (fullC l).length (fullC l) W) := by
  obtain ⟨u0, hu0, hv0, hv1, hv2⟩ := info_parts info_u8
  have hl := len_of_rd hr
  by_cases h0 : n = 0
  · subst h0
    rw [full_zero hl, show (zsD 128).length = 128 from rfl]
    clear hl hr
    go_enter Try.func67, Try.ntmps67
    go_wp2_with (at_make; refine wpList_make_full _ rfl _ _ 27 rfl W.heap.size 5 u0 (.int .u8 0) 1 Try.underlying27 hu0 hv0 hv1 _ _ _ _ 128 rfl rfl rfl rfl (by rw [hv2]; omega) (by unfold maxLen; omega) (by simp) ?_; intro w1 hm hg)
    go_ret
    rw [show (W.alloc (.cells #[.slice A 0 c] 76)).heap.size = W.heap.size + 1 by simp] at hm
    exact ⟨_, _, rfl, made_zs hm, ((Below.refl _ _).alloc (Nat.le_refl _) _).grown hg (by simp) (by simp)⟩
  · rw [full_some (by omega), hl]
    have hnz : ((n : Int) == 0) = false := by simp; omega
    clear hl h0
    go_enter Try.func67, Try.ntmps67
    go_wp2_with (go_at_call 61; refine (copyBytes_any A n c l _ ((hr.alloc (Nat.le_refl _) _).more (by simp)) hn).mono ?_; rintro e w1 ⟨A1, c1, rfl, y, hb⟩)
    go_ret
    exact ⟨A1, c1, rfl, Own.wide y (by simp) (Nat.le_refl _) (Nat.le_refl _), ((Below.refl _ _).alloc (Nat.le_refl _) _).trans (hb.mono (by simp))⟩
set_option maxHeartbeats 1000000 in
set_option maxRecDepth 100000 in
theorem spec_l03Full_any (A : Option Addr) (n c : Nat) (l : List UInt8) (W : World) (hr : Rd W W.heap.size 1 A n (Lib.byteCells l)) (hn : n ≤ 1099511627776) :
    Calls Try.prog 50 #[.slice A n c] W (MadeB (fullC l).length (fullC l) W) := by
  obtain ⟨u0, hu0, hv0, hv1, hv2⟩ := info_parts info_u8
  have hl := len_of_rd hr
  by_cases h0 : n = 0
  · subst h0
    rw [full_zero hl, show (zsD 128).length = 128 from rfl]
    clear hl hr
    go_enter Try.func50, Try.ntmps50
    go_wp2_with (at_make; refine wpList_make_full _ rfl _ _ 27 rfl W.heap.size 5 u0 (.int .u8 0) 1 Try.underlying27 hu0 hv0 hv1 _ _ _ _ 128 rfl rfl rfl rfl (by rw [hv2]; omega) (by unfold maxLen; omega) (by simp) ?_; intro w1 hm hg)
    go_ret
    exact ⟨_, _, rfl, made_zs hm, (Below.refl _ _).grown hg (Nat.le_refl _) (by simp)⟩
  · rw [full_some (by omega), hl]
    have hnz : ((n : Int) == 0) = false := by simp; omega
    clear hl h0
    go_enter Try.func50, Try.ntmps50
    go_wp2_with (at_builtin; refine wpList_app _ rfl _ _ 27 rfl 5 u0 (.int .u8 0) 1 1 Try.underlying27 hu0 hv0 hv1 hv2 rfl (by omega) rfl (new_empty W 5 1) c rfl (hr.alloc (Nat.le_refl _) _) (byteCells_one' l) (by unfold maxLen; omega) (by omega) (by simp) ?_; intro A2 c2 w1 hO hE hK)
    go_ret
    refine ⟨A2, c2, by simp, ?_, (Eff.join (Eff.alloc _ _) hE (Nat.le_refl _)).all⟩
    unfold OwnB
    simpa only [Nat.zero_add, List.nil_append] using hO
set_option maxHeartbeats 2000000 in
set_option maxRecDepth 100000 in
theorem impl_diskRead_any (Ac : Option Addr) (nc cc : Nat) (cs : List Ce) (Aw : Option Addr) (nw cw : Nat) (ws : List Wr) (p : Nat) (W : World) (hrc : RdCell W W.heap.size Ac nc cs) (hrw : RdWrite W W.heap.size Aw nw ws) (hn' : nw ≤ 1048576) (hl : lenOk cs ws) (hp : p < nc) :
    Calls Try.prog 54 #[.agg #[.slice Ac nc cc, .slice Aw nw cw], .int .i64 (p : Int)] W (MadeB (readD (cs.map Ce.d) (ws.map Wr.d) (p : Int)).length (readD (cs.map Ce.d) (ws.map Wr.d) (p : Int)) W) := by
  obtain ⟨hl1, hl2⟩ := hl
  have hlw := hrw.len Wr.hf (by omega)
  have HLW := Lib.hid hlw
  have HL1 := Lib.hid hl1
  have HL2 := Lib.hid hl2
  clear hl1 hl2 hlw
  go_enter Try.func54, Try.ntmps54
  go_wp2
  have hb0 : Below W.heap.size W (W.alloc (.cells #[.slice Ac nc cc, .slice Aw nw cw] 33)) := (Below.refl _ _).alloc (Nat.le_refl _) _
  have ha0 : (W.alloc (.cells #[.slice Ac nc cc, .slice Aw nw cw] 33)).cell? ⟨W.heap.size, 0, none⟩ = some (.slice Ac nc cc) := var_cell _ _ _ _ _ rfl
  have ha1 : (W.alloc (.cells #[.slice Ac nc cc, .slice Aw nw cw] 33)).cell? ⟨W.heap.size, 1, none⟩ = some (.slice Aw nw cw) := var_cell _ _ _ _ _ rfl
  have hs0 : (W.alloc (.cells #[.slice Ac nc cc, .slice Aw nw cw] 33)).heap.size = W.heap.size + 1 := (by simp)
  generalize (W.alloc (.cells #[.slice Ac nc cc, .slice Aw nw cw] 33)) = w0 at *
  go_loopw [5] (fun vi wr => ∃ (k : Nat) (v : Int), k ≤ nw ∧ vi = .int .i64 v ∧ v = (k : Int) - 1 ∧ Below W.heap.size W wr ∧ W.heap.size < wr.heap.size ∧ wr.cell? ⟨W.heap.size, 0, none⟩ = some (.slice Ac nc cc) ∧ wr.cell? ⟨W.heap.size, 1, none⟩ = some (.slice Aw nw cw) ∧ Hid (rdW (p : Int) (ws.map Wr.d) = rdW (p : Int) ((ws.map Wr.d).take k))) (fun vi _ => (intOf vi + 1).toNat)
  case atStart => exact ⟨nw, _, Nat.le_refl _, rfl, by omega, hb0, by omega, ha0, ha1, Lib.hid (by rw [List.take_of_length_le (by rw [List.length_map, HLW.out]; exact Nat.le_refl _)])⟩
  case round =>
    clear hb0 ha0 ha1 hs0
    obtain ⟨k, v, hk, rfl, hv, hb, hz, ha0, ha1, HD⟩ := hrel
    rcases k with _ | j
    · obtain rfl : v = -1 := by omega
      clear hv
      have HN : Hid (rdW (p : Int) (ws.map Wr.d) = none) := Lib.hid (by rw [HD.out, List.take_zero]; rfl)
      obtain ⟨b, off, ⟨Ax, nx, cx, lx⟩, rfl, hbB, hx, hcell, hi, hcap⟩ := (hrc.below hb (Nat.le_refl _)).elem Ce.hf (by omega) hp
      have cc0 : wr.cell? ⟨b, off + p, none⟩ = some (.slice Ax nx cx) := by have := hcell 0 _ rfl; simpa [Nat.mul_one, Nat.add_assoc] using this
      replace hi : Rd wr W.heap.size 1 Ax nx (Lib.byteCells lx) := hi
      have hnx : nx ≤ 1099511627776 := HL1.out _ (List.mem_of_getElem? hx)
      have HR : Hid (readD (cs.map Ce.d) (ws.map Wr.d) (p : Int) = fullC lx) := Lib.hid (by rw [readD_none HN.out]; simp only [Int.toNat_natCast, List.getD, List.getElem?_map, hx]; rfl)
      have hp0 : (0 : Int) ≤ (p : Int) := by omega
      have hp1 : (p : Int) < (nc : Int) := by omega
      clear hcell hcap hx
  
      go_wp2_with (go_at_call 67; refine (impl_cellBytes_any Ax nx cx lx _ (hi.more (by omega)) hnx).mono ?_; rintro e w1 ⟨A1, c1, rfl, y, hb1⟩)
      go_ret
      exact madeB_of ⟨A1, c1, rfl, Own.wide y (by omega) (Nat.le_refl _) (Nat.le_refl _), hb.trans (hb1.mono (by omega))⟩ (by rw [HR.out]) HR.out.symm
    · obtain rfl : v = (j : Int) := by omega
      clear hv
      have hjn : j < nw := by omega
      obtain ⟨b, off, ⟨px, Ax, nx, cx, lx⟩, rfl, hbB, hx, hcell, hi, hcap⟩ := (hrw.below hb (Nat.le_refl _)).elem Wr.hf (by omega) hjn
      have cc0 : wr.cell? ⟨b, off + j * 2, none⟩ = some (.int .i64 px) := by have := hcell 0 _ rfl; simpa [Nat.add_assoc] using this
      have cc1 : wr.cell? ⟨b, off + j * 2 + 1, none⟩ = some (.slice Ax nx cx) := by have := hcell 1 _ rfl; simpa [Nat.add_assoc] using this
      replace hi : Rd wr W.heap.size 1 Ax nx (Lib.byteCells lx) := hi
      have hnx : nx ≤ 1099511627776 := HL2.out _ (List.mem_of_getElem? hx)
      have HX : Hid ((ws.map Wr.d)[j]? = some (px, lx)) := Lib.hid (by rw [List.getElem?_map, hx]; rfl)
      have hlx : lx.length = nx := len_of_rd hi
      have HLX := Lib.hid hlx
      have hj0 : (0 : Int) ≤ (j : Int) := by omega
      have hj1 : (j : Int) < (nw : Int) := by omega
      have hpz : (0 : Int) ≤ (p : Int) := by omega
      clear hcell hcap hx hlx
      by_cases hpp : px = (p : Int)
      · subst hpp
        have HR : Hid (readD (cs.map Ce.d) (ws.map Wr.d) (p : Int) = lx) := Lib.hid (readD_hit (by rw [HD.out, rdW_take HX.out, if_pos rfl]))
        go_wp2_with (go_at_call 61; refine (copyBytes_any Ax nx cx lx _ (hi.more (by omega)) hnx).mono ?_; rintro e w1 ⟨A1, c1, rfl, y, hb1⟩)
        go_ret
        exact madeB_of ⟨A1, c1, rfl, Own.wide y (by omega) (Nat.le_refl _) (Nat.le_refl _), hb.trans (hb1.mono (by omega))⟩ (by rw [HR.out, HLX.out]) HR.out.symm
      · have hpq : (px == (p : Int)) = false := by simpa using hpp
        have HR : Hid (rdW (p : Int) (ws.map Wr.d) = rdW (p : Int) ((ws.map Wr.d).take j)) := Lib.hid (by rw [HD.out, rdW_take HX.out, if_neg hpp])
        go_wp2
        go_roundw
        case rel => exact ⟨j, (j : Int) - 1, by omega, by go_num, rfl, hb, hz, ha0, ha1, HR⟩
        case measure => first | (simp [intOf]; done) | (simp [intOf]; omega)
end Go.Proofs.Ytblenfhacaecmaa
