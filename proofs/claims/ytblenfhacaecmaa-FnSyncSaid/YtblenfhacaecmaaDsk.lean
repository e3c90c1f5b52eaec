/- Disks: a row of cells and a row of writes: to, sz, eq, mark, held. -/
import Derived.Test.YtblenfhacaecmaaCel
namespace Go.Proofs.Ytblenfhacaecmaa
open Go.RowKit
/-- A disk of the call's own: its cells between lo and m, its writes from m on. -/
def OwnDk (w : World) (lo hi : Nat) (Ac : Option Addr) (nc cc : Nat) (Aw : Option Addr) (nw cw : Nat) (cs : List Ce) (ws : List Wr) : Prop :=
  ∃ m, OwnCell w lo m Ac nc cc cs ∧ OwnWrite w m hi Aw nw cw ws
theorem OwnDk.keep {w w' : World} {lo hi lo' hi' nc cc nw cw : Nat} {Ac Aw : Option Addr} {cs : List Ce} {ws : List Wr} (h : OwnDk w lo hi Ac nc cc Aw nw cw cs ws) (he : Eff lo' hi' w w') (hd : hi ≤ lo' ∨ hi' ≤ lo ∨ hi' ≤ lo') : OwnDk w' lo hi Ac nc cc Aw nw cw cs ws := by
  obtain ⟨m, h1, h2⟩ := h
  have := h1.lohi; have := h2.lohi
  exact ⟨m, h1.keep he (by omega), h2.keep he (by omega)⟩
theorem OwnDk.rc {w : World} {lo hi nc cc nw cw B : Nat} {Ac Aw : Option Addr} {cs : List Ce} {ws : List Wr} (h : OwnDk w lo hi Ac nc cc Aw nw cw cs ws) (hB : hi ≤ B) : RdCell w B Ac nc cs := by
  obtain ⟨m, h1, h2⟩ := h
  have := h2.lohi
  exact h1.rd (by omega)
theorem OwnDk.rw {w : World} {lo hi nc cc nw cw B : Nat} {Ac Aw : Option Addr} {cs : List Ce} {ws : List Wr} (h : OwnDk w lo hi Ac nc cc Aw nw cw cs ws) (hB : hi ≤ B) : RdWrite w B Aw nw ws := by
  obtain ⟨m, h1, h2⟩ := h
  exact h2.rd hB
theorem OwnDk.le {w : World} {lo hi nc cc nw cw : Nat} {Ac Aw : Option Addr} {cs : List Ce} {ws : List Wr} (h : OwnDk w lo hi Ac nc cc Aw nw cw cs ws) : hi ≤ w.heap.size := by
  obtain ⟨m, h1, h2⟩ := h
  exact h2.le
theorem OwnDk.lohi {w : World} {lo hi nc cc nw cw : Nat} {Ac Aw : Option Addr} {cs : List Ce} {ws : List Wr} (h : OwnDk w lo hi Ac nc cc Aw nw cw cs ws) : lo ≤ hi := by
  obtain ⟨m, h1, h2⟩ := h
  exact Nat.le_trans h1.lohi h2.lohi
theorem OwnDk.capc {w : World} {lo hi nc cc nw cw : Nat} {Ac Aw : Option Addr} {cs : List Ce} {ws : List Wr} (h : OwnDk w lo hi Ac nc cc Aw nw cw cs ws) : nc ≤ cc ∧ cc ≤ maxLen ∧ nw ≤ cw ∧ cw ≤ maxLen := by
  obtain ⟨m, h1, h2⟩ := h
  exact ⟨h1.caps.1, h1.caps.2, h2.caps.1, h2.caps.2⟩
/-- A disk of the call's own that holds these cells and writes. -/
def MadeDk (dc : List (List UInt8)) (dw : List (Int × List UInt8)) (w : World) (e : Ending) (w' : World) : Prop :=
  ∃ Ac nc cc Aw nw cw cs ws, e = .returned (.agg #[.slice Ac nc cc, .slice Aw nw cw]) ∧ cs.map Ce.d = dc ∧ ws.map Wr.d = dw ∧ OwnDk w' w.heap.size w'.heap.size Ac nc cc Aw nw cw cs ws ∧ Below w.heap.size w w'
def lenOk (cs : List Ce) (ws : List Wr) : Prop := (∀ x ∈ cs, x.n ≤ 1099511627776) ∧ ∀ x ∈ ws, x.n ≤ 1099511627776
theorem made_disk {g g' mid lo lo' n1 c1 n2 c2 : Nat} {W w : World} {A1 A2 : Option Addr} {cs : List Ce} {ws : List Wr} {dc : List (List UInt8)} {dw : List (Int × List UInt8)} {u1 v0 v1 : Value} (hd1 : cs.map Ce.d = dc) (hd2 : ws.map Wr.d = dw) (t1 : OwnCell w lo mid A1 n1 c1 cs) (t2 : OwnWrite w lo' w.heap.size A2 n2 c2 ws) (hb : Below W.heap.size W w) (h1 : W.heap.size ≤ g) (h2 : W.heap.size ≤ g') (h3 : g < lo) (h4 : g' < lo) (h5 : mid ≤ lo') (h6 : W.heap.size ≤ lo) :
    MadeDk dc dw W (.returned (.agg #[.slice A1 n1 c1, .slice A2 n2 c2])) (((w.setCell ⟨g, 1, none⟩ u1).setCell ⟨g', 0, none⟩ v0).setCell ⟨g', 1, none⟩ v1) := by
  have hs : (((w.setCell ⟨g, 1, none⟩ u1).setCell ⟨g', 0, none⟩ v0).setCell ⟨g', 1, none⟩ v1).heap.size = w.heap.size := by simp
  have l1 := t1.lohi
  have e : Eff 0 lo w (((w.setCell ⟨g, 1, none⟩ u1).setCell ⟨g', 0, none⟩ v0).setCell ⟨g', 1, none⟩ v1) := (((Eff.refl _ _ _).setCell (Nat.zero_le _) h3 _).setCell (Nat.zero_le _) h4 _).setCell (Nat.zero_le _) h4 _
  refine ⟨A1, n1, c1, A2, n2, c2, cs, ws, rfl, hd1, hd2, ⟨lo', ?_, ?_⟩, ((hb.setCell h1 _).setCell h2 _).setCell h2 _⟩
  · exact (t1.keep e (.inr (.inl (Nat.le_refl _)))).wide h6 h5 (by have := t2.lohi; omega)
  · rw [hs]; exact t2.keep e (.inr (.inl (by omega)))
set_option maxHeartbeats 1000000 in
set_option maxRecDepth 100000 in
theorem toDisk_any (Ac : Option Addr) (nc cc : Nat) (cs : List Ce) (Aw : Option Addr) (nw cw : Nat) (ws : List Wr) (W : World) (hrc : RdCell W W.heap.size Ac nc cs) (hrw : RdWrite W W.heap.size Aw nw ws) (hn : nc ≤ 1099511627776) (hn' : nw ≤ 1099511627776) (hl : lenOk cs ws) :
    Calls Try.prog 13 #[.agg #[.slice Ac nc cc, .slice Aw nw cw]] W (MadeDk (cs.map Ce.d) (ws.map Wr.d) W) := by
  obtain ⟨hl1, hl2⟩ := hl
  go_enter Try.func13, Try.ntmps13
  go_wp2_with fail
  have he1 : Eff 0 0 W (W.alloc (.cells #[.slice Ac nc cc, .slice Aw nw cw] 25)) := Eff.alloc _ _
  have hs1 : (W.alloc (.cells #[.slice Ac nc cc, .slice Aw nw cw] 25)).heap.size = W.heap.size + 1 := (by simp)
  have aD_0 : (W.alloc (.cells #[.slice Ac nc cc, .slice Aw nw cw] 25)).cell? ⟨W.heap.size, 0, none⟩ = some (.slice Ac nc cc) := var_cell _ _ _ _ _ rfl
  have aD_1 : (W.alloc (.cells #[.slice Ac nc cc, .slice Aw nw cw] 25)).cell? ⟨W.heap.size, 1, none⟩ = some (.slice Aw nw cw) := var_cell _ _ _ _ _ rfl
  generalize (W.alloc (.cells #[.slice Ac nc cc, .slice Aw nw cw] 25)) = w1 at *
  have hz1 : W.heap.size ≤ w1.heap.size := he1.size
  have b1 : Below W.heap.size W w1 := he1.below (Nat.le_refl _) (by omega)
  replace hrc := (hrc.below (he1.below (B := W.heap.size) (by omega) (by omega)) (Nat.le_refl _))
  replace hrw := (hrw.below (he1.below (B := W.heap.size) (by omega) (by omega)) (Nat.le_refl _))
  have aD_l : W.heap.size < w1.heap.size := (by omega)
  have he2 : Eff 0 0 w1 (w1.alloc (.cells #[.slice none 0 0, .slice none 0 0] 33)) := Eff.alloc _ _
  have hs2 : (w1.alloc (.cells #[.slice none 0 0, .slice none 0 0] 33)).heap.size = w1.heap.size + 1 := (by simp)
  have res_0 : (w1.alloc (.cells #[.slice none 0 0, .slice none 0 0] 33)).cell? ⟨w1.heap.size, 0, none⟩ = some (.slice none 0 0) := var_cell _ _ _ _ _ rfl
  have res_1 : (w1.alloc (.cells #[.slice none 0 0, .slice none 0 0] 33)).cell? ⟨w1.heap.size, 1, none⟩ = some (.slice none 0 0) := var_cell _ _ _ _ _ rfl
  have res_f0 : (w1.alloc (.cells #[.slice none 0 0, .slice none 0 0] 33)).frozen? ⟨w1.heap.size, 0, none⟩ = false := var_frozen _ _ _ _
  have res_f1 : (w1.alloc (.cells #[.slice none 0 0, .slice none 0 0] 33)).frozen? ⟨w1.heap.size, 1, none⟩ = false := var_frozen _ _ _ _
  generalize (w1.alloc (.cells #[.slice none 0 0, .slice none 0 0] 33)) = w2 at *
  have hz2 : w1.heap.size ≤ w2.heap.size := he2.size
  have b2 : Below W.heap.size W w2 := b1.trans (he2.below b1.size (by omega))
  replace hrc := (hrc.below (he2.below (B := W.heap.size) (by omega) (by omega)) (Nat.le_refl _))
  replace hrw := (hrw.below (he2.below (B := W.heap.size) (by omega) (by omega)) (Nat.le_refl _))
  replace aD_0 := he2.cell aD_0 (by simp only; omega)
  replace aD_1 := he2.cell aD_1 (by simp only; omega)
  replace aD_l := Nat.lt_of_lt_of_le aD_l hz2
  rw [hs1] at res_0 res_f0
  rw [hs1] at res_1 res_f1
  have res_l : W.heap.size + 1 < w2.heap.size := (by omega)
  have he3 : Eff 0 0 w2 (w2.alloc (.cells #[.slice none 0 0, .slice none 0 0] 33)) := Eff.alloc _ _
  have hs3 : (w2.alloc (.cells #[.slice none 0 0, .slice none 0 0] 33)).heap.size = w2.heap.size + 1 := (by simp)
  have out_0 : (w2.alloc (.cells #[.slice none 0 0, .slice none 0 0] 33)).cell? ⟨w2.heap.size, 0, none⟩ = some (.slice none 0 0) := var_cell _ _ _ _ _ rfl
  have out_1 : (w2.alloc (.cells #[.slice none 0 0, .slice none 0 0] 33)).cell? ⟨w2.heap.size, 1, none⟩ = some (.slice none 0 0) := var_cell _ _ _ _ _ rfl
  have out_f0 : (w2.alloc (.cells #[.slice none 0 0, .slice none 0 0] 33)).frozen? ⟨w2.heap.size, 0, none⟩ = false := var_frozen _ _ _ _
  have out_f1 : (w2.alloc (.cells #[.slice none 0 0, .slice none 0 0] 33)).frozen? ⟨w2.heap.size, 1, none⟩ = false := var_frozen _ _ _ _
  generalize (w2.alloc (.cells #[.slice none 0 0, .slice none 0 0] 33)) = w3 at *
  have hz3 : w2.heap.size ≤ w3.heap.size := he3.size
  have b3 : Below W.heap.size W w3 := b2.trans (he3.below b2.size (by omega))
  replace hrc := (hrc.below (he3.below (B := W.heap.size) (by omega) (by omega)) (Nat.le_refl _))
  replace hrw := (hrw.below (he3.below (B := W.heap.size) (by omega) (by omega)) (Nat.le_refl _))
  replace res_f0 := (he3.frozen res_0 (by simp only; omega)).trans res_f0
  replace res_f1 := (he3.frozen res_1 (by simp only; omega)).trans res_f1
  replace aD_0 := he3.cell aD_0 (by simp only; omega)
  replace aD_1 := he3.cell aD_1 (by simp only; omega)
  replace res_0 := he3.cell res_0 (by simp only; omega)
  replace res_1 := he3.cell res_1 (by simp only; omega)
  replace aD_l := Nat.lt_of_lt_of_le aD_l hz3
  replace res_l := Nat.lt_of_lt_of_le res_l hz3
  rw [hs2, hs1] at out_0 out_f0
  rw [hs2, hs1] at out_1 out_f1
  have out_l : W.heap.size + 1 + 1 < w3.heap.size := (by omega)
  refine (toCellS_any Ac nc cc cs w3 (hrc.more (by omega)) hn hl1).mono ?_
  rintro e w4 ⟨A1, c1, cs1, rfl, hd1, t1, hb⟩
  have he4 : Eff 0 0 w3 w4 := Eff.of hb
  have hz4 : w3.heap.size ≤ w4.heap.size := he4.size
  have b4 : Below W.heap.size W w4 := b3.trans (he4.below b3.size (by omega))
  replace hrc := (hrc.below (he4.below (B := W.heap.size) (by omega) (by omega)) (Nat.le_refl _))
  replace hrw := (hrw.below (he4.below (B := W.heap.size) (by omega) (by omega)) (Nat.le_refl _))
  replace res_f0 := (he4.frozen res_0 (by simp only; omega)).trans res_f0
  replace res_f1 := (he4.frozen res_1 (by simp only; omega)).trans res_f1
  replace out_f0 := (he4.frozen out_0 (by simp only; omega)).trans out_f0
  replace out_f1 := (he4.frozen out_1 (by simp only; omega)).trans out_f1
  replace aD_0 := he4.cell aD_0 (by simp only; omega)
  replace aD_1 := he4.cell aD_1 (by simp only; omega)
  replace res_0 := he4.cell res_0 (by simp only; omega)
  replace res_1 := he4.cell res_1 (by simp only; omega)
  replace out_0 := he4.cell out_0 (by simp only; omega)
  replace out_1 := he4.cell out_1 (by simp only; omega)
  replace aD_l := Nat.lt_of_lt_of_le aD_l hz4
  replace res_l := Nat.lt_of_lt_of_le res_l hz4
  replace out_l := Nat.lt_of_lt_of_le out_l hz4
  clear hb
  have HD1 := Lib.hid hd1
  clear hd1
  go_wp2_with fail
  have he5 : Eff (W.heap.size + 1 + 1) (W.heap.size + 1 + 1 + 1) w4 (w4.setCell ⟨W.heap.size + 1 + 1, 0, none⟩ (.slice A1 nc c1)) := eff_set _ _ _ _
  replace res_f0 := (he5.frozen res_0 (by simp only; omega)).trans res_f0
  replace res_f1 := (he5.frozen res_1 (by simp only; omega)).trans res_f1
  replace out_f0 := set_frozen (p := ⟨W.heap.size + 1 + 1, 0, none⟩) out_f0 (.slice A1 nc c1)
  replace out_f1 := set_frozen (p := ⟨W.heap.size + 1 + 1, 0, none⟩) out_f1 (.slice A1 nc c1)
  replace aD_0 := he5.cell aD_0 (by simp only; omega)
  replace aD_1 := he5.cell aD_1 (by simp only; omega)
  replace res_0 := he5.cell res_0 (by simp only; omega)
  replace res_1 := he5.cell res_1 (by simp only; omega)
  replace out_0 := set_same out_0 (.slice A1 nc c1)
  replace out_1 := set_other (b' := W.heap.size + 1 + 1) (o' := 0) out_1 (.slice A1 nc c1) (.inr (by omega))
  have hz5 : w4.heap.size ≤ (w4.setCell ⟨W.heap.size + 1 + 1, 0, none⟩ (.slice A1 nc c1)).heap.size := he5.size
  generalize (w4.setCell ⟨W.heap.size + 1 + 1, 0, none⟩ (.slice A1 nc c1)) = w5 at *
  have b5 : Below W.heap.size W w5 := b4.trans (he5.below b4.size (by omega))
  replace hrc := (hrc.below (he5.below (B := W.heap.size) (by omega) (by omega)) (Nat.le_refl _))
  replace hrw := (hrw.below (he5.below (B := W.heap.size) (by omega) (by omega)) (Nat.le_refl _))
  replace t1 := t1.keep he5 (by omega)
  replace aD_l := Nat.lt_of_lt_of_le aD_l hz5
  replace res_l := Nat.lt_of_lt_of_le res_l hz5
  replace out_l := Nat.lt_of_lt_of_le out_l hz5
  refine (toWriteS_any Aw nw cw ws w5 (hrw.more (by omega)) hn' hl2).mono ?_
  rintro e w6 ⟨A2, c2, ws1, rfl, hd2, t2, hb⟩
  have he6 : Eff 0 0 w5 w6 := Eff.of hb
  have hz6 : w5.heap.size ≤ w6.heap.size := he6.size
  have b6 : Below W.heap.size W w6 := b5.trans (he6.below b5.size (by omega))
  replace hrc := (hrc.below (he6.below (B := W.heap.size) (by omega) (by omega)) (Nat.le_refl _))
  replace hrw := (hrw.below (he6.below (B := W.heap.size) (by omega) (by omega)) (Nat.le_refl _))
  replace t1 := t1.keep he6 (by omega)
  replace res_f0 := (he6.frozen res_0 (by simp only; omega)).trans res_f0
  replace res_f1 := (he6.frozen res_1 (by simp only; omega)).trans res_f1
  replace out_f0 := (he6.frozen out_0 (by simp only; omega)).trans out_f0
  replace out_f1 := (he6.frozen out_1 (by simp only; omega)).trans out_f1
  replace aD_0 := he6.cell aD_0 (by simp only; omega)
  replace aD_1 := he6.cell aD_1 (by simp only; omega)
  replace res_0 := he6.cell res_0 (by simp only; omega)
  replace res_1 := he6.cell res_1 (by simp only; omega)
  replace out_0 := he6.cell out_0 (by simp only; omega)
  replace out_1 := he6.cell out_1 (by simp only; omega)
  replace aD_l := Nat.lt_of_lt_of_le aD_l hz6
  replace res_l := Nat.lt_of_lt_of_le res_l hz6
  replace out_l := Nat.lt_of_lt_of_le out_l hz6
  clear hb
  have HD2 := Lib.hid hd2
  clear hd2
  have hle := t1.le
  go_wp2
  refine bodyPost_ret (v := .agg #[.slice A1 nc c1, .slice A2 nw c2]) (by simp [results, Try.results13, go_sem, *]) rfl ?_
  exact made_disk HD1.out HD2.out t1 t2 b6 (g := W.heap.size + 1 + 1) (g' := W.heap.size + 1) (by omega) (by omega) (by omega) (by omega) (by omega) (by omega)
set_option maxHeartbeats 1000000 in
set_option maxRecDepth 100000 in
theorem eqDisk_same (Ac : Option Addr) (nc cc : Nat) (cs : List Ce) (Aw : Option Addr) (nw cw : Nat) (ws : List Wr) (Ac' : Option Addr) (nc' cc' : Nat) (cs' : List Ce) (Aw' : Option Addr) (nw' cw' : Nat) (ws' : List Wr) (W : World) (hrc : RdCell W W.heap.size Ac nc cs) (hrw : RdWrite W W.heap.size Aw nw ws) (hrc' : RdCell W W.heap.size Ac' nc' cs') (hrw' : RdWrite W W.heap.size Aw' nw' ws') (hdc : cs.map Ce.d = cs'.map Ce.d) (hdw : ws.map Wr.d = ws'.map Wr.d) (hn : nc ≤ 1099511627776) (hn' : nw ≤ 1099511627776) (hl : lenOk cs ws) (hl' : lenOk cs' ws') :
    Calls Try.prog 16 #[.agg #[.slice Ac nc cc, .slice Aw nw cw], .agg #[.slice Ac' nc' cc', .slice Aw' nw' cw']] W fun e w' => e = .returned (.bool true) ∧ Below W.heap.size W w' := by
  obtain ⟨hl1, hl2⟩ := hl
  obtain ⟨hl1', hl2'⟩ := hl'
  go_enter Try.func16, Try.ntmps16
  go_wp2_with fail
  have he1 : Eff 0 0 W (W.alloc (.cells #[.slice Ac nc cc, .slice Aw nw cw] 33)) := Eff.alloc _ _
  have hs1 : (W.alloc (.cells #[.slice Ac nc cc, .slice Aw nw cw] 33)).heap.size = W.heap.size + 1 := (by simp)
  have a_0 : (W.alloc (.cells #[.slice Ac nc cc, .slice Aw nw cw] 33)).cell? ⟨W.heap.size, 0, none⟩ = some (.slice Ac nc cc) := var_cell _ _ _ _ _ rfl
  have a_1 : (W.alloc (.cells #[.slice Ac nc cc, .slice Aw nw cw] 33)).cell? ⟨W.heap.size, 1, none⟩ = some (.slice Aw nw cw) := var_cell _ _ _ _ _ rfl
  generalize (W.alloc (.cells #[.slice Ac nc cc, .slice Aw nw cw] 33)) = w1 at *
  have hz1 : W.heap.size ≤ w1.heap.size := he1.size
  have b1 : Below W.heap.size W w1 := he1.below (Nat.le_refl _) (by omega)
  replace hrc := (hrc.below (he1.below (B := W.heap.size) (by omega) (by omega)) (Nat.le_refl _))
  replace hrw := (hrw.below (he1.below (B := W.heap.size) (by omega) (by omega)) (Nat.le_refl _))
  replace hrc' := (hrc'.below (he1.below (B := W.heap.size) (by omega) (by omega)) (Nat.le_refl _))
  replace hrw' := (hrw'.below (he1.below (B := W.heap.size) (by omega) (by omega)) (Nat.le_refl _))
  have a_l : W.heap.size < w1.heap.size := (by omega)
  have he2 : Eff 0 0 w1 (w1.alloc (.cells #[.slice Ac' nc' cc', .slice Aw' nw' cw'] 33)) := Eff.alloc _ _
  have hs2 : (w1.alloc (.cells #[.slice Ac' nc' cc', .slice Aw' nw' cw'] 33)).heap.size = w1.heap.size + 1 := (by simp)
  have b_0 : (w1.alloc (.cells #[.slice Ac' nc' cc', .slice Aw' nw' cw'] 33)).cell? ⟨w1.heap.size, 0, none⟩ = some (.slice Ac' nc' cc') := var_cell _ _ _ _ _ rfl
  have b_1 : (w1.alloc (.cells #[.slice Ac' nc' cc', .slice Aw' nw' cw'] 33)).cell? ⟨w1.heap.size, 1, none⟩ = some (.slice Aw' nw' cw') := var_cell _ _ _ _ _ rfl
  generalize (w1.alloc (.cells #[.slice Ac' nc' cc', .slice Aw' nw' cw'] 33)) = w2 at *
  have hz2 : w1.heap.size ≤ w2.heap.size := he2.size
  have b2 : Below W.heap.size W w2 := b1.trans (he2.below b1.size (by omega))
  replace hrc := (hrc.below (he2.below (B := W.heap.size) (by omega) (by omega)) (Nat.le_refl _))
  replace hrw := (hrw.below (he2.below (B := W.heap.size) (by omega) (by omega)) (Nat.le_refl _))
  replace hrc' := (hrc'.below (he2.below (B := W.heap.size) (by omega) (by omega)) (Nat.le_refl _))
  replace hrw' := (hrw'.below (he2.below (B := W.heap.size) (by omega) (by omega)) (Nat.le_refl _))
  replace a_0 := he2.cell a_0 (by simp only; omega)
  replace a_1 := he2.cell a_1 (by simp only; omega)
  replace a_l := Nat.lt_of_lt_of_le a_l hz2
  rw [hs1] at b_0
  rw [hs1] at b_1
  have b_l : W.heap.size + 1 < w2.heap.size := (by omega)
  go_wp2_with fail
  refine (eqCellS_same Ac nc cc cs Ac' nc' cc' cs' w2 (hrc.more (by omega)) (hrc'.more (by omega)) hdc hn hl1 hl1').mono ?_
  rintro e w3 ⟨rfl, hb⟩
  have he3 : Eff 0 0 w2 w3 := Eff.of hb
  have hz3 : w2.heap.size ≤ w3.heap.size := he3.size
  have b3 : Below W.heap.size W w3 := b2.trans (he3.below b2.size (by omega))
  replace hrc := (hrc.below (he3.below (B := W.heap.size) (by omega) (by omega)) (Nat.le_refl _))
  replace hrw := (hrw.below (he3.below (B := W.heap.size) (by omega) (by omega)) (Nat.le_refl _))
  replace hrc' := (hrc'.below (he3.below (B := W.heap.size) (by omega) (by omega)) (Nat.le_refl _))
  replace hrw' := (hrw'.below (he3.below (B := W.heap.size) (by omega) (by omega)) (Nat.le_refl _))
  replace a_0 := he3.cell a_0 (by simp only; omega)
  replace a_1 := he3.cell a_1 (by simp only; omega)
  replace b_0 := he3.cell b_0 (by simp only; omega)
  replace b_1 := he3.cell b_1 (by simp only; omega)
  replace a_l := Nat.lt_of_lt_of_le a_l hz3
  replace b_l := Nat.lt_of_lt_of_le b_l hz3
  clear hb
  go_wp2_with fail
  refine (eqWriteS_same Aw nw cw ws Aw' nw' cw' ws' w3 (hrw.more (by omega)) (hrw'.more (by omega)) hdw hn' hl2 hl2').mono ?_
  rintro e w4 ⟨rfl, hb⟩
  have he4 : Eff 0 0 w3 w4 := Eff.of hb
  have hz4 : w3.heap.size ≤ w4.heap.size := he4.size
  have b4 : Below W.heap.size W w4 := b3.trans (he4.below b3.size (by omega))
  replace hrc := (hrc.below (he4.below (B := W.heap.size) (by omega) (by omega)) (Nat.le_refl _))
  replace hrw := (hrw.below (he4.below (B := W.heap.size) (by omega) (by omega)) (Nat.le_refl _))
  replace hrc' := (hrc'.below (he4.below (B := W.heap.size) (by omega) (by omega)) (Nat.le_refl _))
  replace hrw' := (hrw'.below (he4.below (B := W.heap.size) (by omega) (by omega)) (Nat.le_refl _))
  replace a_0 := he4.cell a_0 (by simp only; omega)
  replace a_1 := he4.cell a_1 (by simp only; omega)
  replace b_0 := he4.cell b_0 (by simp only; omega)
  replace b_1 := he4.cell b_1 (by simp only; omega)
  replace a_l := Nat.lt_of_lt_of_le a_l hz4
  replace b_l := Nat.lt_of_lt_of_le b_l hz4
  clear hb
  go_wp2_with fail
  go_ret
  exact ⟨rfl, b4⟩
set_option maxHeartbeats 1000000 in
set_option maxRecDepth 100000 in
theorem szDisk_any (Ac : Option Addr) (nc cc : Nat) (cs : List Ce) (Aw : Option Addr) (nw cw : Nat) (ws : List Wr) (left : Int) (W : World) (hrc : RdCell W W.heap.size Ac nc cs) (hrw : RdWrite W W.heap.size Aw nw ws) (hl : -1 ≤ left ∧ left ≤ 4611686018427387904) (hn : nc ≤ 9223372036854775807) (hn' : nw ≤ 9223372036854775807) :
    Calls Try.prog 11 #[.agg #[.slice Ac nc cc, .slice Aw nw cw], .int .i64 left] W fun e w' => e = .returned (.int .i64 (if left - ((totS 1 1 (cs.map Ce.n) + totS 1 1 (ws.map Wr.n) : Nat) : Int) < 0 then -1 else left - ((totS 1 1 (cs.map Ce.n) + totS 1 1 (ws.map Wr.n) : Nat) : Int))) ∧ Below W.heap.size W w' := by
  obtain ⟨hl1, hl2⟩ := hl
  have hs1 := totS_len (s := 1) (ns := cs.map Ce.n)
  obtain ⟨t1, ht1⟩ : ∃ t, totS 1 1 (cs.map Ce.n) = t := ⟨_, rfl⟩
  obtain ⟨t2, ht2⟩ : ∃ t, totS 1 1 (ws.map Wr.n) = t := ⟨_, rfl⟩
  rw [ht1, ht2]
  have HT1 := Lib.hid ht1
  have HT2 := Lib.hid ht2
  clear ht1 ht2 hs1
  by_cases h1 : left - (t1 : Int) < 0
  · rw [if_pos (by omega)]
    go_enter Try.func11, Try.ntmps11
    go_wp2_with fail
    have he1 : Eff 0 0 W (W.alloc (.cells #[.slice Ac nc cc, .slice Aw nw cw] 25)) := Eff.alloc _ _
    have hs1 : (W.alloc (.cells #[.slice Ac nc cc, .slice Aw nw cw] 25)).heap.size = W.heap.size + 1 := (by simp)
    have a_0 : (W.alloc (.cells #[.slice Ac nc cc, .slice Aw nw cw] 25)).cell? ⟨W.heap.size, 0, none⟩ = some (.slice Ac nc cc) := var_cell _ _ _ _ _ rfl
    have a_1 : (W.alloc (.cells #[.slice Ac nc cc, .slice Aw nw cw] 25)).cell? ⟨W.heap.size, 1, none⟩ = some (.slice Aw nw cw) := var_cell _ _ _ _ _ rfl
    generalize (W.alloc (.cells #[.slice Ac nc cc, .slice Aw nw cw] 25)) = w1 at *
    have hz1 : W.heap.size ≤ w1.heap.size := he1.size
    have b1 : Below W.heap.size W w1 := he1.below (Nat.le_refl _) (by omega)
    replace hrc := (hrc.below (he1.below (B := W.heap.size) (by omega) (by omega)) (Nat.le_refl _))
    replace hrw := (hrw.below (he1.below (B := W.heap.size) (by omega) (by omega)) (Nat.le_refl _))
    have a_l : W.heap.size < w1.heap.size := (by omega)
    refine (szCellS_any Ac nc cc cs left w1 (hrc.more (by omega)) ⟨hl1, hl2⟩ hn).mono ?_
    rintro e w2 ⟨rfl, hb⟩
    have he2 : Eff 0 0 w1 w2 := Eff.of hb
    have hz2 : w1.heap.size ≤ w2.heap.size := he2.size
    have b2 : Below W.heap.size W w2 := b1.trans (he2.below b1.size (by omega))
    replace hrc := (hrc.below (he2.below (B := W.heap.size) (by omega) (by omega)) (Nat.le_refl _))
    replace hrw := (hrw.below (he2.below (B := W.heap.size) (by omega) (by omega)) (Nat.le_refl _))
    replace a_0 := he2.cell a_0 (by simp only; omega)
    replace a_1 := he2.cell a_1 (by simp only; omega)
    replace a_l := Nat.lt_of_lt_of_le a_l hz2
    clear hb
    rw [HT1.out, if_pos h1]
    go_wp2_with fail
    go_ret
    exact ⟨rfl, b2⟩
  · have h1' : 0 ≤ left - (t1 : Int) := by omega
    by_cases h2 : left - (t1 : Int) - (t2 : Int) < 0
    · rw [if_pos (by omega)]
      clear h1
      go_enter Try.func11, Try.ntmps11
      go_wp2_with fail
      have he1 : Eff 0 0 W (W.alloc (.cells #[.slice Ac nc cc, .slice Aw nw cw] 25)) := Eff.alloc _ _
      have hs1 : (W.alloc (.cells #[.slice Ac nc cc, .slice Aw nw cw] 25)).heap.size = W.heap.size + 1 := (by simp)
      have a_0 : (W.alloc (.cells #[.slice Ac nc cc, .slice Aw nw cw] 25)).cell? ⟨W.heap.size, 0, none⟩ = some (.slice Ac nc cc) := var_cell _ _ _ _ _ rfl
      have a_1 : (W.alloc (.cells #[.slice Ac nc cc, .slice Aw nw cw] 25)).cell? ⟨W.heap.size, 1, none⟩ = some (.slice Aw nw cw) := var_cell _ _ _ _ _ rfl
      generalize (W.alloc (.cells #[.slice Ac nc cc, .slice Aw nw cw] 25)) = w1 at *
      have hz1 : W.heap.size ≤ w1.heap.size := he1.size
      have b1 : Below W.heap.size W w1 := he1.below (Nat.le_refl _) (by omega)
      replace hrc := (hrc.below (he1.below (B := W.heap.size) (by omega) (by omega)) (Nat.le_refl _))
      replace hrw := (hrw.below (he1.below (B := W.heap.size) (by omega) (by omega)) (Nat.le_refl _))
      have a_l : W.heap.size < w1.heap.size := (by omega)
      refine (szCellS_any Ac nc cc cs left w1 (hrc.more (by omega)) ⟨hl1, hl2⟩ hn).mono ?_
      rintro e w2 ⟨rfl, hb⟩
      have he2 : Eff 0 0 w1 w2 := Eff.of hb
      have hz2 : w1.heap.size ≤ w2.heap.size := he2.size
      have b2 : Below W.heap.size W w2 := b1.trans (he2.below b1.size (by omega))
      replace hrc := (hrc.below (he2.below (B := W.heap.size) (by omega) (by omega)) (Nat.le_refl _))
      replace hrw := (hrw.below (he2.below (B := W.heap.size) (by omega) (by omega)) (Nat.le_refl _))
      replace a_0 := he2.cell a_0 (by simp only; omega)
      replace a_1 := he2.cell a_1 (by simp only; omega)
      replace a_l := Nat.lt_of_lt_of_le a_l hz2
      clear hb
      rw [HT1.out, if_neg (by omega)]
      go_wp2_with fail
      refine (szWriteS_any Aw nw cw ws (left - (t1 : Int)) w2 (hrw.more (by omega)) ⟨by omega, by omega⟩ hn').mono ?_
      rintro e w3 ⟨rfl, hb⟩
      have he3 : Eff 0 0 w2 w3 := Eff.of hb
      have hz3 : w2.heap.size ≤ w3.heap.size := he3.size
      have b3 : Below W.heap.size W w3 := b2.trans (he3.below b2.size (by omega))
      replace hrc := (hrc.below (he3.below (B := W.heap.size) (by omega) (by omega)) (Nat.le_refl _))
      replace hrw := (hrw.below (he3.below (B := W.heap.size) (by omega) (by omega)) (Nat.le_refl _))
      replace a_0 := he3.cell a_0 (by simp only; omega)
      replace a_1 := he3.cell a_1 (by simp only; omega)
      replace a_l := Nat.lt_of_lt_of_le a_l hz3
      clear hb
      rw [HT2.out, if_pos h2]
      go_wp2_with fail
      go_ret
      exact ⟨rfl, b3⟩
    · have h2' : 0 ≤ left - (t1 : Int) - (t2 : Int) := by omega
      rw [if_neg (by omega), show left - ((t1 + t2 : Nat) : Int) = left - (t1 : Int) - (t2 : Int) by omega]
      clear h1 h2
      go_enter Try.func11, Try.ntmps11
      go_wp2_with fail
      have he1 : Eff 0 0 W (W.alloc (.cells #[.slice Ac nc cc, .slice Aw nw cw] 25)) := Eff.alloc _ _
      have hs1 : (W.alloc (.cells #[.slice Ac nc cc, .slice Aw nw cw] 25)).heap.size = W.heap.size + 1 := (by simp)
      have a_0 : (W.alloc (.cells #[.slice Ac nc cc, .slice Aw nw cw] 25)).cell? ⟨W.heap.size, 0, none⟩ = some (.slice Ac nc cc) := var_cell _ _ _ _ _ rfl
      have a_1 : (W.alloc (.cells #[.slice Ac nc cc, .slice Aw nw cw] 25)).cell? ⟨W.heap.size, 1, none⟩ = some (.slice Aw nw cw) := var_cell _ _ _ _ _ rfl
      generalize (W.alloc (.cells #[.slice Ac nc cc, .slice Aw nw cw] 25)) = w1 at *
      have hz1 : W.heap.size ≤ w1.heap.size := he1.size
      have b1 : Below W.heap.size W w1 := he1.below (Nat.le_refl _) (by omega)
      replace hrc := (hrc.below (he1.below (B := W.heap.size) (by omega) (by omega)) (Nat.le_refl _))
      replace hrw := (hrw.below (he1.below (B := W.heap.size) (by omega) (by omega)) (Nat.le_refl _))
      have a_l : W.heap.size < w1.heap.size := (by omega)
      refine (szCellS_any Ac nc cc cs left w1 (hrc.more (by omega)) ⟨hl1, hl2⟩ hn).mono ?_
      rintro e w2 ⟨rfl, hb⟩
      have he2 : Eff 0 0 w1 w2 := Eff.of hb
      have hz2 : w1.heap.size ≤ w2.heap.size := he2.size
      have b2 : Below W.heap.size W w2 := b1.trans (he2.below b1.size (by omega))
      replace hrc := (hrc.below (he2.below (B := W.heap.size) (by omega) (by omega)) (Nat.le_refl _))
      replace hrw := (hrw.below (he2.below (B := W.heap.size) (by omega) (by omega)) (Nat.le_refl _))
      replace a_0 := he2.cell a_0 (by simp only; omega)
      replace a_1 := he2.cell a_1 (by simp only; omega)
      replace a_l := Nat.lt_of_lt_of_le a_l hz2
      clear hb
      rw [HT1.out, if_neg (by omega)]
      go_wp2_with fail
      refine (szWriteS_any Aw nw cw ws (left - (t1 : Int)) w2 (hrw.more (by omega)) ⟨by omega, by omega⟩ hn').mono ?_
      rintro e w3 ⟨rfl, hb⟩
      have he3 : Eff 0 0 w2 w3 := Eff.of hb
      have hz3 : w2.heap.size ≤ w3.heap.size := he3.size
      have b3 : Below W.heap.size W w3 := b2.trans (he3.below b2.size (by omega))
      replace hrc := (hrc.below (he3.below (B := W.heap.size) (by omega) (by omega)) (Nat.le_refl _))
      replace hrw := (hrw.below (he3.below (B := W.heap.size) (by omega) (by omega)) (Nat.le_refl _))
      replace a_0 := he3.cell a_0 (by simp only; omega)
      replace a_1 := he3.cell a_1 (by simp only; omega)
      replace a_l := Nat.lt_of_lt_of_le a_l hz3
      clear hb
      rw [HT2.out, if_neg (by omega)]
      go_wp2_with fail
      go_ret
      exact ⟨rfl, b3⟩
theorem markWriteS_z (A : Option Addr) (n c : Nat) (es : List Wr) (ns : List Nat) (lo hi k0 : Nat) (w : World) (ho : OwnWrite w lo hi A n c es) (hns : es.map Wr.n = ns) (hk0 : k0 + totS 1 1 ns ≤ 4611686018427387904) (hn : n ≤ 1099511627776) (hnb : ∀ m ∈ ns, m ≤ 1099511627776) (z : Int) (hz : z = (k0 : Int)) :
    Calls Try.prog 58 #[.slice A n c, .int .i64 z] w (MarkedWriteS A n c k0 lo hi ns w) := by subst hz; exact markWriteS_any A n c es ns lo hi k0 w ho hns hk0 hn hnb
theorem heldWriteS_z (A : Option Addr) (n c : Nat) (es : List Wr) (ns : List Nat) (k0 : Nat) (w : World) (hr : RdWrite w w.heap.size A n es) (hd : es.map Wr.d = marksWrite k0 ns) (hns : es.map Wr.n = ns) (hk0 : k0 + totS 1 1 ns ≤ 4611686018427387904) (hn : n ≤ 1099511627776) (hnb : ∀ m ∈ ns, m ≤ 1099511627776) (z : Int) (hz : z = (k0 : Int)) :
    Calls Try.prog 63 #[.slice A n c, .int .i64 z] w fun e w' => e = .returned (.int .i64 ((k0 + totS 1 1 ns : Nat) : Int)) ∧ Below w.heap.size w w' := by subst hz; exact heldWriteS_yes A n c es ns k0 w hr hd hns hk0 hn hnb
/-- What markDisk leaves. -/
def MarkedDk (Ac : Option Addr) (nc cc : Nat) (Aw : Option Addr) (nw cw : Nat) (k lo hi : Nat) (nsc nsw : List Nat) (w : World) (e : Ending) (w' : World) : Prop :=
  ∃ cs ws, e = .returned (.int .i64 ((k + totS 0 1 nsc + totS 1 1 nsw : Nat) : Int)) ∧ cs.map Ce.d = marksCell k nsc ∧ ws.map Wr.d = marksWrite (k + totS 0 1 nsc) nsw ∧ cs.map Ce.n = nsc ∧ ws.map Wr.n = nsw ∧ OwnDk w' lo hi Ac nc cc Aw nw cw cs ws ∧ Eff lo hi w w'
theorem Eff.anyD {lo hi : Nat} {w w' : World} (h : Eff 0 0 w w') : Eff lo hi w w' := ⟨h.os, h.tape, h.output, h.size, fun k hk _ => h.block k hk (.inr (Nat.zero_le _))⟩
set_option maxHeartbeats 1000000 in
set_option maxRecDepth 100000 in
theorem markDisk_any (Ac : Option Addr) (nc cc : Nat) (cs : List Ce) (Aw : Option Addr) (nw cw : Nat) (ws : List Wr) (nsc nsw : List Nat) (k0 : Nat) (lo hi : Nat) (w : World) (ho : OwnDk w lo hi Ac nc cc Aw nw cw cs ws) (hnc : cs.map Ce.n = nsc) (hnw : ws.map Wr.n = nsw) (hk0 : k0 + totS 0 1 nsc + totS 1 1 nsw ≤ 4611686018427387904) (hn : nc ≤ 1099511627776) (hn' : nw ≤ 1099511627776) (hb1' : ∀ m ∈ nsc, m ≤ 1099511627776) (hb2' : ∀ m ∈ nsw, m ≤ 1099511627776) :
    Calls Try.prog 17 #[.agg #[.slice Ac nc cc, .slice Aw nw cw], .int .i64 (k0 : Int)] w (MarkedDk Ac nc cc Aw nw cw k0 lo hi nsc nsw w) := by
  obtain ⟨m, t1, t2⟩ := ho
  have q1 := t1.lohi
  have q2 := t2.lohi
  have q3 := t2.le
  go_enter Try.func17, Try.ntmps17
  go_wp2_with fail
  have he1 : Eff 0 0 w (w.alloc (.cells #[.slice Ac nc cc, .slice Aw nw cw] 33)) := Eff.alloc _ _
  have hs1 : (w.alloc (.cells #[.slice Ac nc cc, .slice Aw nw cw] 33)).heap.size = w.heap.size + 1 := (by simp)
  have a_0 : (w.alloc (.cells #[.slice Ac nc cc, .slice Aw nw cw] 33)).cell? ⟨w.heap.size, 0, none⟩ = some (.slice Ac nc cc) := var_cell _ _ _ _ _ rfl
  have a_1 : (w.alloc (.cells #[.slice Ac nc cc, .slice Aw nw cw] 33)).cell? ⟨w.heap.size, 1, none⟩ = some (.slice Aw nw cw) := var_cell _ _ _ _ _ rfl
  generalize (w.alloc (.cells #[.slice Ac nc cc, .slice Aw nw cw] 33)) = w1 at *
  have hz1 : w.heap.size ≤ w1.heap.size := he1.size
  replace t1 := t1.keep he1 (by omega)
  replace t2 := t2.keep he1 (by omega)
  have a_l : w.heap.size < w1.heap.size := (by omega)
  refine (markCellS_any Ac nc cc cs nsc lo m k0 w1 t1 hnc (by omega) hn hb1').mono ?_
  rintro e w2 ⟨cs1, rfl, hd1, hn1, t1, he⟩
  have he2 : Eff (lo) (m) w1 w2 := he
  have hz2 : w1.heap.size ≤ w2.heap.size := he2.size
  replace t2 := t2.keep he2 (by omega)
  replace a_0 := he2.cell a_0 (by simp only; omega)
  replace a_1 := he2.cell a_1 (by simp only; omega)
  replace a_l := Nat.lt_of_lt_of_le a_l hz2
  clear he
  have HD1 := Lib.hid hd1
  have HN1 := Lib.hid hn1
  clear hd1 hn1
  go_wp2_with fail
  refine (markWriteS_z Aw nw cw ws nsw m hi (k0 + totS 0 1 nsc) w2 t2 hnw (by omega) hn' hb2' _ rfl).mono ?_
  rintro e w3 ⟨ws1, rfl, hd2, hn2, t2, he⟩
  have he3 : Eff (m) (hi) w2 w3 := he
  have hz3 : w2.heap.size ≤ w3.heap.size := he3.size
  replace t1 := t1.keep he3 (by omega)
  replace a_0 := he3.cell a_0 (by simp only; omega)
  replace a_1 := he3.cell a_1 (by simp only; omega)
  replace a_l := Nat.lt_of_lt_of_le a_l hz3
  clear he
  have HD2 := Lib.hid hd2
  have HN2 := Lib.hid hn2
  clear hd2 hn2
  go_wp2_with fail
  go_ret
  refine ⟨cs1, ws1, rfl, HD1.out, HD2.out, HN1.out, HN2.out, ⟨m, t1, t2⟩, ?_⟩
  exact (((he1.anyD).trans (he2.wide (Nat.le_refl _) (by omega))).trans (he3.wide (by omega) (Nat.le_refl _)))
set_option maxHeartbeats 1000000 in
set_option maxRecDepth 100000 in
theorem heldDisk_yes (Ac : Option Addr) (nc cc : Nat) (cs : List Ce) (Aw : Option Addr) (nw cw : Nat) (ws : List Wr) (nsc nsw : List Nat) (k0 : Nat) (W : World) (hrc : RdCell W W.heap.size Ac nc cs) (hrw : RdWrite W W.heap.size Aw nw ws) (hdc : cs.map Ce.d = marksCell k0 nsc) (hdw : ws.map Wr.d = marksWrite (k0 + totS 0 1 nsc) nsw) (hnc : cs.map Ce.n = nsc) (hnw : ws.map Wr.n = nsw) (hk0 : k0 + totS 0 1 nsc + totS 1 1 nsw ≤ 4611686018427387904) (hn : nc ≤ 1099511627776) (hn' : nw ≤ 1099511627776) (hb1' : ∀ m ∈ nsc, m ≤ 1099511627776) (hb2' : ∀ m ∈ nsw, m ≤ 1099511627776) :
    Calls Try.prog 23 #[.agg #[.slice Ac nc cc, .slice Aw nw cw], .int .i64 (k0 : Int)] W fun e w' => e = .returned (.int .i64 ((k0 + totS 0 1 nsc + totS 1 1 nsw : Nat) : Int)) ∧ Below W.heap.size W w' := by
  go_enter Try.func23, Try.ntmps23
  go_wp2_with fail
  have he1 : Eff 0 0 W (W.alloc (.cells #[.slice Ac nc cc, .slice Aw nw cw] 33)) := Eff.alloc _ _
  have hs1 : (W.alloc (.cells #[.slice Ac nc cc, .slice Aw nw cw] 33)).heap.size = W.heap.size + 1 := (by simp)
  have a_0 : (W.alloc (.cells #[.slice Ac nc cc, .slice Aw nw cw] 33)).cell? ⟨W.heap.size, 0, none⟩ = some (.slice Ac nc cc) := var_cell _ _ _ _ _ rfl
  have a_1 : (W.alloc (.cells #[.slice Ac nc cc, .slice Aw nw cw] 33)).cell? ⟨W.heap.size, 1, none⟩ = some (.slice Aw nw cw) := var_cell _ _ _ _ _ rfl
  generalize (W.alloc (.cells #[.slice Ac nc cc, .slice Aw nw cw] 33)) = w1 at *
  have hz1 : W.heap.size ≤ w1.heap.size := he1.size
  have b1 : Below W.heap.size W w1 := he1.below (Nat.le_refl _) (by omega)
  replace hrc := (hrc.below (he1.below (B := W.heap.size) (by omega) (by omega)) (Nat.le_refl _))
  replace hrw := (hrw.below (he1.below (B := W.heap.size) (by omega) (by omega)) (Nat.le_refl _))
  have a_l : W.heap.size < w1.heap.size := (by omega)
  refine (heldCellS_yes Ac nc cc cs nsc k0 w1 (hrc.more (by omega)) hdc hnc (by omega) hn hb1').mono ?_
  rintro e w2 ⟨rfl, hb⟩
  have he2 : Eff 0 0 w1 w2 := Eff.of hb
  have hz2 : w1.heap.size ≤ w2.heap.size := he2.size
  have b2 : Below W.heap.size W w2 := b1.trans (he2.below b1.size (by omega))
  replace hrc := (hrc.below (he2.below (B := W.heap.size) (by omega) (by omega)) (Nat.le_refl _))
  replace hrw := (hrw.below (he2.below (B := W.heap.size) (by omega) (by omega)) (Nat.le_refl _))
  replace a_0 := he2.cell a_0 (by simp only; omega)
  replace a_1 := he2.cell a_1 (by simp only; omega)
  replace a_l := Nat.lt_of_lt_of_le a_l hz2
  clear hb
  go_wp2_with fail
  refine (heldWriteS_z Aw nw cw ws nsw (k0 + totS 0 1 nsc) w2 (hrw.more (by omega)) hdw hnw (by omega) hn' hb2' _ rfl).mono ?_
  rintro e w3 ⟨rfl, hb⟩
  have he3 : Eff 0 0 w2 w3 := Eff.of hb
  have hz3 : w2.heap.size ≤ w3.heap.size := he3.size
  have b3 : Below W.heap.size W w3 := b2.trans (he3.below b2.size (by omega))
  replace hrc := (hrc.below (he3.below (B := W.heap.size) (by omega) (by omega)) (Nat.le_refl _))
  replace hrw := (hrw.below (he3.below (B := W.heap.size) (by omega) (by omega)) (Nat.le_refl _))
  replace a_0 := he3.cell a_0 (by simp only; omega)
  replace a_1 := he3.cell a_1 (by simp only; omega)
  replace a_l := Nat.lt_of_lt_of_le a_l hz3
  clear hb
  go_wp2_with fail
  go_ret
  exact ⟨rfl, b3⟩
end Go.Proofs.Ytblenfhacaecmaa
