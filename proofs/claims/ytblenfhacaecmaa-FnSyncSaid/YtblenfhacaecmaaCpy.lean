/- Copies of disks: copyDisk (program), l03Copy (reference). -/
import Derived.Test.YtblenfhacaecmaaDkd
import Derived.Test.YtblenfhacaecmaaApp
import Derived.Deep.RegionHeld3
namespace Go.Proofs.Ytblenfhacaecmaa
open Go.RowKit
theorem rd_row (w : World) (us : List Value) (t : TypeId) : Rd (w.alloc (.cells us.toArray t)) (w.heap.size + 1) us.length (some ⟨w.heap.size, 0, none⟩) 1 us := by
  refine ⟨by simp, .inr ⟨w.heap.size, 0, rfl, by omega, fun j v hv => ?_⟩⟩
  rw [cell_of_row _ w.heap.size _ _ _ _ (heap_alloc_new w _)]
  simpa using hv
theorem oneR {u v : Value} (h : v ∈ [u]) (hu : u.oneCell' = true) : v.oneCell' = true := by simp at h; subst h; exact hu
theorem twoR {u u' v : Value} (h : v ∈ [u, u']) (hu : u.oneCell' = true) (hu' : u'.oneCell' = true) : v.oneCell' = true := by simp at h; rcases h with rfl | rfl; exact hu; exact hu'
theorem set2_other {w : World} {b o b' o' : Nat} {u : Value} (h : w.cell? ⟨b, o, none⟩ = some u) (v : Value) (hn : b ≠ b') : (w.setCell ⟨b', o', none⟩ v).cell? ⟨b, o, none⟩ = some u := set_other h v (.inl hn)
theorem keepA2 {w : World} {p : Addr} {u : Value} {o o' : Obj} (h : w.cell? p = some u) : ((w.alloc o).alloc o').cell? p = some u := cellA (cellA h _) _
theorem copied {g' mid lo n1 c1 n2 c2 : Nat} {W w : World} {A1 A2 : Option Addr} {cs : List Ce} {ws : List Wr} {dc : List (List UInt8)} {dw : List (Int × List UInt8)} {v0 v1 : Value} (hd1 : cs.map Ce.d = dc) (hd2 : ws.map Wr.d = dw) (t1 : OwnCell w lo mid A1 n1 c1 cs) (t2 : OwnWrite w mid w.heap.size A2 n2 c2 ws) (hb : Below W.heap.size W w) (h2 : W.heap.size ≤ g') (h4 : g' < lo) :
    MadeDk dc dw W (.returned (.agg #[.slice A1 n1 c1, .slice A2 n2 c2])) ((w.setCell ⟨g', 0, none⟩ v0).setCell ⟨g', 1, none⟩ v1) := by
  have hs : ((w.setCell ⟨g', 0, none⟩ v0).setCell ⟨g', 1, none⟩ v1).heap.size = w.heap.size := by simp
  have l1 := t1.lohi
  have l2 := t2.lohi
  have e : Eff 0 lo w ((w.setCell ⟨g', 0, none⟩ v0).setCell ⟨g', 1, none⟩ v1) := ((Eff.refl _ _ _).setCell (Nat.zero_le _) h4 _).setCell (Nat.zero_le _) h4 _
  refine ⟨A1, n1, c1, A2, n2, c2, cs, ws, rfl, hd1, hd2, ⟨mid, ?_, ?_⟩, ((hb.setCell h2 _).setCell h2 _)⟩
  · exact (t1.keep e (.inr (.inl (Nat.le_refl _)))).wide (by omega) (Nat.le_refl _) (by omega)
  · rw [hs]; exact t2.keep e (.inr (.inl (by omega)))
set_option maxHeartbeats 4000000 in
set_option maxRecDepth 100000 in
theorem impl_copyDisk_any (Ac : Option Addr) (nc cc : Nat) (cs : List Ce) (Aw : Option Addr) (nw cw : Nat) (ws : List Wr) (W : World) (hrc : RdCell W W.heap.size Ac nc cs) (hrw : RdWrite W W.heap.size Aw nw ws) (hn : nc ≤ 1048576) (hn' : nw ≤ 1048576) (hl : lenOk cs ws) :
    Calls Try.prog 60 #[.agg #[.slice Ac nc cc, .slice Aw nw cw]] W (MadeDk (cs.map Ce.d) (ws.map Wr.d) W) := by
  obtain ⟨hl1, hl2⟩ := hl
  obtain ⟨ci0, hci0, hcz0, hcz1, hcz2⟩ := info_parts info_Cell
  obtain ⟨wi0, hwi0, hwz0, hwz1, hwz2⟩ := info_parts info_Write
  obtain ⟨u0, hu0, hv0, hv1, hv2⟩ := info_parts info_u8
  have hlc := hrc.len Ce.hf (by omega)
  have hlw := hrw.len Wr.hf (by omega)
  have HLC := Lib.hid hlc
  have HLW := Lib.hid hlw
  have HL1 := Lib.hid hl1
  have HL2 := Lib.hid hl2
  clear hl1 hl2 hlc hlw
  go_enter Try.func60, Try.ntmps60
  go_wp2
  have hb0 : Below W.heap.size W (((W.alloc (.cells #[.slice Ac nc cc, .slice Aw nw cw] 33)).alloc (.cells #[.slice none 0 0, .slice none 0 0] 33)).alloc (.cells #[.slice none 0 0, .slice none 0 0] 33)) := (((Below.refl _ _).alloc (Nat.le_refl _) _).alloc (by simp) _).alloc (by simp; omega) _
  have ha0 : (((W.alloc (.cells #[.slice Ac nc cc, .slice Aw nw cw] 33)).alloc (.cells #[.slice none 0 0, .slice none 0 0] 33)).alloc (.cells #[.slice none 0 0, .slice none 0 0] 33)).cell? ⟨W.heap.size, 0, none⟩ = some (.slice Ac nc cc) := keepA2 (var_cell _ _ _ _ _ rfl)
  have ha1 : (((W.alloc (.cells #[.slice Ac nc cc, .slice Aw nw cw] 33)).alloc (.cells #[.slice none 0 0, .slice none 0 0] 33)).alloc (.cells #[.slice none 0 0, .slice none 0 0] 33)).cell? ⟨W.heap.size, 1, none⟩ = some (.slice Aw nw cw) := keepA2 (var_cell _ _ _ _ _ rfl)
  have hr0 : (((W.alloc (.cells #[.slice Ac nc cc, .slice Aw nw cw] 33)).alloc (.cells #[.slice none 0 0, .slice none 0 0] 33)).alloc (.cells #[.slice none 0 0, .slice none 0 0] 33)).cell? ⟨W.heap.size + 1, 0, none⟩ = some (.slice none 0 0) := cellA (by simp) _
  have hr1 : (((W.alloc (.cells #[.slice Ac nc cc, .slice Aw nw cw] 33)).alloc (.cells #[.slice none 0 0, .slice none 0 0] 33)).alloc (.cells #[.slice none 0 0, .slice none 0 0] 33)).cell? ⟨W.heap.size + 1, 1, none⟩ = some (.slice none 0 0) := cellA (by simp) _
  have ho0 : (((W.alloc (.cells #[.slice Ac nc cc, .slice Aw nw cw] 33)).alloc (.cells #[.slice none 0 0, .slice none 0 0] 33)).alloc (.cells #[.slice none 0 0, .slice none 0 0] 33)).cell? ⟨W.heap.size + 1 + 1, 0, none⟩ = some (.slice none 0 0) := (by have := var_cell ((W.alloc (.cells #[.slice Ac nc cc, .slice Aw nw cw] 33)).alloc (.cells #[.slice none 0 0, .slice none 0 0] 33)) #[.slice none 0 0, .slice none 0 0] 33 0 _ rfl; simpa using this)
  have ho1 : (((W.alloc (.cells #[.slice Ac nc cc, .slice Aw nw cw] 33)).alloc (.cells #[.slice none 0 0, .slice none 0 0] 33)).alloc (.cells #[.slice none 0 0, .slice none 0 0] 33)).cell? ⟨W.heap.size + 1 + 1, 1, none⟩ = some (.slice none 0 0) := (by have := var_cell ((W.alloc (.cells #[.slice Ac nc cc, .slice Aw nw cw] 33)).alloc (.cells #[.slice none 0 0, .slice none 0 0] 33)) #[.slice none 0 0, .slice none 0 0] 33 1 _ rfl; simpa using this)
  have fr0 : ∀ o, (((W.alloc (.cells #[.slice Ac nc cc, .slice Aw nw cw] 33)).alloc (.cells #[.slice none 0 0, .slice none 0 0] 33)).alloc (.cells #[.slice none 0 0, .slice none 0 0] 33)).frozen? ⟨W.heap.size + 1, o, none⟩ = false := fun o => by simp [go_sem]
  have fo0 : ∀ o, (((W.alloc (.cells #[.slice Ac nc cc, .slice Aw nw cw] 33)).alloc (.cells #[.slice none 0 0, .slice none 0 0] 33)).alloc (.cells #[.slice none 0 0, .slice none 0 0] 33)).frozen? ⟨W.heap.size + 1 + 1, o, none⟩ = false := fun o => by simp [go_sem]
  have hs0 : (((W.alloc (.cells #[.slice Ac nc cc, .slice Aw nw cw] 33)).alloc (.cells #[.slice none 0 0, .slice none 0 0] 33)).alloc (.cells #[.slice none 0 0, .slice none 0 0] 33)).heap.size = W.heap.size + 1 + 1 + 1 := (by simp)
  have hr2 := fr0 0
  have hr3 := fr0 1
  have ho2 := fo0 0
  have ho3 := fo0 1
  clear fr0 fo0
  generalize (((W.alloc (.cells #[.slice Ac nc cc, .slice Aw nw cw] 33)).alloc (.cells #[.slice none 0 0, .slice none 0 0] 33)).alloc (.cells #[.slice none 0 0, .slice none 0 0] 33)) = w0 at *
  have HB0 : True := trivial
  go_loopw [11] (fun vi wr => ∃ (k : Nat) (Ar : Option Addr) (cr : Nat) (es : List Ce), k ≤ nc ∧ vi = .int .i64 (k : Int) ∧ Below W.heap.size W wr ∧ W.heap.size + 1 + 1 + 1 ≤ wr.heap.size ∧ wr.cell? ⟨W.heap.size, 0, none⟩ = some (.slice Ac nc cc) ∧ wr.cell? ⟨W.heap.size, 1, none⟩ = some (.slice Aw nw cw) ∧ wr.cell? ⟨W.heap.size + 1, 0, none⟩ = some (.slice none 0 0) ∧ wr.cell? ⟨W.heap.size + 1, 1, none⟩ = some (.slice none 0 0) ∧ wr.cell? ⟨W.heap.size + 1 + 1, 0, none⟩ = some (.slice Ar k cr) ∧ wr.cell? ⟨W.heap.size + 1 + 1, 1, none⟩ = some (.slice none 0 0) ∧ wr.frozen? ⟨W.heap.size + 1, 0, none⟩ = false ∧ wr.frozen? ⟨W.heap.size + 1, 1, none⟩ = false ∧ wr.frozen? ⟨W.heap.size + 1 + 1, 0, none⟩ = false ∧ wr.frozen? ⟨W.heap.size + 1 + 1, 1, none⟩ = false ∧ OwnCell wr (W.heap.size + 1 + 1 + 1) wr.heap.size Ar k cr es ∧ Hid (es.map Ce.d = (cs.map Ce.d).take k)) (fun vi _ => nc - (intOf vi).toNat)
  case atStart => exact ⟨0, none, 0, [], Nat.zero_le _, rfl, hb0, Nat.le_of_eq hs0.symm, ha0, ha1, hr0, hr1, ho0, ho1, hr2, hr3, ho2, ho3, OwnR.nil (Nat.le_of_eq hs0.symm) (Nat.le_refl _), Lib.hid (by simp)⟩
  case round =>
    clear HB0
    obtain ⟨k, Ar, cr, es, hk, rfl, hb, hlo, ha0, ha1, hr0, hr1, ho0, ho1, hr2, hr3, ho2, ho3, hC, HD⟩ := hrel
    by_cases hlt : k < nc
    · skip
      obtain ⟨b, off, ⟨Ax, nx, cx, lx⟩, rfl, hbB, hx, hcell, hi, hcap⟩ := (hrc.below hb (Nat.le_refl _)).elem Ce.hf (by omega) hlt
      have cc0 : wr.cell? ⟨b, off + k, none⟩ = some (.slice Ax nx cx) := by have := hcell 0 _ rfl; simpa [Nat.mul_one, Nat.add_assoc] using this
      have HX := Lib.hid hx
      have hnx : nx ≤ 1099511627776 := HL1.out _ (List.mem_of_getElem? hx)
      replace hi : Rd wr W.heap.size 1 Ax nx (Lib.byteCells lx) := hi
      clear hcell hcap hx
      have hlo1 := hC.lohi
      go_wp2_with fail
      have he1 : Eff 0 0 wr (wr.alloc (.cells #[.slice Ax nx cx] 76)) := Eff.alloc _ _
      have hs1 : (wr.alloc (.cells #[.slice Ax nx cx] 76)).heap.size = wr.heap.size + 1 := (by simp)
      have x_0 : (wr.alloc (.cells #[.slice Ax nx cx] 76)).cell? ⟨wr.heap.size, 0, none⟩ = some (.slice Ax nx cx) := var_cell _ _ _ _ _ rfl
      generalize (wr.alloc (.cells #[.slice Ax nx cx] 76)) = v1 at *
      have hz1 : wr.heap.size ≤ v1.heap.size := he1.size
      have b1 : Below W.heap.size W v1 := hb.trans (he1.below hb.size (by omega))
      replace hi := (hi.below (he1.below (B := W.heap.size) (by omega) (by omega)) (Nat.le_refl _))
      replace hC := hC.keep he1 (by omega)
      replace hr2 := (he1.frozen hr0 (by simp only; omega)).trans hr2
      replace hr3 := (he1.frozen hr1 (by simp only; omega)).trans hr3
      replace ho2 := (he1.frozen ho0 (by simp only; omega)).trans ho2
      replace ho3 := (he1.frozen ho1 (by simp only; omega)).trans ho3
      replace ha0 := he1.cell ha0 (by simp only; omega)
      replace ha1 := he1.cell ha1 (by simp only; omega)
      replace hr0 := he1.cell hr0 (by simp only; omega)
      replace hr1 := he1.cell hr1 (by simp only; omega)
      replace ho0 := he1.cell ho0 (by simp only; omega)
      replace ho1 := he1.cell ho1 (by simp only; omega)
      have x_l : wr.heap.size < v1.heap.size := (by omega)
      clear cc0
      go_wp2_with fail
      have he2 : Eff 0 0 v1 v1.drew := (Eff.refl _ _ _).drew
      have hz2 : v1.heap.size ≤ v1.drew.heap.size := he2.size
      have b2 : Below W.heap.size W v1.drew := b1.trans (he2.below b1.size (by omega))
      replace hi := (hi.below (he2.below (B := W.heap.size) (by omega) (by omega)) (Nat.le_refl _))
      replace hC := hC.keep he2 (by omega)
      replace hr2 := (he2.frozen hr0 (by simp only; omega)).trans hr2
      replace hr3 := (he2.frozen hr1 (by simp only; omega)).trans hr3
      replace ho2 := (he2.frozen ho0 (by simp only; omega)).trans ho2
      replace ho3 := (he2.frozen ho1 (by simp only; omega)).trans ho3
      replace ha0 := he2.cell ha0 (by simp only; omega)
      replace ha1 := he2.cell ha1 (by simp only; omega)
      replace hr0 := he2.cell hr0 (by simp only; omega)
      replace hr1 := he2.cell hr1 (by simp only; omega)
      replace ho0 := he2.cell ho0 (by simp only; omega)
      replace ho1 := he2.cell ho1 (by simp only; omega)
      replace x_0 := he2.cell x_0 (by simp only; omega)
      replace x_l := Nat.lt_of_lt_of_le x_l hz2
      refine wp_region_held_drew (S := fun w' => w'.cell? ⟨wr.heap.size, 0, none⟩ = some (.slice Ax nx cx)) (by kernel_rfl) ?rg1 (fun hHeld => ?_)
      case rg1 => ((try dsimp only); (go_split_ands; (repeat' apply And.intro) <;> (first | assumption | exact set2_other (by assumption) _ (by omega))))
      generalize v1.drew = v0 at *
      obtain ⟨ta, tb, htt, hta, htab, htb, htq⟩ := Own.tight hC.row hC.lohi
      have HTQ := Lib.hid htq
      clear htq
      refine wpAnyH_take (i := 0) (oi := { dst := some 15, op := Go.Op.fieldAddr 33 (Go.Operand.tmp 3) 0, type := 0, pos := "l03_disk.go:145", after := #[], guard := none }) (v := ?v2) rfl (by kernel_rfl) (by kernel_rfl) (by kernel_rfl) (fun _ _ _ h => h) (Or.inl ⟨by rfl, ?y2⟩) (by assumption) ?_
      case y2 => (intro w hSw; (try dsimp only at hSw); go_simp; first | done | with_reducible rfl)
      try simp only [Act.put, List.setIfInBounds_toArray, List.set_cons_zero, List.set_cons_succ]
      refine wpAnyH_take (i := 2) (oi := { dst := some 17, op := Go.Op.fieldAddr 76 (Go.Operand.tmp 5) 0, type := 0, pos := "l03_disk.go:145", after := #[], guard := none }) (v := ?v3) rfl (by kernel_rfl) (by kernel_rfl) (by kernel_rfl) (fun _ _ _ h => h) (Or.inl ⟨by rfl, ?y3⟩) (by assumption) ?_
      case y3 => (intro w hSw; (try dsimp only at hSw); go_simp; first | done | with_reducible rfl)
      try simp only [Act.put, List.setIfInBounds_toArray, List.set_cons_zero, List.set_cons_succ]
      refine wpAnyH_take (i := 3) (oi := { dst := some 18, op := Go.Op.load 27 (Go.Operand.tmp 17), type := 27, pos := "l03_disk.go:145", after := #[{ on := 2, ground := Go.Ground.data }], guard := none }) (v := ?v4) rfl (by kernel_rfl) (by kernel_rfl) (by kernel_rfl) (fun _ _ _ h => h) (Or.inl ⟨by rfl, ?y4⟩) (by assumption) ?_
      case y4 => (intro w hSw; (try dsimp only at hSw); go_simp; first | done | with_reducible rfl)
      try simp only [Act.put, List.setIfInBounds_toArray, List.set_cons_zero, List.set_cons_succ]
      refine wpAnyH_ready (rs := [1, 4]) (by kernel_rfl) (by simp) ?_
      refine AllReadyH.cons (o := { dst := some 16, op := Go.Op.load 30 (Go.Operand.tmp 15), type := 30, pos := "l03_disk.go:145", after := #[{ on := 0, ground := Go.Ground.data }], guard := none }) rfl (fun K hK => ?k5) ?m5
      case k5 =>
        go_simp
        refine hK.out _ _ ?s5 (fun hHeld => ?_)
        case s5 => ((try dsimp only); (go_split_ands; (repeat' apply And.intro) <;> (first | assumption | exact set2_other (by assumption) _ (by omega))))
        clear hK K
        try simp only [Act.put, List.setIfInBounds_toArray, List.set_cons_zero, List.set_cons_succ]
        refine wpAnyH_ready (rs := [4]) (by kernel_rfl) (by simp) ?_
        refine AllReadyH.cons (o := { dst := some 19, op := Go.Op.call { callee := Go.Callee.value (Go.Operand.func 61), args := #[Go.Operand.tmp 18], argTypes := #[27] }, type := 27, pos := "l03_disk.go:145", after := #[{ on := 3, ground := Go.Ground.data }], guard := none }) rfl (fun K hK => ?k6) AllReadyH.nil
        go_simp
        go_at_call 61
        refine (copyBytes_any Ax nx cx lx v0 (hi.more (by omega)) hnx).mono ?_
        rintro e v3 ⟨Ay, cy, rfl, y, hb⟩
        have he3 : Eff 0 0 v0 v3 := Eff.of hb
        have hz3 : v0.heap.size ≤ v3.heap.size := he3.size
        have b3 : Below W.heap.size W v3 := b2.trans (he3.below b2.size (by omega))
        replace hi := (hi.below (he3.below (B := W.heap.size) (by omega) (by omega)) (Nat.le_refl _))
        replace htt := htt.keep he3 (by omega)
        replace hr2 := (he3.frozen hr0 (by simp only; omega)).trans hr2
        replace hr3 := (he3.frozen hr1 (by simp only; omega)).trans hr3
        replace ho2 := (he3.frozen ho0 (by simp only; omega)).trans ho2
        replace ho3 := (he3.frozen ho1 (by simp only; omega)).trans ho3
        replace ha0 := he3.cell ha0 (by simp only; omega)
        replace ha1 := he3.cell ha1 (by simp only; omega)
        replace hr0 := he3.cell hr0 (by simp only; omega)
        replace hr1 := he3.cell hr1 (by simp only; omega)
        replace ho0 := he3.cell ho0 (by simp only; omega)
        replace ho1 := he3.cell ho1 (by simp only; omega)
        replace x_0 := he3.cell x_0 (by simp only; omega)
        replace x_l := Nat.lt_of_lt_of_le x_l hz3
        clear hb
        have y1 := y
        have hey : Eff 0 0 v0 v3 := he3
        refine hK.out _ _ ?s6 (fun hHeld => ?_)
        case s6 => ((try dsimp only); (go_split_ands; (repeat' apply And.intro) <;> (first | assumption | exact set2_other (by assumption) _ (by omega))))
        clear hK K
        try simp only [Act.put, List.setIfInBounds_toArray, List.set_cons_zero, List.set_cons_succ]
        refine wpAnyH_take (i := 5) (oi := { dst := some 20, op := Go.Op.build 76 #[(0, Go.Operand.tmp 19)], type := 76, pos := "l03_disk.go:145", after := #[{ on := 4, ground := Go.Ground.data }], guard := none }) (v := ?v7) rfl (by kernel_rfl) (by kernel_rfl) (by kernel_rfl) (fun _ _ _ h => h) (Or.inl ⟨by rfl, ?y7⟩) (by assumption) ?_
        case y7 => (intro w hSw; (try dsimp only at hSw); go_simp; first | done | with_reducible rfl)
        try simp only [Act.put, List.setIfInBounds_toArray, List.set_cons_zero, List.set_cons_succ]
        refine wpAnyH_ready (rs := [6]) (by kernel_rfl) (by simp) ?_
        refine AllReadyH.cons (o := { dst := some 21, op := Go.Op.buildSlice 30 1 #[(0, Go.Operand.tmp 20)], type := 30, pos := "l03_disk.go:145", after := #[{ on := 5, ground := Go.Ground.data }], guard := none }) rfl (fun K hK => ?k8) AllReadyH.nil
        go_simp
        have he4 : Eff 0 0 v3 (v3.alloc (.cells #[.slice Ay nx cy] 76)) := Eff.alloc _ _
        have hs4 : (v3.alloc (.cells #[.slice Ay nx cy] 76)).heap.size = v3.heap.size + 1 := (by simp)
        have tr := rd_row v3 [.slice Ay nx cy] 76
        generalize (v3.alloc (.cells #[.slice Ay nx cy] 76)) = v4 at *
        have hz4 : v3.heap.size ≤ v4.heap.size := he4.size
        have b4 : Below W.heap.size W v4 := b3.trans (he4.below b3.size (by omega))
        replace hi := (hi.below (he4.below (B := W.heap.size) (by omega) (by omega)) (Nat.le_refl _))
        replace htt := htt.keep he4 (by omega)
        replace y := y.keep he4 (by omega)
        replace hr2 := (he4.frozen hr0 (by simp only; omega)).trans hr2
        replace hr3 := (he4.frozen hr1 (by simp only; omega)).trans hr3
        replace ho2 := (he4.frozen ho0 (by simp only; omega)).trans ho2
        replace ho3 := (he4.frozen ho1 (by simp only; omega)).trans ho3
        replace ha0 := he4.cell ha0 (by simp only; omega)
        replace ha1 := he4.cell ha1 (by simp only; omega)
        replace hr0 := he4.cell hr0 (by simp only; omega)
        replace hr1 := he4.cell hr1 (by simp only; omega)
        replace ho0 := he4.cell ho0 (by simp only; omega)
        replace ho1 := he4.cell ho1 (by simp only; omega)
        replace x_0 := he4.cell x_0 (by simp only; omega)
        replace x_l := Nat.lt_of_lt_of_le x_l hz4
        have heb : Eff 0 0 v3 v4 := he4
        refine hK.out _ _ ?s8 (fun hHeld => ?_)
        case s8 => ((try dsimp only); (go_split_ands; (repeat' apply And.intro) <;> (first | assumption | exact set2_other (by assumption) _ (by omega))))
        clear hK K
        try simp only [Act.put, List.setIfInBounds_toArray, List.set_cons_zero, List.set_cons_succ]
        refine wpAnyH_ready (rs := [7]) (by kernel_rfl) (by simp) ?_
        refine AllReadyH.cons (o := { dst := some 22, op := Go.Op.call { callee := Go.Callee.builtin Go.Builtin.append, args := #[Go.Operand.tmp 16, Go.Operand.tmp 21], argTypes := #[30, 30] }, type := 30, pos := "l03_disk.go:145", after := #[{ on := 1, ground := Go.Ground.data }, { on := 6, ground := Go.Ground.data }, { on := 4, ground := Go.Ground.chain }], guard := none }) rfl (fun K hK => ?k9) AllReadyH.nil
        refine step_app _ (by rfl) _ _ 30 (by rfl) 76 ci0 (.agg #[.slice none 0 0]) 1 24 Try.underlying30 hci0 hcz0 hcz1 hcz2 rfl (by omega) (by rfl) htt 1 (by rfl) tr (fun u hu => oneR hu rfl) (by unfold maxLen; omega) (by omega) (by omega) ?_
        intro A2 c2 v5 hO hE hK2
        have he5 : Eff ta tb v4 v5 := hE
        have hz5 : v4.heap.size ≤ v5.heap.size := he5.size
        have b5 : Below W.heap.size W v5 := b4.trans (he5.below b4.size (by omega))
        replace hi := (hi.below (he5.below (B := W.heap.size) (by omega) (by omega)) (Nat.le_refl _))
        replace y := y.keep he5 (by omega)
        replace hr2 := (he5.frozen hr0 (by simp only; omega)).trans hr2
        replace hr3 := (he5.frozen hr1 (by simp only; omega)).trans hr3
        replace ho2 := (he5.frozen ho0 (by simp only; omega)).trans ho2
        replace ho3 := (he5.frozen ho1 (by simp only; omega)).trans ho3
        replace ha0 := he5.cell ha0 (by simp only; omega)
        replace ha1 := he5.cell ha1 (by simp only; omega)
        replace hr0 := he5.cell hr0 (by simp only; omega)
        replace hr1 := he5.cell hr1 (by simp only; omega)
        replace ho0 := he5.cell ho0 (by simp only; omega)
        replace ho1 := he5.cell ho1 (by simp only; omega)
        replace x_0 := he5.cell x_0 (by simp only; omega)
        replace x_l := Nat.lt_of_lt_of_le x_l hz5
        replace hC := hC.snoc (y := ⟨Ay, nx, cy, lx⟩) hey y1 hta HTQ.out heb hO hE hK2
        clear hE hO hK2 tr htt y y1 hey heb
        refine hK.out _ _ ?s9 (fun hHeld => ?_)
        case s9 => ((try dsimp only); (go_split_ands; (repeat' apply And.intro) <;> (first | assumption | exact set2_other (by assumption) _ (by omega))))
        clear hK K
        try simp only [Act.put, List.setIfInBounds_toArray, List.set_cons_zero, List.set_cons_succ]
        refine wpAnyH_take (i := 8) (oi := { dst := some 23, op := Go.Op.fieldAddr 33 (Go.Operand.tmp 3) 0, type := 0, pos := "l03_disk.go:145", after := #[{ on := 0, ground := Go.Ground.phase }, { on := 1, ground := Go.Ground.phase }, { on := 2, ground := Go.Ground.phase }, { on := 3, ground := Go.Ground.phase }, { on := 4, ground := Go.Ground.phase }, { on := 5, ground := Go.Ground.phase }, { on := 6, ground := Go.Ground.phase }, { on := 7, ground := Go.Ground.phase }], guard := none }) (v := ?v10) rfl (by kernel_rfl) (by kernel_rfl) (by kernel_rfl) (fun _ _ _ h => h) (Or.inl ⟨by rfl, ?y10⟩) (by assumption) ?_
        case y10 => (intro w hSw; (try dsimp only at hSw); go_simp; first | done | with_reducible rfl)
        try simp only [Act.put, List.setIfInBounds_toArray, List.set_cons_zero, List.set_cons_succ]
        refine wpAnyH_ready (rs := [9]) (by kernel_rfl) (by simp) ?_
        refine AllReadyH.cons (o := { dst := none, op := Go.Op.store 30 (Go.Operand.tmp 23) (Go.Operand.tmp 22), type := 0, pos := "l03_disk.go:145", after := #[{ on := 8, ground := Go.Ground.data }, { on := 7, ground := Go.Ground.data }, { on := 7, ground := Go.Ground.chain }, { on := 0, ground := Go.Ground.phase }, { on := 1, ground := Go.Ground.phase }, { on := 2, ground := Go.Ground.phase }, { on := 3, ground := Go.Ground.phase }, { on := 4, ground := Go.Ground.phase }, { on := 5, ground := Go.Ground.phase }, { on := 6, ground := Go.Ground.phase }, { on := 7, ground := Go.Ground.phase }], guard := none }) rfl (fun K hK => ?k11) AllReadyH.nil
        go_simp
        refine hK.out _ _ ?s11 (fun hHeld => ?_)
        case s11 => ((try dsimp only); (go_split_ands; (repeat' apply And.intro) <;> (first | assumption | exact set2_other (by assumption) _ (by omega))))
        clear hK K
        try simp only [Act.put]
        refine wpAnyH_done (by kernel_rfl) ?_ _
        have hest : Eff (W.heap.size + 1 + 1) (W.heap.size + 1 + 1 + 1) v5 (v5.setCell ⟨W.heap.size + 1 + 1, 0, none⟩ (.slice A2 (k + 1) c2)) := eff_set _ _ _ _
        have hsst : (v5.setCell ⟨W.heap.size + 1 + 1, 0, none⟩ (.slice A2 (k + 1) c2)).heap.size = v5.heap.size := (by simp)
        replace hC := (hC.keep hest (by omega)).wide (Nat.le_refl _) (Nat.le_of_eq hsst.symm) (Nat.le_refl _)
        replace ha0 := hest.cell ha0 (by simp only; omega)
        replace ha1 := hest.cell ha1 (by simp only; omega)
        replace hr0 := hest.cell hr0 (by simp only; omega)
        replace hr1 := hest.cell hr1 (by simp only; omega)
        replace ho0 := set_same ho0 (.slice A2 (k + 1) c2)
        replace ho1 := set_other (b' := W.heap.size + 1 + 1) (o' := 0) ho1 (.slice A2 (k + 1) c2) (.inr (by omega))
        replace hr2 := set_frozen (p := ⟨W.heap.size + 1 + 1, 0, none⟩) hr2 (.slice A2 (k + 1) c2)
        replace hr3 := set_frozen (p := ⟨W.heap.size + 1 + 1, 0, none⟩) hr3 (.slice A2 (k + 1) c2)
        replace ho2 := set_frozen (p := ⟨W.heap.size + 1 + 1, 0, none⟩) ho2 (.slice A2 (k + 1) c2)
        replace ho3 := set_frozen (p := ⟨W.heap.size + 1 + 1, 0, none⟩) ho3 (.slice A2 (k + 1) c2)
        have hbf : Below W.heap.size W (v5.setCell ⟨W.heap.size + 1 + 1, 0, none⟩ (.slice A2 (k + 1) c2)) := b5.trans (hest.below b5.size (by omega))
        go_wp2_with fail
        go_roundw
        case rel => exact ⟨k + 1, A2, c2, es ++ [⟨Ay, nx, cy, lx⟩], by omega, by go_num, hbf, by omega, ha0, ha1, hr0, hr1, ho0, ho1, hr2, hr3, ho2, ho3, hC, Lib.hid (by rw [List.map_append, HD.out, List.take_add_one, List.getElem?_map, HX.out]; rfl)⟩
        case measure => simp [intOf]; omega
      case m5 =>
        refine AllReadyH.cons (o := { dst := some 19, op := Go.Op.call { callee := Go.Callee.value (Go.Operand.func 61), args := #[Go.Operand.tmp 18], argTypes := #[27] }, type := 27, pos := "l03_disk.go:145", after := #[{ on := 3, ground := Go.Ground.data }], guard := none }) rfl (fun K hK => ?k12) AllReadyH.nil
        case k12 =>
          go_simp
          go_at_call 61
          refine (copyBytes_any Ax nx cx lx v0 (hi.more (by omega)) hnx).mono ?_
          rintro e v3 ⟨Ay, cy, rfl, y, hb⟩
          have he3 : Eff 0 0 v0 v3 := Eff.of hb
          have hz3 : v0.heap.size ≤ v3.heap.size := he3.size
          have b3 : Below W.heap.size W v3 := b2.trans (he3.below b2.size (by omega))
          replace hi := (hi.below (he3.below (B := W.heap.size) (by omega) (by omega)) (Nat.le_refl _))
          replace htt := htt.keep he3 (by omega)
          replace hr2 := (he3.frozen hr0 (by simp only; omega)).trans hr2
          replace hr3 := (he3.frozen hr1 (by simp only; omega)).trans hr3
          replace ho2 := (he3.frozen ho0 (by simp only; omega)).trans ho2
          replace ho3 := (he3.frozen ho1 (by simp only; omega)).trans ho3
          replace ha0 := he3.cell ha0 (by simp only; omega)
          replace ha1 := he3.cell ha1 (by simp only; omega)
          replace hr0 := he3.cell hr0 (by simp only; omega)
          replace hr1 := he3.cell hr1 (by simp only; omega)
          replace ho0 := he3.cell ho0 (by simp only; omega)
          replace ho1 := he3.cell ho1 (by simp only; omega)
          replace x_0 := he3.cell x_0 (by simp only; omega)
          replace x_l := Nat.lt_of_lt_of_le x_l hz3
          clear hb
          have y1 := y
          have hey : Eff 0 0 v0 v3 := he3
          refine hK.out _ _ ?s12 (fun hHeld => ?_)
          case s12 => ((try dsimp only); (go_split_ands; (repeat' apply And.intro) <;> (first | assumption | exact set2_other (by assumption) _ (by omega))))
          clear hK K
          try simp only [Act.put, List.setIfInBounds_toArray, List.set_cons_zero, List.set_cons_succ]
          refine wpAnyH_take (i := 5) (oi := { dst := some 20, op := Go.Op.build 76 #[(0, Go.Operand.tmp 19)], type := 76, pos := "l03_disk.go:145", after := #[{ on := 4, ground := Go.Ground.data }], guard := none }) (v := ?v13) rfl (by kernel_rfl) (by kernel_rfl) (by kernel_rfl) (fun _ _ _ h => h) (Or.inl ⟨by rfl, ?y13⟩) (by assumption) ?_
          case y13 => (intro w hSw; (try dsimp only at hSw); go_simp; first | done | with_reducible rfl)
          try simp only [Act.put, List.setIfInBounds_toArray, List.set_cons_zero, List.set_cons_succ]
          refine wpAnyH_ready (rs := [1, 6]) (by kernel_rfl) (by simp) ?_
          refine AllReadyH.cons (o := { dst := some 16, op := Go.Op.load 30 (Go.Operand.tmp 15), type := 30, pos := "l03_disk.go:145", after := #[{ on := 0, ground := Go.Ground.data }], guard := none }) rfl (fun K hK => ?k14) ?m14
          case k14 =>
            go_simp
            refine hK.out _ _ ?s14 (fun hHeld => ?_)
            case s14 => ((try dsimp only); (go_split_ands; (repeat' apply And.intro) <;> (first | assumption | exact set2_other (by assumption) _ (by omega))))
            clear hK K
            try simp only [Act.put, List.setIfInBounds_toArray, List.set_cons_zero, List.set_cons_succ]
            refine wpAnyH_ready (rs := [6]) (by kernel_rfl) (by simp) ?_
            refine AllReadyH.cons (o := { dst := some 21, op := Go.Op.buildSlice 30 1 #[(0, Go.Operand.tmp 20)], type := 30, pos := "l03_disk.go:145", after := #[{ on := 5, ground := Go.Ground.data }], guard := none }) rfl (fun K hK => ?k15) AllReadyH.nil
            go_simp
            have he4 : Eff 0 0 v3 (v3.alloc (.cells #[.slice Ay nx cy] 76)) := Eff.alloc _ _
            have hs4 : (v3.alloc (.cells #[.slice Ay nx cy] 76)).heap.size = v3.heap.size + 1 := (by simp)
            have tr := rd_row v3 [.slice Ay nx cy] 76
            generalize (v3.alloc (.cells #[.slice Ay nx cy] 76)) = v4 at *
            have hz4 : v3.heap.size ≤ v4.heap.size := he4.size
            have b4 : Below W.heap.size W v4 := b3.trans (he4.below b3.size (by omega))
            replace hi := (hi.below (he4.below (B := W.heap.size) (by omega) (by omega)) (Nat.le_refl _))
            replace htt := htt.keep he4 (by omega)
            replace y := y.keep he4 (by omega)
            replace hr2 := (he4.frozen hr0 (by simp only; omega)).trans hr2
            replace hr3 := (he4.frozen hr1 (by simp only; omega)).trans hr3
            replace ho2 := (he4.frozen ho0 (by simp only; omega)).trans ho2
            replace ho3 := (he4.frozen ho1 (by simp only; omega)).trans ho3
            replace ha0 := he4.cell ha0 (by simp only; omega)
            replace ha1 := he4.cell ha1 (by simp only; omega)
            replace hr0 := he4.cell hr0 (by simp only; omega)
            replace hr1 := he4.cell hr1 (by simp only; omega)
            replace ho0 := he4.cell ho0 (by simp only; omega)
            replace ho1 := he4.cell ho1 (by simp only; omega)
            replace x_0 := he4.cell x_0 (by simp only; omega)
            replace x_l := Nat.lt_of_lt_of_le x_l hz4
            have heb : Eff 0 0 v3 v4 := he4
            refine hK.out _ _ ?s15 (fun hHeld => ?_)
            case s15 => ((try dsimp only); (go_split_ands; (repeat' apply And.intro) <;> (first | assumption | exact set2_other (by assumption) _ (by omega))))
            clear hK K
            try simp only [Act.put, List.setIfInBounds_toArray, List.set_cons_zero, List.set_cons_succ]
            refine wpAnyH_ready (rs := [7]) (by kernel_rfl) (by simp) ?_
            refine AllReadyH.cons (o := { dst := some 22, op := Go.Op.call { callee := Go.Callee.builtin Go.Builtin.append, args := #[Go.Operand.tmp 16, Go.Operand.tmp 21], argTypes := #[30, 30] }, type := 30, pos := "l03_disk.go:145", after := #[{ on := 1, ground := Go.Ground.data }, { on := 6, ground := Go.Ground.data }, { on := 4, ground := Go.Ground.chain }], guard := none }) rfl (fun K hK => ?k16) AllReadyH.nil
            refine step_app _ (by rfl) _ _ 30 (by rfl) 76 ci0 (.agg #[.slice none 0 0]) 1 24 Try.underlying30 hci0 hcz0 hcz1 hcz2 rfl (by omega) (by rfl) htt 1 (by rfl) tr (fun u hu => oneR hu rfl) (by unfold maxLen; omega) (by omega) (by omega) ?_
            intro A2 c2 v5 hO hE hK2
            have he5 : Eff ta tb v4 v5 := hE
            have hz5 : v4.heap.size ≤ v5.heap.size := he5.size
            have b5 : Below W.heap.size W v5 := b4.trans (he5.below b4.size (by omega))
            replace hi := (hi.below (he5.below (B := W.heap.size) (by omega) (by omega)) (Nat.le_refl _))
            replace y := y.keep he5 (by omega)
            replace hr2 := (he5.frozen hr0 (by simp only; omega)).trans hr2
            replace hr3 := (he5.frozen hr1 (by simp only; omega)).trans hr3
            replace ho2 := (he5.frozen ho0 (by simp only; omega)).trans ho2
            replace ho3 := (he5.frozen ho1 (by simp only; omega)).trans ho3
            replace ha0 := he5.cell ha0 (by simp only; omega)
            replace ha1 := he5.cell ha1 (by simp only; omega)
            replace hr0 := he5.cell hr0 (by simp only; omega)
            replace hr1 := he5.cell hr1 (by simp only; omega)
            replace ho0 := he5.cell ho0 (by simp only; omega)
            replace ho1 := he5.cell ho1 (by simp only; omega)
            replace x_0 := he5.cell x_0 (by simp only; omega)
            replace x_l := Nat.lt_of_lt_of_le x_l hz5
            replace hC := hC.snoc (y := ⟨Ay, nx, cy, lx⟩) hey y1 hta HTQ.out heb hO hE hK2
            clear hE hO hK2 tr htt y y1 hey heb
            refine hK.out _ _ ?s16 (fun hHeld => ?_)
            case s16 => ((try dsimp only); (go_split_ands; (repeat' apply And.intro) <;> (first | assumption | exact set2_other (by assumption) _ (by omega))))
            clear hK K
            try simp only [Act.put, List.setIfInBounds_toArray, List.set_cons_zero, List.set_cons_succ]
            refine wpAnyH_take (i := 8) (oi := { dst := some 23, op := Go.Op.fieldAddr 33 (Go.Operand.tmp 3) 0, type := 0, pos := "l03_disk.go:145", after := #[{ on := 0, ground := Go.Ground.phase }, { on := 1, ground := Go.Ground.phase }, { on := 2, ground := Go.Ground.phase }, { on := 3, ground := Go.Ground.phase }, { on := 4, ground := Go.Ground.phase }, { on := 5, ground := Go.Ground.phase }, { on := 6, ground := Go.Ground.phase }, { on := 7, ground := Go.Ground.phase }], guard := none }) (v := ?v17) rfl (by kernel_rfl) (by kernel_rfl) (by kernel_rfl) (fun _ _ _ h => h) (Or.inl ⟨by rfl, ?y17⟩) (by assumption) ?_
            case y17 => (intro w hSw; (try dsimp only at hSw); go_simp; first | done | with_reducible rfl)
            try simp only [Act.put, List.setIfInBounds_toArray, List.set_cons_zero, List.set_cons_succ]
            refine wpAnyH_ready (rs := [9]) (by kernel_rfl) (by simp) ?_
            refine AllReadyH.cons (o := { dst := none, op := Go.Op.store 30 (Go.Operand.tmp 23) (Go.Operand.tmp 22), type := 0, pos := "l03_disk.go:145", after := #[{ on := 8, ground := Go.Ground.data }, { on := 7, ground := Go.Ground.data }, { on := 7, ground := Go.Ground.chain }, { on := 0, ground := Go.Ground.phase }, { on := 1, ground := Go.Ground.phase }, { on := 2, ground := Go.Ground.phase }, { on := 3, ground := Go.Ground.phase }, { on := 4, ground := Go.Ground.phase }, { on := 5, ground := Go.Ground.phase }, { on := 6, ground := Go.Ground.phase }, { on := 7, ground := Go.Ground.phase }], guard := none }) rfl (fun K hK => ?k18) AllReadyH.nil
            go_simp
            refine hK.out _ _ ?s18 (fun hHeld => ?_)
            case s18 => ((try dsimp only); (go_split_ands; (repeat' apply And.intro) <;> (first | assumption | exact set2_other (by assumption) _ (by omega))))
            clear hK K
            try simp only [Act.put]
            refine wpAnyH_done (by kernel_rfl) ?_ _
            have hest : Eff (W.heap.size + 1 + 1) (W.heap.size + 1 + 1 + 1) v5 (v5.setCell ⟨W.heap.size + 1 + 1, 0, none⟩ (.slice A2 (k + 1) c2)) := eff_set _ _ _ _
            have hsst : (v5.setCell ⟨W.heap.size + 1 + 1, 0, none⟩ (.slice A2 (k + 1) c2)).heap.size = v5.heap.size := (by simp)
            replace hC := (hC.keep hest (by omega)).wide (Nat.le_refl _) (Nat.le_of_eq hsst.symm) (Nat.le_refl _)
            replace ha0 := hest.cell ha0 (by simp only; omega)
            replace ha1 := hest.cell ha1 (by simp only; omega)
            replace hr0 := hest.cell hr0 (by simp only; omega)
            replace hr1 := hest.cell hr1 (by simp only; omega)
            replace ho0 := set_same ho0 (.slice A2 (k + 1) c2)
            replace ho1 := set_other (b' := W.heap.size + 1 + 1) (o' := 0) ho1 (.slice A2 (k + 1) c2) (.inr (by omega))
            replace hr2 := set_frozen (p := ⟨W.heap.size + 1 + 1, 0, none⟩) hr2 (.slice A2 (k + 1) c2)
            replace hr3 := set_frozen (p := ⟨W.heap.size + 1 + 1, 0, none⟩) hr3 (.slice A2 (k + 1) c2)
            replace ho2 := set_frozen (p := ⟨W.heap.size + 1 + 1, 0, none⟩) ho2 (.slice A2 (k + 1) c2)
            replace ho3 := set_frozen (p := ⟨W.heap.size + 1 + 1, 0, none⟩) ho3 (.slice A2 (k + 1) c2)
            have hbf : Below W.heap.size W (v5.setCell ⟨W.heap.size + 1 + 1, 0, none⟩ (.slice A2 (k + 1) c2)) := b5.trans (hest.below b5.size (by omega))
            go_wp2_with fail
            go_roundw
            case rel => exact ⟨k + 1, A2, c2, es ++ [⟨Ay, nx, cy, lx⟩], by omega, by go_num, hbf, by omega, ha0, ha1, hr0, hr1, ho0, ho1, hr2, hr3, ho2, ho3, hC, Lib.hid (by rw [List.map_append, HD.out, List.take_add_one, List.getElem?_map, HX.out]; rfl)⟩
            case measure => simp [intOf]; omega
          case m14 =>
            refine AllReadyH.cons (o := { dst := some 21, op := Go.Op.buildSlice 30 1 #[(0, Go.Operand.tmp 20)], type := 30, pos := "l03_disk.go:145", after := #[{ on := 5, ground := Go.Ground.data }], guard := none }) rfl (fun K hK => ?k19) AllReadyH.nil
            case k19 =>
              go_simp
              have he4 : Eff 0 0 v3 (v3.alloc (.cells #[.slice Ay nx cy] 76)) := Eff.alloc _ _
              have hs4 : (v3.alloc (.cells #[.slice Ay nx cy] 76)).heap.size = v3.heap.size + 1 := (by simp)
              have tr := rd_row v3 [.slice Ay nx cy] 76
              generalize (v3.alloc (.cells #[.slice Ay nx cy] 76)) = v4 at *
              have hz4 : v3.heap.size ≤ v4.heap.size := he4.size
              have b4 : Below W.heap.size W v4 := b3.trans (he4.below b3.size (by omega))
              replace hi := (hi.below (he4.below (B := W.heap.size) (by omega) (by omega)) (Nat.le_refl _))
              replace htt := htt.keep he4 (by omega)
              replace y := y.keep he4 (by omega)
              replace hr2 := (he4.frozen hr0 (by simp only; omega)).trans hr2
              replace hr3 := (he4.frozen hr1 (by simp only; omega)).trans hr3
              replace ho2 := (he4.frozen ho0 (by simp only; omega)).trans ho2
              replace ho3 := (he4.frozen ho1 (by simp only; omega)).trans ho3
              replace ha0 := he4.cell ha0 (by simp only; omega)
              replace ha1 := he4.cell ha1 (by simp only; omega)
              replace hr0 := he4.cell hr0 (by simp only; omega)
              replace hr1 := he4.cell hr1 (by simp only; omega)
              replace ho0 := he4.cell ho0 (by simp only; omega)
              replace ho1 := he4.cell ho1 (by simp only; omega)
              replace x_0 := he4.cell x_0 (by simp only; omega)
              replace x_l := Nat.lt_of_lt_of_le x_l hz4
              have heb : Eff 0 0 v3 v4 := he4
              refine hK.out _ _ ?s19 (fun hHeld => ?_)
              case s19 => ((try dsimp only); (go_split_ands; (repeat' apply And.intro) <;> (first | assumption | exact set2_other (by assumption) _ (by omega))))
              clear hK K
              try simp only [Act.put, List.setIfInBounds_toArray, List.set_cons_zero, List.set_cons_succ]
              refine wpAnyH_ready (rs := [1]) (by kernel_rfl) (by simp) ?_
              refine AllReadyH.cons (o := { dst := some 16, op := Go.Op.load 30 (Go.Operand.tmp 15), type := 30, pos := "l03_disk.go:145", after := #[{ on := 0, ground := Go.Ground.data }], guard := none }) rfl (fun K hK => ?k20) AllReadyH.nil
              go_simp
              refine hK.out _ _ ?s20 (fun hHeld => ?_)
              case s20 => ((try dsimp only); (go_split_ands; (repeat' apply And.intro) <;> (first | assumption | exact set2_other (by assumption) _ (by omega))))
              clear hK K
              try simp only [Act.put, List.setIfInBounds_toArray, List.set_cons_zero, List.set_cons_succ]
              refine wpAnyH_ready (rs := [7]) (by kernel_rfl) (by simp) ?_
              refine AllReadyH.cons (o := { dst := some 22, op := Go.Op.call { callee := Go.Callee.builtin Go.Builtin.append, args := #[Go.Operand.tmp 16, Go.Operand.tmp 21], argTypes := #[30, 30] }, type := 30, pos := "l03_disk.go:145", after := #[{ on := 1, ground := Go.Ground.data }, { on := 6, ground := Go.Ground.data }, { on := 4, ground := Go.Ground.chain }], guard := none }) rfl (fun K hK => ?k21) AllReadyH.nil
              refine step_app _ (by rfl) _ _ 30 (by rfl) 76 ci0 (.agg #[.slice none 0 0]) 1 24 Try.underlying30 hci0 hcz0 hcz1 hcz2 rfl (by omega) (by rfl) htt 1 (by rfl) tr (fun u hu => oneR hu rfl) (by unfold maxLen; omega) (by omega) (by omega) ?_
              intro A2 c2 v5 hO hE hK2
              have he5 : Eff ta tb v4 v5 := hE
              have hz5 : v4.heap.size ≤ v5.heap.size := he5.size
              have b5 : Below W.heap.size W v5 := b4.trans (he5.below b4.size (by omega))
              replace hi := (hi.below (he5.below (B := W.heap.size) (by omega) (by omega)) (Nat.le_refl _))
              replace y := y.keep he5 (by omega)
              replace hr2 := (he5.frozen hr0 (by simp only; omega)).trans hr2
              replace hr3 := (he5.frozen hr1 (by simp only; omega)).trans hr3
              replace ho2 := (he5.frozen ho0 (by simp only; omega)).trans ho2
              replace ho3 := (he5.frozen ho1 (by simp only; omega)).trans ho3
              replace ha0 := he5.cell ha0 (by simp only; omega)
              replace ha1 := he5.cell ha1 (by simp only; omega)
              replace hr0 := he5.cell hr0 (by simp only; omega)
              replace hr1 := he5.cell hr1 (by simp only; omega)
              replace ho0 := he5.cell ho0 (by simp only; omega)
              replace ho1 := he5.cell ho1 (by simp only; omega)
              replace x_0 := he5.cell x_0 (by simp only; omega)
              replace x_l := Nat.lt_of_lt_of_le x_l hz5
              replace hC := hC.snoc (y := ⟨Ay, nx, cy, lx⟩) hey y1 hta HTQ.out heb hO hE hK2
              clear hE hO hK2 tr htt y y1 hey heb
              refine hK.out _ _ ?s21 (fun hHeld => ?_)
              case s21 => ((try dsimp only); (go_split_ands; (repeat' apply And.intro) <;> (first | assumption | exact set2_other (by assumption) _ (by omega))))
              clear hK K
              try simp only [Act.put, List.setIfInBounds_toArray, List.set_cons_zero, List.set_cons_succ]
              refine wpAnyH_take (i := 8) (oi := { dst := some 23, op := Go.Op.fieldAddr 33 (Go.Operand.tmp 3) 0, type := 0, pos := "l03_disk.go:145", after := #[{ on := 0, ground := Go.Ground.phase }, { on := 1, ground := Go.Ground.phase }, { on := 2, ground := Go.Ground.phase }, { on := 3, ground := Go.Ground.phase }, { on := 4, ground := Go.Ground.phase }, { on := 5, ground := Go.Ground.phase }, { on := 6, ground := Go.Ground.phase }, { on := 7, ground := Go.Ground.phase }], guard := none }) (v := ?v22) rfl (by kernel_rfl) (by kernel_rfl) (by kernel_rfl) (fun _ _ _ h => h) (Or.inl ⟨by rfl, ?y22⟩) (by assumption) ?_
              case y22 => (intro w hSw; (try dsimp only at hSw); go_simp; first | done | with_reducible rfl)
              try simp only [Act.put, List.setIfInBounds_toArray, List.set_cons_zero, List.set_cons_succ]
              refine wpAnyH_ready (rs := [9]) (by kernel_rfl) (by simp) ?_
              refine AllReadyH.cons (o := { dst := none, op := Go.Op.store 30 (Go.Operand.tmp 23) (Go.Operand.tmp 22), type := 0, pos := "l03_disk.go:145", after := #[{ on := 8, ground := Go.Ground.data }, { on := 7, ground := Go.Ground.data }, { on := 7, ground := Go.Ground.chain }, { on := 0, ground := Go.Ground.phase }, { on := 1, ground := Go.Ground.phase }, { on := 2, ground := Go.Ground.phase }, { on := 3, ground := Go.Ground.phase }, { on := 4, ground := Go.Ground.phase }, { on := 5, ground := Go.Ground.phase }, { on := 6, ground := Go.Ground.phase }, { on := 7, ground := Go.Ground.phase }], guard := none }) rfl (fun K hK => ?k23) AllReadyH.nil
              go_simp
              refine hK.out _ _ ?s23 (fun hHeld => ?_)
              case s23 => ((try dsimp only); (go_split_ands; (repeat' apply And.intro) <;> (first | assumption | exact set2_other (by assumption) _ (by omega))))
              clear hK K
              try simp only [Act.put]
              refine wpAnyH_done (by kernel_rfl) ?_ _
              have hest : Eff (W.heap.size + 1 + 1) (W.heap.size + 1 + 1 + 1) v5 (v5.setCell ⟨W.heap.size + 1 + 1, 0, none⟩ (.slice A2 (k + 1) c2)) := eff_set _ _ _ _
              have hsst : (v5.setCell ⟨W.heap.size + 1 + 1, 0, none⟩ (.slice A2 (k + 1) c2)).heap.size = v5.heap.size := (by simp)
              replace hC := (hC.keep hest (by omega)).wide (Nat.le_refl _) (Nat.le_of_eq hsst.symm) (Nat.le_refl _)
              replace ha0 := hest.cell ha0 (by simp only; omega)
              replace ha1 := hest.cell ha1 (by simp only; omega)
              replace hr0 := hest.cell hr0 (by simp only; omega)
              replace hr1 := hest.cell hr1 (by simp only; omega)
              replace ho0 := set_same ho0 (.slice A2 (k + 1) c2)
              replace ho1 := set_other (b' := W.heap.size + 1 + 1) (o' := 0) ho1 (.slice A2 (k + 1) c2) (.inr (by omega))
              replace hr2 := set_frozen (p := ⟨W.heap.size + 1 + 1, 0, none⟩) hr2 (.slice A2 (k + 1) c2)
              replace hr3 := set_frozen (p := ⟨W.heap.size + 1 + 1, 0, none⟩) hr3 (.slice A2 (k + 1) c2)
              replace ho2 := set_frozen (p := ⟨W.heap.size + 1 + 1, 0, none⟩) ho2 (.slice A2 (k + 1) c2)
              replace ho3 := set_frozen (p := ⟨W.heap.size + 1 + 1, 0, none⟩) ho3 (.slice A2 (k + 1) c2)
              have hbf : Below W.heap.size W (v5.setCell ⟨W.heap.size + 1 + 1, 0, none⟩ (.slice A2 (k + 1) c2)) := b5.trans (hest.below b5.size (by omega))
              go_wp2_with fail
              go_roundw
              case rel => exact ⟨k + 1, A2, c2, es ++ [⟨Ay, nx, cy, lx⟩], by omega, by go_num, hbf, by omega, ha0, ha1, hr0, hr1, ho0, ho1, hr2, hr3, ho2, ho3, hC, Lib.hid (by rw [List.map_append, HD.out, List.take_add_one, List.getElem?_map, HX.out]; rfl)⟩
              case measure => simp [intOf]; omega
    · have hge : nc = k := by omega
      subst hge
      clear hk hlt
      go_wp2
      have HG : Hid (es.map Ce.d = cs.map Ce.d) := Lib.hid (by rw [HD.out, List.take_of_length_le (by rw [List.length_map, HLC.out]; exact Nat.le_refl _)])
      clear HD
      obtain ⟨wo, rfl⟩ : ∃ wo : World, wo = wr := ⟨_, rfl⟩
      obtain ⟨Cr, hCr⟩ : ∃ Cr, Cr = Ar := ⟨_, rfl⟩
      obtain ⟨gr, hgr⟩ : ∃ gr, gr = cr := ⟨_, rfl⟩
      obtain ⟨gs, hgs⟩ : ∃ gs, gs = es := ⟨_, rfl⟩
      obtain ⟨m, hm⟩ : ∃ m, m = wo.heap.size := ⟨_, rfl⟩
      subst hCr hgr hgs
      have hD := hC
      rw [← hm] at hD
      have HB0 : True := trivial
      have hmle : W.heap.size + 1 + 1 + 1 ≤ m := by omega
      clear hC
      go_loopw [28] (fun vi wr => ∃ (k : Nat) (Ar : Option Addr) (cr : Nat) (es : List Wr), k ≤ nw ∧ vi = .int .i64 (k : Int) ∧ Below W.heap.size W wr ∧ m ≤ wr.heap.size ∧ wr.cell? ⟨W.heap.size, 0, none⟩ = some (.slice Ac nc cc) ∧ wr.cell? ⟨W.heap.size, 1, none⟩ = some (.slice Aw nw cw) ∧ wr.cell? ⟨W.heap.size + 1, 0, none⟩ = some (.slice none 0 0) ∧ wr.cell? ⟨W.heap.size + 1, 1, none⟩ = some (.slice none 0 0) ∧ wr.cell? ⟨W.heap.size + 1 + 1, 0, none⟩ = some (.slice Cr nc gr) ∧ wr.cell? ⟨W.heap.size + 1 + 1, 1, none⟩ = some (.slice Ar k cr) ∧ wr.frozen? ⟨W.heap.size + 1, 0, none⟩ = false ∧ wr.frozen? ⟨W.heap.size + 1, 1, none⟩ = false ∧ wr.frozen? ⟨W.heap.size + 1 + 1, 0, none⟩ = false ∧ wr.frozen? ⟨W.heap.size + 1 + 1, 1, none⟩ = false ∧ OwnWrite wr (m) wr.heap.size Ar k cr es ∧ Hid (es.map Wr.d = (ws.map Wr.d).take k) ∧ OwnCell wr (W.heap.size + 1 + 1 + 1) m Cr nc gr gs) (fun vi _ => nw - (intOf vi).toNat)
      case atStart => exact ⟨0, none, 0, [], Nat.zero_le _, rfl, hb, Nat.le_of_eq hm, ha0, ha1, hr0, hr1, ho0, ho1, hr2, hr3, ho2, ho3, OwnR.nil (Nat.le_of_eq hm) (Nat.le_refl _), Lib.hid (by simp), hD⟩
      case round =>
        clear HB0
        obtain ⟨k, Ar, cr, es, hk, rfl, hb, hlo, ha0, ha1, hr0, hr1, ho0, ho1, hr2, hr3, ho2, ho3, hC, HD, hD⟩ := hrel
        by_cases hlt : k < nw
        · skip
          obtain ⟨b, off, ⟨px, Ax, nx, cx, lx⟩, rfl, hbB, hx, hcell, hi, hcap⟩ := (hrw.below hb (Nat.le_refl _)).elem Wr.hf (by omega) hlt
          have cc0 : wr.cell? ⟨b, off + k * 2, none⟩ = some (.int .i64 px) := by have := hcell 0 _ rfl; simpa [Nat.add_assoc] using this
          have cc1 : wr.cell? ⟨b, off + k * 2 + 1, none⟩ = some (.slice Ax nx cx) := by have := hcell 1 _ rfl; simpa [Nat.add_assoc] using this
          have HX := Lib.hid hx
          have hnx : nx ≤ 1099511627776 := HL2.out _ (List.mem_of_getElem? hx)
          replace hi : Rd wr W.heap.size 1 Ax nx (Lib.byteCells lx) := hi
          clear hcell hcap hx
          have hlo1 := hC.lohi
          have hlo2 := hD.lohi
          have hlo3 := hD.le
          go_wp2_with fail
          have he1 : Eff 0 0 wr (wr.alloc (.cells #[.int .i64 px, .slice Ax nx cx] 74)) := Eff.alloc _ _
          have hs1 : (wr.alloc (.cells #[.int .i64 px, .slice Ax nx cx] 74)).heap.size = wr.heap.size + 1 := (by simp)
          have x_0 : (wr.alloc (.cells #[.int .i64 px, .slice Ax nx cx] 74)).cell? ⟨wr.heap.size, 0, none⟩ = some (.int .i64 px) := var_cell _ _ _ _ _ rfl
          have x_1 : (wr.alloc (.cells #[.int .i64 px, .slice Ax nx cx] 74)).cell? ⟨wr.heap.size, 1, none⟩ = some (.slice Ax nx cx) := var_cell _ _ _ _ _ rfl
          generalize (wr.alloc (.cells #[.int .i64 px, .slice Ax nx cx] 74)) = v1 at *
          have hz1 : wr.heap.size ≤ v1.heap.size := he1.size
          have b1 : Below W.heap.size W v1 := hb.trans (he1.below hb.size (by omega))
          replace hi := (hi.below (he1.below (B := W.heap.size) (by omega) (by omega)) (Nat.le_refl _))
          replace hC := hC.keep he1 (by omega)
          replace hD := hD.keep he1 (by omega)
          replace hr2 := (he1.frozen hr0 (by simp only; omega)).trans hr2
          replace hr3 := (he1.frozen hr1 (by simp only; omega)).trans hr3
          replace ho2 := (he1.frozen ho0 (by simp only; omega)).trans ho2
          replace ho3 := (he1.frozen ho1 (by simp only; omega)).trans ho3
          replace ha0 := he1.cell ha0 (by simp only; omega)
          replace ha1 := he1.cell ha1 (by simp only; omega)
          replace hr0 := he1.cell hr0 (by simp only; omega)
          replace hr1 := he1.cell hr1 (by simp only; omega)
          replace ho0 := he1.cell ho0 (by simp only; omega)
          replace ho1 := he1.cell ho1 (by simp only; omega)
          have x_l : wr.heap.size < v1.heap.size := (by omega)
          clear cc0 cc1
          go_wp2_with fail
          have he2 : Eff 0 0 v1 v1.drew := (Eff.refl _ _ _).drew
          have hz2 : v1.heap.size ≤ v1.drew.heap.size := he2.size
          have b2 : Below W.heap.size W v1.drew := b1.trans (he2.below b1.size (by omega))
          replace hi := (hi.below (he2.below (B := W.heap.size) (by omega) (by omega)) (Nat.le_refl _))
          replace hC := hC.keep he2 (by omega)
          replace hD := hD.keep he2 (by omega)
          replace hr2 := (he2.frozen hr0 (by simp only; omega)).trans hr2
          replace hr3 := (he2.frozen hr1 (by simp only; omega)).trans hr3
          replace ho2 := (he2.frozen ho0 (by simp only; omega)).trans ho2
          replace ho3 := (he2.frozen ho1 (by simp only; omega)).trans ho3
          replace ha0 := he2.cell ha0 (by simp only; omega)
          replace ha1 := he2.cell ha1 (by simp only; omega)
          replace hr0 := he2.cell hr0 (by simp only; omega)
          replace hr1 := he2.cell hr1 (by simp only; omega)
          replace ho0 := he2.cell ho0 (by simp only; omega)
          replace ho1 := he2.cell ho1 (by simp only; omega)
          replace x_0 := he2.cell x_0 (by simp only; omega)
          replace x_1 := he2.cell x_1 (by simp only; omega)
          replace x_l := Nat.lt_of_lt_of_le x_l hz2
          refine wp_region_held_drew (S := fun w' => w'.cell? ⟨wr.heap.size, 0, none⟩ = some (.int .i64 px) ∧ w'.cell? ⟨wr.heap.size, 1, none⟩ = some (.slice Ax nx cx)) (by kernel_rfl) ?rg24 (fun hHeld => ?_)
          case rg24 => ((try dsimp only); (go_split_ands; (repeat' apply And.intro) <;> (first | assumption | exact set2_other (by assumption) _ (by omega))))
          generalize v1.drew = v0 at *
          obtain ⟨ta, tb, htt, hta, htab, htb, htq⟩ := Own.tight hC.row hC.lohi
          have HTQ := Lib.hid htq
          clear htq
          refine wpAnyH_take (i := 0) (oi := { dst := some 32, op := Go.Op.fieldAddr 33 (Go.Operand.tmp 3) 1, type := 0, pos := "l03_disk.go:148", after := #[], guard := none }) (v := ?v25) rfl (by kernel_rfl) (by kernel_rfl) (by kernel_rfl) (fun _ _ _ h => h) (Or.inl ⟨by rfl, ?y25⟩) (by assumption) ?_
          case y25 => (intro w hSw; (try dsimp only at hSw); go_simp; first | done | with_reducible rfl)
          try simp only [Act.put, List.setIfInBounds_toArray, List.set_cons_zero, List.set_cons_succ]
          refine wpAnyH_take (i := 2) (oi := { dst := some 34, op := Go.Op.fieldAddr 74 (Go.Operand.tmp 7) 0, type := 0, pos := "l03_disk.go:148", after := #[], guard := none }) (v := ?v26) rfl (by kernel_rfl) (by kernel_rfl) (by kernel_rfl) (fun _ _ _ h => h) (Or.inl ⟨by rfl, ?y26⟩) (by assumption) ?_
          case y26 => (intro w hSw; (try dsimp only at hSw); go_simp; first | done | with_reducible rfl)
          try simp only [Act.put, List.setIfInBounds_toArray, List.set_cons_zero, List.set_cons_succ]
          refine wpAnyH_take (i := 3) (oi := { dst := some 35, op := Go.Op.load 3 (Go.Operand.tmp 34), type := 3, pos := "l03_disk.go:148", after := #[{ on := 2, ground := Go.Ground.data }], guard := none }) (v := ?v27) rfl (by kernel_rfl) (by kernel_rfl) (by kernel_rfl) (fun _ _ _ h => h) (Or.inl ⟨by rfl, ?y27⟩) (by assumption) ?_
          case y27 => (intro w hSw; (try dsimp only at hSw); go_simp; first | done | with_reducible rfl)
          try simp only [Act.put, List.setIfInBounds_toArray, List.set_cons_zero, List.set_cons_succ]
          refine wpAnyH_take (i := 4) (oi := { dst := some 36, op := Go.Op.fieldAddr 74 (Go.Operand.tmp 7) 1, type := 0, pos := "l03_disk.go:148", after := #[], guard := none }) (v := ?v28) rfl (by kernel_rfl) (by kernel_rfl) (by kernel_rfl) (fun _ _ _ h => h) (Or.inl ⟨by rfl, ?y28⟩) (by assumption) ?_
          case y28 => (intro w hSw; (try dsimp only at hSw); go_simp; first | done | with_reducible rfl)
          try simp only [Act.put, List.setIfInBounds_toArray, List.set_cons_zero, List.set_cons_succ]
          refine wpAnyH_take (i := 5) (oi := { dst := some 37, op := Go.Op.load 27 (Go.Operand.tmp 36), type := 27, pos := "l03_disk.go:148", after := #[{ on := 4, ground := Go.Ground.data }], guard := none }) (v := ?v29) rfl (by kernel_rfl) (by kernel_rfl) (by kernel_rfl) (fun _ _ _ h => h) (Or.inl ⟨by rfl, ?y29⟩) (by assumption) ?_
          case y29 => (intro w hSw; (try dsimp only at hSw); go_simp; first | done | with_reducible rfl)
          try simp only [Act.put, List.setIfInBounds_toArray, List.set_cons_zero, List.set_cons_succ]
          refine wpAnyH_ready (rs := [1, 6]) (by kernel_rfl) (by simp) ?_
          refine AllReadyH.cons (o := { dst := some 33, op := Go.Op.load 31 (Go.Operand.tmp 32), type := 31, pos := "l03_disk.go:148", after := #[{ on := 0, ground := Go.Ground.data }], guard := none }) rfl (fun K hK => ?k30) ?m30
          case k30 =>
            go_simp
            refine hK.out _ _ ?s30 (fun hHeld => ?_)
            case s30 => ((try dsimp only); (go_split_ands; (repeat' apply And.intro) <;> (first | assumption | exact set2_other (by assumption) _ (by omega))))
            clear hK K
            try simp only [Act.put, List.setIfInBounds_toArray, List.set_cons_zero, List.set_cons_succ]
            refine wpAnyH_ready (rs := [6]) (by kernel_rfl) (by simp) ?_
            refine AllReadyH.cons (o := { dst := some 38, op := Go.Op.call { callee := Go.Callee.value (Go.Operand.func 61), args := #[Go.Operand.tmp 37], argTypes := #[27] }, type := 27, pos := "l03_disk.go:148", after := #[{ on := 5, ground := Go.Ground.data }], guard := none }) rfl (fun K hK => ?k31) AllReadyH.nil
            go_simp
            go_at_call 61
            refine (copyBytes_any Ax nx cx lx v0 (hi.more (by omega)) hnx).mono ?_
            rintro e v3 ⟨Ay, cy, rfl, y, hb⟩
            have he3 : Eff 0 0 v0 v3 := Eff.of hb
            have hz3 : v0.heap.size ≤ v3.heap.size := he3.size
            have b3 : Below W.heap.size W v3 := b2.trans (he3.below b2.size (by omega))
            replace hi := (hi.below (he3.below (B := W.heap.size) (by omega) (by omega)) (Nat.le_refl _))
            replace hD := hD.keep he3 (by omega)
            replace htt := htt.keep he3 (by omega)
            replace hr2 := (he3.frozen hr0 (by simp only; omega)).trans hr2
            replace hr3 := (he3.frozen hr1 (by simp only; omega)).trans hr3
            replace ho2 := (he3.frozen ho0 (by simp only; omega)).trans ho2
            replace ho3 := (he3.frozen ho1 (by simp only; omega)).trans ho3
            replace ha0 := he3.cell ha0 (by simp only; omega)
            replace ha1 := he3.cell ha1 (by simp only; omega)
            replace hr0 := he3.cell hr0 (by simp only; omega)
            replace hr1 := he3.cell hr1 (by simp only; omega)
            replace ho0 := he3.cell ho0 (by simp only; omega)
            replace ho1 := he3.cell ho1 (by simp only; omega)
            replace x_0 := he3.cell x_0 (by simp only; omega)
            replace x_1 := he3.cell x_1 (by simp only; omega)
            replace x_l := Nat.lt_of_lt_of_le x_l hz3
            clear hb
            have y1 := y
            have hey : Eff 0 0 v0 v3 := he3
            refine hK.out _ _ ?s31 (fun hHeld => ?_)
            case s31 => ((try dsimp only); (go_split_ands; (repeat' apply And.intro) <;> (first | assumption | exact set2_other (by assumption) _ (by omega))))
            clear hK K
            try simp only [Act.put, List.setIfInBounds_toArray, List.set_cons_zero, List.set_cons_succ]
            refine wpAnyH_take (i := 7) (oi := { dst := some 39, op := Go.Op.build 74 #[(0, Go.Operand.tmp 35), (1, Go.Operand.tmp 38)], type := 74, pos := "l03_disk.go:148", after := #[{ on := 3, ground := Go.Ground.data }, { on := 6, ground := Go.Ground.data }], guard := none }) (v := ?v32) rfl (by kernel_rfl) (by kernel_rfl) (by kernel_rfl) (fun _ _ _ h => h) (Or.inl ⟨by rfl, ?y32⟩) (by assumption) ?_
            case y32 => (intro w hSw; (try dsimp only at hSw); go_simp; first | done | with_reducible rfl)
            try simp only [Act.put, List.setIfInBounds_toArray, List.set_cons_zero, List.set_cons_succ]
            refine wpAnyH_ready (rs := [8]) (by kernel_rfl) (by simp) ?_
            refine AllReadyH.cons (o := { dst := some 40, op := Go.Op.buildSlice 31 1 #[(0, Go.Operand.tmp 39)], type := 31, pos := "l03_disk.go:148", after := #[{ on := 7, ground := Go.Ground.data }], guard := none }) rfl (fun K hK => ?k33) AllReadyH.nil
            go_simp
            have he4 : Eff 0 0 v3 (v3.alloc (.cells #[.int .i64 px, .slice Ay nx cy] 74)) := Eff.alloc _ _
            have hs4 : (v3.alloc (.cells #[.int .i64 px, .slice Ay nx cy] 74)).heap.size = v3.heap.size + 1 := (by simp)
            have tr := rd_row v3 [.int .i64 px, .slice Ay nx cy] 74
            generalize (v3.alloc (.cells #[.int .i64 px, .slice Ay nx cy] 74)) = v4 at *
            have hz4 : v3.heap.size ≤ v4.heap.size := he4.size
            have b4 : Below W.heap.size W v4 := b3.trans (he4.below b3.size (by omega))
            replace hi := (hi.below (he4.below (B := W.heap.size) (by omega) (by omega)) (Nat.le_refl _))
            replace hD := hD.keep he4 (by omega)
            replace htt := htt.keep he4 (by omega)
            replace y := y.keep he4 (by omega)
            replace hr2 := (he4.frozen hr0 (by simp only; omega)).trans hr2
            replace hr3 := (he4.frozen hr1 (by simp only; omega)).trans hr3
            replace ho2 := (he4.frozen ho0 (by simp only; omega)).trans ho2
            replace ho3 := (he4.frozen ho1 (by simp only; omega)).trans ho3
            replace ha0 := he4.cell ha0 (by simp only; omega)
            replace ha1 := he4.cell ha1 (by simp only; omega)
            replace hr0 := he4.cell hr0 (by simp only; omega)
            replace hr1 := he4.cell hr1 (by simp only; omega)
            replace ho0 := he4.cell ho0 (by simp only; omega)
            replace ho1 := he4.cell ho1 (by simp only; omega)
            replace x_0 := he4.cell x_0 (by simp only; omega)
            replace x_1 := he4.cell x_1 (by simp only; omega)
            replace x_l := Nat.lt_of_lt_of_le x_l hz4
            have heb : Eff 0 0 v3 v4 := he4
            refine hK.out _ _ ?s33 (fun hHeld => ?_)
            case s33 => ((try dsimp only); (go_split_ands; (repeat' apply And.intro) <;> (first | assumption | exact set2_other (by assumption) _ (by omega))))
            clear hK K
            try simp only [Act.put, List.setIfInBounds_toArray, List.set_cons_zero, List.set_cons_succ]
            refine wpAnyH_ready (rs := [9]) (by kernel_rfl) (by simp) ?_
            refine AllReadyH.cons (o := { dst := some 41, op := Go.Op.call { callee := Go.Callee.builtin Go.Builtin.append, args := #[Go.Operand.tmp 33, Go.Operand.tmp 40], argTypes := #[31, 31] }, type := 31, pos := "l03_disk.go:148", after := #[{ on := 1, ground := Go.Ground.data }, { on := 8, ground := Go.Ground.data }, { on := 6, ground := Go.Ground.chain }], guard := none }) rfl (fun K hK => ?k34) AllReadyH.nil
            refine step_app _ (by rfl) _ _ 31 (by rfl) 74 wi0 (.agg #[.int .i64 0, .slice none 0 0]) 2 32 Try.underlying31 hwi0 hwz0 hwz1 hwz2 rfl (by omega) (by rfl) htt 1 (by rfl) tr (fun u hu => twoR hu rfl rfl) (by unfold maxLen; omega) (by omega) (by omega) ?_
            intro A2 c2 v5 hO hE hK2
            have he5 : Eff ta tb v4 v5 := hE
            have hz5 : v4.heap.size ≤ v5.heap.size := he5.size
            have b5 : Below W.heap.size W v5 := b4.trans (he5.below b4.size (by omega))
            replace hi := (hi.below (he5.below (B := W.heap.size) (by omega) (by omega)) (Nat.le_refl _))
            replace hD := hD.keep he5 (by omega)
            replace y := y.keep he5 (by omega)
            replace hr2 := (he5.frozen hr0 (by simp only; omega)).trans hr2
            replace hr3 := (he5.frozen hr1 (by simp only; omega)).trans hr3
            replace ho2 := (he5.frozen ho0 (by simp only; omega)).trans ho2
            replace ho3 := (he5.frozen ho1 (by simp only; omega)).trans ho3
            replace ha0 := he5.cell ha0 (by simp only; omega)
            replace ha1 := he5.cell ha1 (by simp only; omega)
            replace hr0 := he5.cell hr0 (by simp only; omega)
            replace hr1 := he5.cell hr1 (by simp only; omega)
            replace ho0 := he5.cell ho0 (by simp only; omega)
            replace ho1 := he5.cell ho1 (by simp only; omega)
            replace x_0 := he5.cell x_0 (by simp only; omega)
            replace x_1 := he5.cell x_1 (by simp only; omega)
            replace x_l := Nat.lt_of_lt_of_le x_l hz5
            replace hC := hC.snoc (y := ⟨px, Ay, nx, cy, lx⟩) hey y1 hta HTQ.out heb hO hE hK2
            clear hE hO hK2 tr htt y y1 hey heb
            refine hK.out _ _ ?s34 (fun hHeld => ?_)
            case s34 => ((try dsimp only); (go_split_ands; (repeat' apply And.intro) <;> (first | assumption | exact set2_other (by assumption) _ (by omega))))
            clear hK K
            try simp only [Act.put, List.setIfInBounds_toArray, List.set_cons_zero, List.set_cons_succ]
            refine wpAnyH_take (i := 10) (oi := { dst := some 42, op := Go.Op.fieldAddr 33 (Go.Operand.tmp 3) 1, type := 0, pos := "l03_disk.go:148", after := #[{ on := 0, ground := Go.Ground.phase }, { on := 1, ground := Go.Ground.phase }, { on := 2, ground := Go.Ground.phase }, { on := 3, ground := Go.Ground.phase }, { on := 4, ground := Go.Ground.phase }, { on := 5, ground := Go.Ground.phase }, { on := 6, ground := Go.Ground.phase }, { on := 7, ground := Go.Ground.phase }, { on := 8, ground := Go.Ground.phase }, { on := 9, ground := Go.Ground.phase }], guard := none }) (v := ?v35) rfl (by kernel_rfl) (by kernel_rfl) (by kernel_rfl) (fun _ _ _ h => h) (Or.inl ⟨by rfl, ?y35⟩) (by assumption) ?_
            case y35 => (intro w hSw; (try dsimp only at hSw); go_simp; first | done | with_reducible rfl)
            try simp only [Act.put, List.setIfInBounds_toArray, List.set_cons_zero, List.set_cons_succ]
            refine wpAnyH_ready (rs := [11]) (by kernel_rfl) (by simp) ?_
            refine AllReadyH.cons (o := { dst := none, op := Go.Op.store 31 (Go.Operand.tmp 42) (Go.Operand.tmp 41), type := 0, pos := "l03_disk.go:148", after := #[{ on := 10, ground := Go.Ground.data }, { on := 9, ground := Go.Ground.data }, { on := 9, ground := Go.Ground.chain }, { on := 0, ground := Go.Ground.phase }, { on := 1, ground := Go.Ground.phase }, { on := 2, ground := Go.Ground.phase }, { on := 3, ground := Go.Ground.phase }, { on := 4, ground := Go.Ground.phase }, { on := 5, ground := Go.Ground.phase }, { on := 6, ground := Go.Ground.phase }, { on := 7, ground := Go.Ground.phase }, { on := 8, ground := Go.Ground.phase }, { on := 9, ground := Go.Ground.phase }], guard := none }) rfl (fun K hK => ?k36) AllReadyH.nil
            go_simp
            refine hK.out _ _ ?s36 (fun hHeld => ?_)
            case s36 => ((try dsimp only); (go_split_ands; (repeat' apply And.intro) <;> (first | assumption | exact set2_other (by assumption) _ (by omega))))
            clear hK K
            try simp only [Act.put]
            refine wpAnyH_done (by kernel_rfl) ?_ _
            have hest : Eff (W.heap.size + 1 + 1) (W.heap.size + 1 + 1 + 1) v5 (v5.setCell ⟨W.heap.size + 1 + 1, 1, none⟩ (.slice A2 (k + 1) c2)) := eff_set _ _ _ _
            have hsst : (v5.setCell ⟨W.heap.size + 1 + 1, 1, none⟩ (.slice A2 (k + 1) c2)).heap.size = v5.heap.size := (by simp)
            replace hC := (hC.keep hest (by omega)).wide (Nat.le_refl _) (Nat.le_of_eq hsst.symm) (Nat.le_refl _)
            replace hD := hD.keep hest (by omega)
            replace ha0 := hest.cell ha0 (by simp only; omega)
            replace ha1 := hest.cell ha1 (by simp only; omega)
            replace hr0 := hest.cell hr0 (by simp only; omega)
            replace hr1 := hest.cell hr1 (by simp only; omega)
            replace ho0 := set_other (b' := W.heap.size + 1 + 1) (o' := 1) ho0 (.slice A2 (k + 1) c2) (.inr (by omega))
            replace ho1 := set_same ho1 (.slice A2 (k + 1) c2)
            replace hr2 := set_frozen (p := ⟨W.heap.size + 1 + 1, 1, none⟩) hr2 (.slice A2 (k + 1) c2)
            replace hr3 := set_frozen (p := ⟨W.heap.size + 1 + 1, 1, none⟩) hr3 (.slice A2 (k + 1) c2)
            replace ho2 := set_frozen (p := ⟨W.heap.size + 1 + 1, 1, none⟩) ho2 (.slice A2 (k + 1) c2)
            replace ho3 := set_frozen (p := ⟨W.heap.size + 1 + 1, 1, none⟩) ho3 (.slice A2 (k + 1) c2)
            have hbf : Below W.heap.size W (v5.setCell ⟨W.heap.size + 1 + 1, 1, none⟩ (.slice A2 (k + 1) c2)) := b5.trans (hest.below b5.size (by omega))
            go_wp2_with fail
            go_roundw
            case rel => exact ⟨k + 1, A2, c2, es ++ [⟨px, Ay, nx, cy, lx⟩], by omega, by go_num, hbf, by omega, ha0, ha1, hr0, hr1, ho0, ho1, hr2, hr3, ho2, ho3, hC, Lib.hid (by rw [List.map_append, HD.out, List.take_add_one, List.getElem?_map, HX.out]; rfl), hD⟩
            case measure => simp [intOf]; omega
          case m30 =>
            refine AllReadyH.cons (o := { dst := some 38, op := Go.Op.call { callee := Go.Callee.value (Go.Operand.func 61), args := #[Go.Operand.tmp 37], argTypes := #[27] }, type := 27, pos := "l03_disk.go:148", after := #[{ on := 5, ground := Go.Ground.data }], guard := none }) rfl (fun K hK => ?k37) AllReadyH.nil
            case k37 =>
              go_simp
              go_at_call 61
              refine (copyBytes_any Ax nx cx lx v0 (hi.more (by omega)) hnx).mono ?_
              rintro e v3 ⟨Ay, cy, rfl, y, hb⟩
              have he3 : Eff 0 0 v0 v3 := Eff.of hb
              have hz3 : v0.heap.size ≤ v3.heap.size := he3.size
              have b3 : Below W.heap.size W v3 := b2.trans (he3.below b2.size (by omega))
              replace hi := (hi.below (he3.below (B := W.heap.size) (by omega) (by omega)) (Nat.le_refl _))
              replace hD := hD.keep he3 (by omega)
              replace htt := htt.keep he3 (by omega)
              replace hr2 := (he3.frozen hr0 (by simp only; omega)).trans hr2
              replace hr3 := (he3.frozen hr1 (by simp only; omega)).trans hr3
              replace ho2 := (he3.frozen ho0 (by simp only; omega)).trans ho2
              replace ho3 := (he3.frozen ho1 (by simp only; omega)).trans ho3
              replace ha0 := he3.cell ha0 (by simp only; omega)
              replace ha1 := he3.cell ha1 (by simp only; omega)
              replace hr0 := he3.cell hr0 (by simp only; omega)
              replace hr1 := he3.cell hr1 (by simp only; omega)
              replace ho0 := he3.cell ho0 (by simp only; omega)
              replace ho1 := he3.cell ho1 (by simp only; omega)
              replace x_0 := he3.cell x_0 (by simp only; omega)
              replace x_1 := he3.cell x_1 (by simp only; omega)
              replace x_l := Nat.lt_of_lt_of_le x_l hz3
              clear hb
              have y1 := y
              have hey : Eff 0 0 v0 v3 := he3
              refine hK.out _ _ ?s37 (fun hHeld => ?_)
              case s37 => ((try dsimp only); (go_split_ands; (repeat' apply And.intro) <;> (first | assumption | exact set2_other (by assumption) _ (by omega))))
              clear hK K
              try simp only [Act.put, List.setIfInBounds_toArray, List.set_cons_zero, List.set_cons_succ]
              refine wpAnyH_take (i := 7) (oi := { dst := some 39, op := Go.Op.build 74 #[(0, Go.Operand.tmp 35), (1, Go.Operand.tmp 38)], type := 74, pos := "l03_disk.go:148", after := #[{ on := 3, ground := Go.Ground.data }, { on := 6, ground := Go.Ground.data }], guard := none }) (v := ?v38) rfl (by kernel_rfl) (by kernel_rfl) (by kernel_rfl) (fun _ _ _ h => h) (Or.inl ⟨by rfl, ?y38⟩) (by assumption) ?_
              case y38 => (intro w hSw; (try dsimp only at hSw); go_simp; first | done | with_reducible rfl)
              try simp only [Act.put, List.setIfInBounds_toArray, List.set_cons_zero, List.set_cons_succ]
              refine wpAnyH_ready (rs := [1, 8]) (by kernel_rfl) (by simp) ?_
              refine AllReadyH.cons (o := { dst := some 33, op := Go.Op.load 31 (Go.Operand.tmp 32), type := 31, pos := "l03_disk.go:148", after := #[{ on := 0, ground := Go.Ground.data }], guard := none }) rfl (fun K hK => ?k39) ?m39
              case k39 =>
                go_simp
                refine hK.out _ _ ?s39 (fun hHeld => ?_)
                case s39 => ((try dsimp only); (go_split_ands; (repeat' apply And.intro) <;> (first | assumption | exact set2_other (by assumption) _ (by omega))))
                clear hK K
                try simp only [Act.put, List.setIfInBounds_toArray, List.set_cons_zero, List.set_cons_succ]
                refine wpAnyH_ready (rs := [8]) (by kernel_rfl) (by simp) ?_
                refine AllReadyH.cons (o := { dst := some 40, op := Go.Op.buildSlice 31 1 #[(0, Go.Operand.tmp 39)], type := 31, pos := "l03_disk.go:148", after := #[{ on := 7, ground := Go.Ground.data }], guard := none }) rfl (fun K hK => ?k40) AllReadyH.nil
                go_simp
                have he4 : Eff 0 0 v3 (v3.alloc (.cells #[.int .i64 px, .slice Ay nx cy] 74)) := Eff.alloc _ _
                have hs4 : (v3.alloc (.cells #[.int .i64 px, .slice Ay nx cy] 74)).heap.size = v3.heap.size + 1 := (by simp)
                have tr := rd_row v3 [.int .i64 px, .slice Ay nx cy] 74
                generalize (v3.alloc (.cells #[.int .i64 px, .slice Ay nx cy] 74)) = v4 at *
                have hz4 : v3.heap.size ≤ v4.heap.size := he4.size
                have b4 : Below W.heap.size W v4 := b3.trans (he4.below b3.size (by omega))
                replace hi := (hi.below (he4.below (B := W.heap.size) (by omega) (by omega)) (Nat.le_refl _))
                replace hD := hD.keep he4 (by omega)
                replace htt := htt.keep he4 (by omega)
                replace y := y.keep he4 (by omega)
                replace hr2 := (he4.frozen hr0 (by simp only; omega)).trans hr2
                replace hr3 := (he4.frozen hr1 (by simp only; omega)).trans hr3
                replace ho2 := (he4.frozen ho0 (by simp only; omega)).trans ho2
                replace ho3 := (he4.frozen ho1 (by simp only; omega)).trans ho3
                replace ha0 := he4.cell ha0 (by simp only; omega)
                replace ha1 := he4.cell ha1 (by simp only; omega)
                replace hr0 := he4.cell hr0 (by simp only; omega)
                replace hr1 := he4.cell hr1 (by simp only; omega)
                replace ho0 := he4.cell ho0 (by simp only; omega)
                replace ho1 := he4.cell ho1 (by simp only; omega)
                replace x_0 := he4.cell x_0 (by simp only; omega)
                replace x_1 := he4.cell x_1 (by simp only; omega)
                replace x_l := Nat.lt_of_lt_of_le x_l hz4
                have heb : Eff 0 0 v3 v4 := he4
                refine hK.out _ _ ?s40 (fun hHeld => ?_)
                case s40 => ((try dsimp only); (go_split_ands; (repeat' apply And.intro) <;> (first | assumption | exact set2_other (by assumption) _ (by omega))))
                clear hK K
                try simp only [Act.put, List.setIfInBounds_toArray, List.set_cons_zero, List.set_cons_succ]
                refine wpAnyH_ready (rs := [9]) (by kernel_rfl) (by simp) ?_
                refine AllReadyH.cons (o := { dst := some 41, op := Go.Op.call { callee := Go.Callee.builtin Go.Builtin.append, args := #[Go.Operand.tmp 33, Go.Operand.tmp 40], argTypes := #[31, 31] }, type := 31, pos := "l03_disk.go:148", after := #[{ on := 1, ground := Go.Ground.data }, { on := 8, ground := Go.Ground.data }, { on := 6, ground := Go.Ground.chain }], guard := none }) rfl (fun K hK => ?k41) AllReadyH.nil
                refine step_app _ (by rfl) _ _ 31 (by rfl) 74 wi0 (.agg #[.int .i64 0, .slice none 0 0]) 2 32 Try.underlying31 hwi0 hwz0 hwz1 hwz2 rfl (by omega) (by rfl) htt 1 (by rfl) tr (fun u hu => twoR hu rfl rfl) (by unfold maxLen; omega) (by omega) (by omega) ?_
                intro A2 c2 v5 hO hE hK2
                have he5 : Eff ta tb v4 v5 := hE
                have hz5 : v4.heap.size ≤ v5.heap.size := he5.size
                have b5 : Below W.heap.size W v5 := b4.trans (he5.below b4.size (by omega))
                replace hi := (hi.below (he5.below (B := W.heap.size) (by omega) (by omega)) (Nat.le_refl _))
                replace hD := hD.keep he5 (by omega)
                replace y := y.keep he5 (by omega)
                replace hr2 := (he5.frozen hr0 (by simp only; omega)).trans hr2
                replace hr3 := (he5.frozen hr1 (by simp only; omega)).trans hr3
                replace ho2 := (he5.frozen ho0 (by simp only; omega)).trans ho2
                replace ho3 := (he5.frozen ho1 (by simp only; omega)).trans ho3
                replace ha0 := he5.cell ha0 (by simp only; omega)
                replace ha1 := he5.cell ha1 (by simp only; omega)
                replace hr0 := he5.cell hr0 (by simp only; omega)
                replace hr1 := he5.cell hr1 (by simp only; omega)
                replace ho0 := he5.cell ho0 (by simp only; omega)
                replace ho1 := he5.cell ho1 (by simp only; omega)
                replace x_0 := he5.cell x_0 (by simp only; omega)
                replace x_1 := he5.cell x_1 (by simp only; omega)
                replace x_l := Nat.lt_of_lt_of_le x_l hz5
                replace hC := hC.snoc (y := ⟨px, Ay, nx, cy, lx⟩) hey y1 hta HTQ.out heb hO hE hK2
                clear hE hO hK2 tr htt y y1 hey heb
                refine hK.out _ _ ?s41 (fun hHeld => ?_)
                case s41 => ((try dsimp only); (go_split_ands; (repeat' apply And.intro) <;> (first | assumption | exact set2_other (by assumption) _ (by omega))))
                clear hK K
                try simp only [Act.put, List.setIfInBounds_toArray, List.set_cons_zero, List.set_cons_succ]
                refine wpAnyH_take (i := 10) (oi := { dst := some 42, op := Go.Op.fieldAddr 33 (Go.Operand.tmp 3) 1, type := 0, pos := "l03_disk.go:148", after := #[{ on := 0, ground := Go.Ground.phase }, { on := 1, ground := Go.Ground.phase }, { on := 2, ground := Go.Ground.phase }, { on := 3, ground := Go.Ground.phase }, { on := 4, ground := Go.Ground.phase }, { on := 5, ground := Go.Ground.phase }, { on := 6, ground := Go.Ground.phase }, { on := 7, ground := Go.Ground.phase }, { on := 8, ground := Go.Ground.phase }, { on := 9, ground := Go.Ground.phase }], guard := none }) (v := ?v42) rfl (by kernel_rfl) (by kernel_rfl) (by kernel_rfl) (fun _ _ _ h => h) (Or.inl ⟨by rfl, ?y42⟩) (by assumption) ?_
                case y42 => (intro w hSw; (try dsimp only at hSw); go_simp; first | done | with_reducible rfl)
                try simp only [Act.put, List.setIfInBounds_toArray, List.set_cons_zero, List.set_cons_succ]
                refine wpAnyH_ready (rs := [11]) (by kernel_rfl) (by simp) ?_
                refine AllReadyH.cons (o := { dst := none, op := Go.Op.store 31 (Go.Operand.tmp 42) (Go.Operand.tmp 41), type := 0, pos := "l03_disk.go:148", after := #[{ on := 10, ground := Go.Ground.data }, { on := 9, ground := Go.Ground.data }, { on := 9, ground := Go.Ground.chain }, { on := 0, ground := Go.Ground.phase }, { on := 1, ground := Go.Ground.phase }, { on := 2, ground := Go.Ground.phase }, { on := 3, ground := Go.Ground.phase }, { on := 4, ground := Go.Ground.phase }, { on := 5, ground := Go.Ground.phase }, { on := 6, ground := Go.Ground.phase }, { on := 7, ground := Go.Ground.phase }, { on := 8, ground := Go.Ground.phase }, { on := 9, ground := Go.Ground.phase }], guard := none }) rfl (fun K hK => ?k43) AllReadyH.nil
                go_simp
                refine hK.out _ _ ?s43 (fun hHeld => ?_)
                case s43 => ((try dsimp only); (go_split_ands; (repeat' apply And.intro) <;> (first | assumption | exact set2_other (by assumption) _ (by omega))))
                clear hK K
                try simp only [Act.put]
                refine wpAnyH_done (by kernel_rfl) ?_ _
                have hest : Eff (W.heap.size + 1 + 1) (W.heap.size + 1 + 1 + 1) v5 (v5.setCell ⟨W.heap.size + 1 + 1, 1, none⟩ (.slice A2 (k + 1) c2)) := eff_set _ _ _ _
                have hsst : (v5.setCell ⟨W.heap.size + 1 + 1, 1, none⟩ (.slice A2 (k + 1) c2)).heap.size = v5.heap.size := (by simp)
                replace hC := (hC.keep hest (by omega)).wide (Nat.le_refl _) (Nat.le_of_eq hsst.symm) (Nat.le_refl _)
                replace hD := hD.keep hest (by omega)
                replace ha0 := hest.cell ha0 (by simp only; omega)
                replace ha1 := hest.cell ha1 (by simp only; omega)
                replace hr0 := hest.cell hr0 (by simp only; omega)
                replace hr1 := hest.cell hr1 (by simp only; omega)
                replace ho0 := set_other (b' := W.heap.size + 1 + 1) (o' := 1) ho0 (.slice A2 (k + 1) c2) (.inr (by omega))
                replace ho1 := set_same ho1 (.slice A2 (k + 1) c2)
                replace hr2 := set_frozen (p := ⟨W.heap.size + 1 + 1, 1, none⟩) hr2 (.slice A2 (k + 1) c2)
                replace hr3 := set_frozen (p := ⟨W.heap.size + 1 + 1, 1, none⟩) hr3 (.slice A2 (k + 1) c2)
                replace ho2 := set_frozen (p := ⟨W.heap.size + 1 + 1, 1, none⟩) ho2 (.slice A2 (k + 1) c2)
                replace ho3 := set_frozen (p := ⟨W.heap.size + 1 + 1, 1, none⟩) ho3 (.slice A2 (k + 1) c2)
                have hbf : Below W.heap.size W (v5.setCell ⟨W.heap.size + 1 + 1, 1, none⟩ (.slice A2 (k + 1) c2)) := b5.trans (hest.below b5.size (by omega))
                go_wp2_with fail
                go_roundw
                case rel => exact ⟨k + 1, A2, c2, es ++ [⟨px, Ay, nx, cy, lx⟩], by omega, by go_num, hbf, by omega, ha0, ha1, hr0, hr1, ho0, ho1, hr2, hr3, ho2, ho3, hC, Lib.hid (by rw [List.map_append, HD.out, List.take_add_one, List.getElem?_map, HX.out]; rfl), hD⟩
                case measure => simp [intOf]; omega
              case m39 =>
                refine AllReadyH.cons (o := { dst := some 40, op := Go.Op.buildSlice 31 1 #[(0, Go.Operand.tmp 39)], type := 31, pos := "l03_disk.go:148", after := #[{ on := 7, ground := Go.Ground.data }], guard := none }) rfl (fun K hK => ?k44) AllReadyH.nil
                case k44 =>
                  go_simp
                  have he4 : Eff 0 0 v3 (v3.alloc (.cells #[.int .i64 px, .slice Ay nx cy] 74)) := Eff.alloc _ _
                  have hs4 : (v3.alloc (.cells #[.int .i64 px, .slice Ay nx cy] 74)).heap.size = v3.heap.size + 1 := (by simp)
                  have tr := rd_row v3 [.int .i64 px, .slice Ay nx cy] 74
                  generalize (v3.alloc (.cells #[.int .i64 px, .slice Ay nx cy] 74)) = v4 at *
                  have hz4 : v3.heap.size ≤ v4.heap.size := he4.size
                  have b4 : Below W.heap.size W v4 := b3.trans (he4.below b3.size (by omega))
                  replace hi := (hi.below (he4.below (B := W.heap.size) (by omega) (by omega)) (Nat.le_refl _))
                  replace hD := hD.keep he4 (by omega)
                  replace htt := htt.keep he4 (by omega)
                  replace y := y.keep he4 (by omega)
                  replace hr2 := (he4.frozen hr0 (by simp only; omega)).trans hr2
                  replace hr3 := (he4.frozen hr1 (by simp only; omega)).trans hr3
                  replace ho2 := (he4.frozen ho0 (by simp only; omega)).trans ho2
                  replace ho3 := (he4.frozen ho1 (by simp only; omega)).trans ho3
                  replace ha0 := he4.cell ha0 (by simp only; omega)
                  replace ha1 := he4.cell ha1 (by simp only; omega)
                  replace hr0 := he4.cell hr0 (by simp only; omega)
                  replace hr1 := he4.cell hr1 (by simp only; omega)
                  replace ho0 := he4.cell ho0 (by simp only; omega)
                  replace ho1 := he4.cell ho1 (by simp only; omega)
                  replace x_0 := he4.cell x_0 (by simp only; omega)
                  replace x_1 := he4.cell x_1 (by simp only; omega)
                  replace x_l := Nat.lt_of_lt_of_le x_l hz4
                  have heb : Eff 0 0 v3 v4 := he4
                  refine hK.out _ _ ?s44 (fun hHeld => ?_)
                  case s44 => ((try dsimp only); (go_split_ands; (repeat' apply And.intro) <;> (first | assumption | exact set2_other (by assumption) _ (by omega))))
                  clear hK K
                  try simp only [Act.put, List.setIfInBounds_toArray, List.set_cons_zero, List.set_cons_succ]
                  refine wpAnyH_ready (rs := [1]) (by kernel_rfl) (by simp) ?_
                  refine AllReadyH.cons (o := { dst := some 33, op := Go.Op.load 31 (Go.Operand.tmp 32), type := 31, pos := "l03_disk.go:148", after := #[{ on := 0, ground := Go.Ground.data }], guard := none }) rfl (fun K hK => ?k45) AllReadyH.nil
                  go_simp
                  refine hK.out _ _ ?s45 (fun hHeld => ?_)
                  case s45 => ((try dsimp only); (go_split_ands; (repeat' apply And.intro) <;> (first | assumption | exact set2_other (by assumption) _ (by omega))))
                  clear hK K
                  try simp only [Act.put, List.setIfInBounds_toArray, List.set_cons_zero, List.set_cons_succ]
                  refine wpAnyH_ready (rs := [9]) (by kernel_rfl) (by simp) ?_
                  refine AllReadyH.cons (o := { dst := some 41, op := Go.Op.call { callee := Go.Callee.builtin Go.Builtin.append, args := #[Go.Operand.tmp 33, Go.Operand.tmp 40], argTypes := #[31, 31] }, type := 31, pos := "l03_disk.go:148", after := #[{ on := 1, ground := Go.Ground.data }, { on := 8, ground := Go.Ground.data }, { on := 6, ground := Go.Ground.chain }], guard := none }) rfl (fun K hK => ?k46) AllReadyH.nil
                  refine step_app _ (by rfl) _ _ 31 (by rfl) 74 wi0 (.agg #[.int .i64 0, .slice none 0 0]) 2 32 Try.underlying31 hwi0 hwz0 hwz1 hwz2 rfl (by omega) (by rfl) htt 1 (by rfl) tr (fun u hu => twoR hu rfl rfl) (by unfold maxLen; omega) (by omega) (by omega) ?_
                  intro A2 c2 v5 hO hE hK2
                  have he5 : Eff ta tb v4 v5 := hE
                  have hz5 : v4.heap.size ≤ v5.heap.size := he5.size
                  have b5 : Below W.heap.size W v5 := b4.trans (he5.below b4.size (by omega))
                  replace hi := (hi.below (he5.below (B := W.heap.size) (by omega) (by omega)) (Nat.le_refl _))
                  replace hD := hD.keep he5 (by omega)
                  replace y := y.keep he5 (by omega)
                  replace hr2 := (he5.frozen hr0 (by simp only; omega)).trans hr2
                  replace hr3 := (he5.frozen hr1 (by simp only; omega)).trans hr3
                  replace ho2 := (he5.frozen ho0 (by simp only; omega)).trans ho2
                  replace ho3 := (he5.frozen ho1 (by simp only; omega)).trans ho3
                  replace ha0 := he5.cell ha0 (by simp only; omega)
                  replace ha1 := he5.cell ha1 (by simp only; omega)
                  replace hr0 := he5.cell hr0 (by simp only; omega)
                  replace hr1 := he5.cell hr1 (by simp only; omega)
                  replace ho0 := he5.cell ho0 (by simp only; omega)
                  replace ho1 := he5.cell ho1 (by simp only; omega)
                  replace x_0 := he5.cell x_0 (by simp only; omega)
                  replace x_1 := he5.cell x_1 (by simp only; omega)
                  replace x_l := Nat.lt_of_lt_of_le x_l hz5
                  replace hC := hC.snoc (y := ⟨px, Ay, nx, cy, lx⟩) hey y1 hta HTQ.out heb hO hE hK2
                  clear hE hO hK2 tr htt y y1 hey heb
                  refine hK.out _ _ ?s46 (fun hHeld => ?_)
                  case s46 => ((try dsimp only); (go_split_ands; (repeat' apply And.intro) <;> (first | assumption | exact set2_other (by assumption) _ (by omega))))
                  clear hK K
                  try simp only [Act.put, List.setIfInBounds_toArray, List.set_cons_zero, List.set_cons_succ]
                  refine wpAnyH_take (i := 10) (oi := { dst := some 42, op := Go.Op.fieldAddr 33 (Go.Operand.tmp 3) 1, type := 0, pos := "l03_disk.go:148", after := #[{ on := 0, ground := Go.Ground.phase }, { on := 1, ground := Go.Ground.phase }, { on := 2, ground := Go.Ground.phase }, { on := 3, ground := Go.Ground.phase }, { on := 4, ground := Go.Ground.phase }, { on := 5, ground := Go.Ground.phase }, { on := 6, ground := Go.Ground.phase }, { on := 7, ground := Go.Ground.phase }, { on := 8, ground := Go.Ground.phase }, { on := 9, ground := Go.Ground.phase }], guard := none }) (v := ?v47) rfl (by kernel_rfl) (by kernel_rfl) (by kernel_rfl) (fun _ _ _ h => h) (Or.inl ⟨by rfl, ?y47⟩) (by assumption) ?_
                  case y47 => (intro w hSw; (try dsimp only at hSw); go_simp; first | done | with_reducible rfl)
                  try simp only [Act.put, List.setIfInBounds_toArray, List.set_cons_zero, List.set_cons_succ]
                  refine wpAnyH_ready (rs := [11]) (by kernel_rfl) (by simp) ?_
                  refine AllReadyH.cons (o := { dst := none, op := Go.Op.store 31 (Go.Operand.tmp 42) (Go.Operand.tmp 41), type := 0, pos := "l03_disk.go:148", after := #[{ on := 10, ground := Go.Ground.data }, { on := 9, ground := Go.Ground.data }, { on := 9, ground := Go.Ground.chain }, { on := 0, ground := Go.Ground.phase }, { on := 1, ground := Go.Ground.phase }, { on := 2, ground := Go.Ground.phase }, { on := 3, ground := Go.Ground.phase }, { on := 4, ground := Go.Ground.phase }, { on := 5, ground := Go.Ground.phase }, { on := 6, ground := Go.Ground.phase }, { on := 7, ground := Go.Ground.phase }, { on := 8, ground := Go.Ground.phase }, { on := 9, ground := Go.Ground.phase }], guard := none }) rfl (fun K hK => ?k48) AllReadyH.nil
                  go_simp
                  refine hK.out _ _ ?s48 (fun hHeld => ?_)
                  case s48 => ((try dsimp only); (go_split_ands; (repeat' apply And.intro) <;> (first | assumption | exact set2_other (by assumption) _ (by omega))))
                  clear hK K
                  try simp only [Act.put]
                  refine wpAnyH_done (by kernel_rfl) ?_ _
                  have hest : Eff (W.heap.size + 1 + 1) (W.heap.size + 1 + 1 + 1) v5 (v5.setCell ⟨W.heap.size + 1 + 1, 1, none⟩ (.slice A2 (k + 1) c2)) := eff_set _ _ _ _
                  have hsst : (v5.setCell ⟨W.heap.size + 1 + 1, 1, none⟩ (.slice A2 (k + 1) c2)).heap.size = v5.heap.size := (by simp)
                  replace hC := (hC.keep hest (by omega)).wide (Nat.le_refl _) (Nat.le_of_eq hsst.symm) (Nat.le_refl _)
                  replace hD := hD.keep hest (by omega)
                  replace ha0 := hest.cell ha0 (by simp only; omega)
                  replace ha1 := hest.cell ha1 (by simp only; omega)
                  replace hr0 := hest.cell hr0 (by simp only; omega)
                  replace hr1 := hest.cell hr1 (by simp only; omega)
                  replace ho0 := set_other (b' := W.heap.size + 1 + 1) (o' := 1) ho0 (.slice A2 (k + 1) c2) (.inr (by omega))
                  replace ho1 := set_same ho1 (.slice A2 (k + 1) c2)
                  replace hr2 := set_frozen (p := ⟨W.heap.size + 1 + 1, 1, none⟩) hr2 (.slice A2 (k + 1) c2)
                  replace hr3 := set_frozen (p := ⟨W.heap.size + 1 + 1, 1, none⟩) hr3 (.slice A2 (k + 1) c2)
                  replace ho2 := set_frozen (p := ⟨W.heap.size + 1 + 1, 1, none⟩) ho2 (.slice A2 (k + 1) c2)
                  replace ho3 := set_frozen (p := ⟨W.heap.size + 1 + 1, 1, none⟩) ho3 (.slice A2 (k + 1) c2)
                  have hbf : Below W.heap.size W (v5.setCell ⟨W.heap.size + 1 + 1, 1, none⟩ (.slice A2 (k + 1) c2)) := b5.trans (hest.below b5.size (by omega))
                  go_wp2_with fail
                  go_roundw
                  case rel => exact ⟨k + 1, A2, c2, es ++ [⟨px, Ay, nx, cy, lx⟩], by omega, by go_num, hbf, by omega, ha0, ha1, hr0, hr1, ho0, ho1, hr2, hr3, ho2, ho3, hC, Lib.hid (by rw [List.map_append, HD.out, List.take_add_one, List.getElem?_map, HX.out]; rfl), hD⟩
                  case measure => simp [intOf]; omega
        · have hge : nw = k := by omega
          subst hge
          clear hk hlt
          go_wp2
          refine bodyPost_ret (v := .agg #[.slice Cr nc gr, .slice Ar nw cr]) (by simp [results, Try.results60, go_sem, *]) rfl ?_
          exact copied HG.out (by rw [HD.out, List.take_of_length_le (by rw [List.length_map, HLW.out]; exact Nat.le_refl _)]) hD hC hb (g' := W.heap.size + 1) (by omega) (by omega)
set_option maxHeartbeats 4000000 in
set_option maxRecDepth 100000 in
theorem spec_l03Copy_any (Ac : Option Addr) (nc cc : Nat) (cs : List Ce) (Aw : Option Addr) (nw cw : Nat) (ws : List Wr) (W : World) (hrc : RdCell W W.heap.size Ac nc cs) (hrw : RdWrite W W.heap.size Aw nw ws) (hn : nc ≤ 1048576) (hn' : nw ≤ 1048576) (hl : lenOk cs ws) :
    Calls Try.prog 59 #[.agg #[.slice Ac nc cc, .slice Aw nw cw]] W (MadeDk (cs.map Ce.d) (ws.map Wr.d) W) := by
  obtain ⟨hl1, hl2⟩ := hl
  obtain ⟨ci0, hci0, hcz0, hcz1, hcz2⟩ := info_parts info_Cell
  obtain ⟨wi0, hwi0, hwz0, hwz1, hwz2⟩ := info_parts info_Write
  obtain ⟨u0, hu0, hv0, hv1, hv2⟩ := info_parts info_u8
  have hlc := hrc.len Ce.hf (by omega)
  have hlw := hrw.len Wr.hf (by omega)
  have HLC := Lib.hid hlc
  have HLW := Lib.hid hlw
  have HL1 := Lib.hid hl1
  have HL2 := Lib.hid hl2
  clear hl1 hl2 hlc hlw
  go_enter Try.func59, Try.ntmps59
  go_wp2
  have hb0 : Below W.heap.size W (((W.alloc (.cells #[.slice Ac nc cc, .slice Aw nw cw] 33)).alloc (.cells #[.slice none 0 0, .slice none 0 0] 33)).alloc (.cells #[.slice none 0 0, .slice none 0 0] 33)) := (((Below.refl _ _).alloc (Nat.le_refl _) _).alloc (by simp) _).alloc (by simp; omega) _
  have ha0 : (((W.alloc (.cells #[.slice Ac nc cc, .slice Aw nw cw] 33)).alloc (.cells #[.slice none 0 0, .slice none 0 0] 33)).alloc (.cells #[.slice none 0 0, .slice none 0 0] 33)).cell? ⟨W.heap.size, 0, none⟩ = some (.slice Ac nc cc) := keepA2 (var_cell _ _ _ _ _ rfl)
  have ha1 : (((W.alloc (.cells #[.slice Ac nc cc, .slice Aw nw cw] 33)).alloc (.cells #[.slice none 0 0, .slice none 0 0] 33)).alloc (.cells #[.slice none 0 0, .slice none 0 0] 33)).cell? ⟨W.heap.size, 1, none⟩ = some (.slice Aw nw cw) := keepA2 (var_cell _ _ _ _ _ rfl)
  have hr0 : (((W.alloc (.cells #[.slice Ac nc cc, .slice Aw nw cw] 33)).alloc (.cells #[.slice none 0 0, .slice none 0 0] 33)).alloc (.cells #[.slice none 0 0, .slice none 0 0] 33)).cell? ⟨W.heap.size + 1, 0, none⟩ = some (.slice none 0 0) := cellA (by simp) _
  have hr1 : (((W.alloc (.cells #[.slice Ac nc cc, .slice Aw nw cw] 33)).alloc (.cells #[.slice none 0 0, .slice none 0 0] 33)).alloc (.cells #[.slice none 0 0, .slice none 0 0] 33)).cell? ⟨W.heap.size + 1, 1, none⟩ = some (.slice none 0 0) := cellA (by simp) _
  have ho0 : (((W.alloc (.cells #[.slice Ac nc cc, .slice Aw nw cw] 33)).alloc (.cells #[.slice none 0 0, .slice none 0 0] 33)).alloc (.cells #[.slice none 0 0, .slice none 0 0] 33)).cell? ⟨W.heap.size + 1 + 1, 0, none⟩ = some (.slice none 0 0) := (by have := var_cell ((W.alloc (.cells #[.slice Ac nc cc, .slice Aw nw cw] 33)).alloc (.cells #[.slice none 0 0, .slice none 0 0] 33)) #[.slice none 0 0, .slice none 0 0] 33 0 _ rfl; simpa using this)
  have ho1 : (((W.alloc (.cells #[.slice Ac nc cc, .slice Aw nw cw] 33)).alloc (.cells #[.slice none 0 0, .slice none 0 0] 33)).alloc (.cells #[.slice none 0 0, .slice none 0 0] 33)).cell? ⟨W.heap.size + 1 + 1, 1, none⟩ = some (.slice none 0 0) := (by have := var_cell ((W.alloc (.cells #[.slice Ac nc cc, .slice Aw nw cw] 33)).alloc (.cells #[.slice none 0 0, .slice none 0 0] 33)) #[.slice none 0 0, .slice none 0 0] 33 1 _ rfl; simpa using this)
  have fr0 : ∀ o, (((W.alloc (.cells #[.slice Ac nc cc, .slice Aw nw cw] 33)).alloc (.cells #[.slice none 0 0, .slice none 0 0] 33)).alloc (.cells #[.slice none 0 0, .slice none 0 0] 33)).frozen? ⟨W.heap.size + 1, o, none⟩ = false := fun o => by simp [go_sem]
  have fo0 : ∀ o, (((W.alloc (.cells #[.slice Ac nc cc, .slice Aw nw cw] 33)).alloc (.cells #[.slice none 0 0, .slice none 0 0] 33)).alloc (.cells #[.slice none 0 0, .slice none 0 0] 33)).frozen? ⟨W.heap.size + 1 + 1, o, none⟩ = false := fun o => by simp [go_sem]
  have hs0 : (((W.alloc (.cells #[.slice Ac nc cc, .slice Aw nw cw] 33)).alloc (.cells #[.slice none 0 0, .slice none 0 0] 33)).alloc (.cells #[.slice none 0 0, .slice none 0 0] 33)).heap.size = W.heap.size + 1 + 1 + 1 := (by simp)
  have hr2 := fr0 0
  have hr3 := fr0 1
  have ho2 := fo0 0
  have ho3 := fo0 1
  clear fr0 fo0
  generalize (((W.alloc (.cells #[.slice Ac nc cc, .slice Aw nw cw] 33)).alloc (.cells #[.slice none 0 0, .slice none 0 0] 33)).alloc (.cells #[.slice none 0 0, .slice none 0 0] 33)) = w0 at *
  have HB0 : True := trivial
  go_loopw [12] (fun vi wr => ∃ (k : Nat) (Ar : Option Addr) (cr : Nat) (es : List Ce), k ≤ nc ∧ vi = .int .i64 (k : Int) ∧ Below W.heap.size W wr ∧ W.heap.size + 1 + 1 + 1 ≤ wr.heap.size ∧ wr.cell? ⟨W.heap.size, 0, none⟩ = some (.slice Ac nc cc) ∧ wr.cell? ⟨W.heap.size, 1, none⟩ = some (.slice Aw nw cw) ∧ wr.cell? ⟨W.heap.size + 1, 0, none⟩ = some (.slice none 0 0) ∧ wr.cell? ⟨W.heap.size + 1, 1, none⟩ = some (.slice none 0 0) ∧ wr.cell? ⟨W.heap.size + 1 + 1, 0, none⟩ = some (.slice Ar k cr) ∧ wr.cell? ⟨W.heap.size + 1 + 1, 1, none⟩ = some (.slice none 0 0) ∧ wr.frozen? ⟨W.heap.size + 1, 0, none⟩ = false ∧ wr.frozen? ⟨W.heap.size + 1, 1, none⟩ = false ∧ wr.frozen? ⟨W.heap.size + 1 + 1, 0, none⟩ = false ∧ wr.frozen? ⟨W.heap.size + 1 + 1, 1, none⟩ = false ∧ OwnCell wr (W.heap.size + 1 + 1 + 1) wr.heap.size Ar k cr es ∧ Hid (es.map Ce.d = (cs.map Ce.d).take k)) (fun vi _ => nc - (intOf vi).toNat)
  case atStart => exact ⟨0, none, 0, [], Nat.zero_le _, rfl, hb0, Nat.le_of_eq hs0.symm, ha0, ha1, hr0, hr1, ho0, ho1, hr2, hr3, ho2, ho3, OwnR.nil (Nat.le_of_eq hs0.symm) (Nat.le_refl _), Lib.hid (by simp)⟩
  case round =>
    clear HB0
    obtain ⟨k, Ar, cr, es, hk, rfl, hb, hlo, ha0, ha1, hr0, hr1, ho0, ho1, hr2, hr3, ho2, ho3, hC, HD⟩ := hrel
    by_cases hlt : k < nc
    · skip
      obtain ⟨b, off, ⟨Ax, nx, cx, lx⟩, rfl, hbB, hx, hcell, hi, hcap⟩ := (hrc.below hb (Nat.le_refl _)).elem Ce.hf (by omega) hlt
      have cc0 : wr.cell? ⟨b, off + k, none⟩ = some (.slice Ax nx cx) := by have := hcell 0 _ rfl; simpa [Nat.mul_one, Nat.add_assoc] using this
      have HX := Lib.hid hx
      have hnx : nx ≤ 1099511627776 := HL1.out _ (List.mem_of_getElem? hx)
      replace hi : Rd wr W.heap.size 1 Ax nx (Lib.byteCells lx) := hi
      clear hcell hcap hx
      have hlo1 := hC.lohi
      go_wp2_with fail
      have he1 : Eff 0 0 wr (wr.alloc (.cells #[.slice Ax nx cx] 76)) := Eff.alloc _ _
      have hs1 : (wr.alloc (.cells #[.slice Ax nx cx] 76)).heap.size = wr.heap.size + 1 := (by simp)
      have x_0 : (wr.alloc (.cells #[.slice Ax nx cx] 76)).cell? ⟨wr.heap.size, 0, none⟩ = some (.slice Ax nx cx) := var_cell _ _ _ _ _ rfl
      generalize (wr.alloc (.cells #[.slice Ax nx cx] 76)) = v1 at *
      have hz1 : wr.heap.size ≤ v1.heap.size := he1.size
      have b1 : Below W.heap.size W v1 := hb.trans (he1.below hb.size (by omega))
      replace hi := (hi.below (he1.below (B := W.heap.size) (by omega) (by omega)) (Nat.le_refl _))
      replace hC := hC.keep he1 (by omega)
      replace hr2 := (he1.frozen hr0 (by simp only; omega)).trans hr2
      replace hr3 := (he1.frozen hr1 (by simp only; omega)).trans hr3
      replace ho2 := (he1.frozen ho0 (by simp only; omega)).trans ho2
      replace ho3 := (he1.frozen ho1 (by simp only; omega)).trans ho3
      replace ha0 := he1.cell ha0 (by simp only; omega)
      replace ha1 := he1.cell ha1 (by simp only; omega)
      replace hr0 := he1.cell hr0 (by simp only; omega)
      replace hr1 := he1.cell hr1 (by simp only; omega)
      replace ho0 := he1.cell ho0 (by simp only; omega)
      replace ho1 := he1.cell ho1 (by simp only; omega)
      have x_l : wr.heap.size < v1.heap.size := (by omega)
      clear cc0
      go_wp2_with fail
      have he2 : Eff 0 0 v1 v1.drew := (Eff.refl _ _ _).drew
      have hz2 : v1.heap.size ≤ v1.drew.heap.size := he2.size
      have b2 : Below W.heap.size W v1.drew := b1.trans (he2.below b1.size (by omega))
      replace hi := (hi.below (he2.below (B := W.heap.size) (by omega) (by omega)) (Nat.le_refl _))
      replace hC := hC.keep he2 (by omega)
      replace hr2 := (he2.frozen hr0 (by simp only; omega)).trans hr2
      replace hr3 := (he2.frozen hr1 (by simp only; omega)).trans hr3
      replace ho2 := (he2.frozen ho0 (by simp only; omega)).trans ho2
      replace ho3 := (he2.frozen ho1 (by simp only; omega)).trans ho3
      replace ha0 := he2.cell ha0 (by simp only; omega)
      replace ha1 := he2.cell ha1 (by simp only; omega)
      replace hr0 := he2.cell hr0 (by simp only; omega)
      replace hr1 := he2.cell hr1 (by simp only; omega)
      replace ho0 := he2.cell ho0 (by simp only; omega)
      replace ho1 := he2.cell ho1 (by simp only; omega)
      replace x_0 := he2.cell x_0 (by simp only; omega)
      replace x_l := Nat.lt_of_lt_of_le x_l hz2
      refine wp_region_held_drew (S := fun w' => w'.cell? ⟨wr.heap.size, 0, none⟩ = some (.slice Ax nx cx)) (by kernel_rfl) ?rg49 (fun hHeld => ?_)
      case rg49 => ((try dsimp only); (go_split_ands; (repeat' apply And.intro) <;> (first | assumption | exact set2_other (by assumption) _ (by omega))))
      generalize v1.drew = v0 at *
      obtain ⟨ta, tb, htt, hta, htab, htb, htq⟩ := Own.tight hC.row hC.lohi
      have HTQ := Lib.hid htq
      clear htq
      refine wpAnyH_take (i := 0) (oi := { dst := some 16, op := Go.Op.fieldAddr 33 (Go.Operand.tmp 3) 0, type := 0, pos := "l03_disk.go:102", after := #[], guard := none }) (v := ?v50) rfl (by kernel_rfl) (by kernel_rfl) (by kernel_rfl) (fun _ _ _ h => h) (Or.inl ⟨by rfl, ?y50⟩) (by assumption) ?_
      case y50 => (intro w hSw; (try dsimp only at hSw); go_simp; first | done | with_reducible rfl)
      try simp only [Act.put, List.setIfInBounds_toArray, List.set_cons_zero, List.set_cons_succ]
      refine wpAnyH_take (i := 3) (oi := { dst := some 19, op := Go.Op.fieldAddr 76 (Go.Operand.tmp 5) 0, type := 0, pos := "l03_disk.go:102", after := #[], guard := none }) (v := ?v51) rfl (by kernel_rfl) (by kernel_rfl) (by kernel_rfl) (fun _ _ _ h => h) (Or.inl ⟨by rfl, ?y51⟩) (by assumption) ?_
      case y51 => (intro w hSw; (try dsimp only at hSw); go_simp; first | done | with_reducible rfl)
      try simp only [Act.put, List.setIfInBounds_toArray, List.set_cons_zero, List.set_cons_succ]
      refine wpAnyH_take (i := 4) (oi := { dst := some 20, op := Go.Op.load 27 (Go.Operand.tmp 19), type := 27, pos := "l03_disk.go:102", after := #[{ on := 3, ground := Go.Ground.data }], guard := none }) (v := ?v52) rfl (by kernel_rfl) (by kernel_rfl) (by kernel_rfl) (fun _ _ _ h => h) (Or.inl ⟨by rfl, ?y52⟩) (by assumption) ?_
      case y52 => (intro w hSw; (try dsimp only at hSw); go_simp; first | done | with_reducible rfl)
      try simp only [Act.put, List.setIfInBounds_toArray, List.set_cons_zero, List.set_cons_succ]
      refine wpAnyH_ready (rs := [1, 2]) (by kernel_rfl) (by simp) ?_
      refine AllReadyH.cons (o := { dst := some 17, op := Go.Op.load 30 (Go.Operand.tmp 16), type := 30, pos := "l03_disk.go:102", after := #[{ on := 0, ground := Go.Ground.data }], guard := none }) rfl (fun K hK => ?k53) ?m53
      case k53 =>
        go_simp
        refine hK.out _ _ ?s53 (fun hHeld => ?_)
        case s53 => ((try dsimp only); (go_split_ands; (repeat' apply And.intro) <;> (first | assumption | exact set2_other (by assumption) _ (by omega))))
        clear hK K
        try simp only [Act.put, List.setIfInBounds_toArray, List.set_cons_zero, List.set_cons_succ]
        refine wpAnyH_ready (rs := [2]) (by kernel_rfl) (by simp) ?_
        refine AllReadyH.cons (o := { dst := some 18, op := Go.Op.buildSlice 27 0 #[], type := 27, pos := "l03_disk.go:102", after := #[], guard := none }) rfl (fun K hK => ?k54) AllReadyH.nil
        go_simp
        have he3 : Eff 0 0 v0 (v0.alloc (.cells #[] 5)) := Eff.alloc _ _
        have hs3 : (v0.alloc (.cells #[] 5)).heap.size = v0.heap.size + 1 := (by simp)
        have em := new_empty v0 5 1
        generalize (v0.alloc (.cells #[] 5)) = v3 at *
        have hz3 : v0.heap.size ≤ v3.heap.size := he3.size
        have b3 : Below W.heap.size W v3 := b2.trans (he3.below b2.size (by omega))
        replace hi := (hi.below (he3.below (B := W.heap.size) (by omega) (by omega)) (Nat.le_refl _))
        replace htt := htt.keep he3 (by omega)
        replace hr2 := (he3.frozen hr0 (by simp only; omega)).trans hr2
        replace hr3 := (he3.frozen hr1 (by simp only; omega)).trans hr3
        replace ho2 := (he3.frozen ho0 (by simp only; omega)).trans ho2
        replace ho3 := (he3.frozen ho1 (by simp only; omega)).trans ho3
        replace ha0 := he3.cell ha0 (by simp only; omega)
        replace ha1 := he3.cell ha1 (by simp only; omega)
        replace hr0 := he3.cell hr0 (by simp only; omega)
        replace hr1 := he3.cell hr1 (by simp only; omega)
        replace ho0 := he3.cell ho0 (by simp only; omega)
        replace ho1 := he3.cell ho1 (by simp only; omega)
        replace x_0 := he3.cell x_0 (by simp only; omega)
        replace x_l := Nat.lt_of_lt_of_le x_l hz3
        refine hK.out _ _ ?s54 (fun hHeld => ?_)
        case s54 => ((try dsimp only); (go_split_ands; (repeat' apply And.intro) <;> (first | assumption | exact set2_other (by assumption) _ (by omega))))
        clear hK K
        try simp only [Act.put, List.setIfInBounds_toArray, List.set_cons_zero, List.set_cons_succ]
        refine wpAnyH_ready (rs := [5]) (by kernel_rfl) (by simp) ?_
        refine AllReadyH.cons (o := { dst := some 21, op := Go.Op.call { callee := Go.Callee.builtin Go.Builtin.append, args := #[Go.Operand.tmp 18, Go.Operand.tmp 20], argTypes := #[27, 27] }, type := 27, pos := "l03_disk.go:102", after := #[{ on := 2, ground := Go.Ground.data }, { on := 4, ground := Go.Ground.data }], guard := none }) rfl (fun K hK => ?k55) AllReadyH.nil
        refine step_app _ (by rfl) _ _ 27 (by rfl) 5 u0 (.int .u8 0) 1 1 Try.underlying27 hu0 hv0 hv1 hv2 rfl (by omega) (by rfl) em cx (by rfl) hi (byteCells_one' _) (by unfold maxLen; omega) (by omega) (by omega) ?_
        intro Ay cy v4 y hE _
        simp only [Nat.zero_add, List.nil_append] at y ⊢
        have he4 : Eff v0.heap.size (v0.heap.size + 1) v3 v4 := hE
        have hz4 : v3.heap.size ≤ v4.heap.size := he4.size
        have b4 : Below W.heap.size W v4 := b3.trans (he4.below b3.size (by omega))
        replace hi := (hi.below (he4.below (B := W.heap.size) (by omega) (by omega)) (Nat.le_refl _))
        replace htt := htt.keep he4 (by omega)
        replace hr2 := (he4.frozen hr0 (by simp only; omega)).trans hr2
        replace hr3 := (he4.frozen hr1 (by simp only; omega)).trans hr3
        replace ho2 := (he4.frozen ho0 (by simp only; omega)).trans ho2
        replace ho3 := (he4.frozen ho1 (by simp only; omega)).trans ho3
        replace ha0 := he4.cell ha0 (by simp only; omega)
        replace ha1 := he4.cell ha1 (by simp only; omega)
        replace hr0 := he4.cell hr0 (by simp only; omega)
        replace hr1 := he4.cell hr1 (by simp only; omega)
        replace ho0 := he4.cell ho0 (by simp only; omega)
        replace ho1 := he4.cell ho1 (by simp only; omega)
        replace x_0 := he4.cell x_0 (by simp only; omega)
        replace x_l := Nat.lt_of_lt_of_le x_l hz4
        have y1 := y
        have hey : Eff 0 0 v0 v4 := Eff.join he3 he4 (Nat.le_refl _)
        clear hE em
        refine hK.out _ _ ?s55 (fun hHeld => ?_)
        case s55 => ((try dsimp only); (go_split_ands; (repeat' apply And.intro) <;> (first | assumption | exact set2_other (by assumption) _ (by omega))))
        clear hK K
        try simp only [Act.put, List.setIfInBounds_toArray, List.set_cons_zero, List.set_cons_succ]
        refine wpAnyH_take (i := 6) (oi := { dst := some 22, op := Go.Op.build 76 #[(0, Go.Operand.tmp 21)], type := 76, pos := "l03_disk.go:102", after := #[{ on := 5, ground := Go.Ground.data }], guard := none }) (v := ?v56) rfl (by kernel_rfl) (by kernel_rfl) (by kernel_rfl) (fun _ _ _ h => h) (Or.inl ⟨by rfl, ?y56⟩) (by assumption) ?_
        case y56 => (intro w hSw; (try dsimp only at hSw); go_simp; first | done | with_reducible rfl)
        try simp only [Act.put, List.setIfInBounds_toArray, List.set_cons_zero, List.set_cons_succ]
        refine wpAnyH_ready (rs := [7]) (by kernel_rfl) (by simp) ?_
        refine AllReadyH.cons (o := { dst := some 23, op := Go.Op.buildSlice 30 1 #[(0, Go.Operand.tmp 22)], type := 30, pos := "l03_disk.go:102", after := #[{ on := 6, ground := Go.Ground.data }], guard := none }) rfl (fun K hK => ?k57) AllReadyH.nil
        go_simp
        have he5 : Eff 0 0 v4 (v4.alloc (.cells #[.slice Ay nx cy] 76)) := Eff.alloc _ _
        have hs5 : (v4.alloc (.cells #[.slice Ay nx cy] 76)).heap.size = v4.heap.size + 1 := (by simp)
        have tr := rd_row v4 [.slice Ay nx cy] 76
        generalize (v4.alloc (.cells #[.slice Ay nx cy] 76)) = v5 at *
        have hz5 : v4.heap.size ≤ v5.heap.size := he5.size
        have b5 : Below W.heap.size W v5 := b4.trans (he5.below b4.size (by omega))
        replace hi := (hi.below (he5.below (B := W.heap.size) (by omega) (by omega)) (Nat.le_refl _))
        replace htt := htt.keep he5 (by omega)
        replace y := y.keep he5 (by omega)
        replace hr2 := (he5.frozen hr0 (by simp only; omega)).trans hr2
        replace hr3 := (he5.frozen hr1 (by simp only; omega)).trans hr3
        replace ho2 := (he5.frozen ho0 (by simp only; omega)).trans ho2
        replace ho3 := (he5.frozen ho1 (by simp only; omega)).trans ho3
        replace ha0 := he5.cell ha0 (by simp only; omega)
        replace ha1 := he5.cell ha1 (by simp only; omega)
        replace hr0 := he5.cell hr0 (by simp only; omega)
        replace hr1 := he5.cell hr1 (by simp only; omega)
        replace ho0 := he5.cell ho0 (by simp only; omega)
        replace ho1 := he5.cell ho1 (by simp only; omega)
        replace x_0 := he5.cell x_0 (by simp only; omega)
        replace x_l := Nat.lt_of_lt_of_le x_l hz5
        have heb : Eff 0 0 v4 v5 := he5
        refine hK.out _ _ ?s57 (fun hHeld => ?_)
        case s57 => ((try dsimp only); (go_split_ands; (repeat' apply And.intro) <;> (first | assumption | exact set2_other (by assumption) _ (by omega))))
        clear hK K
        try simp only [Act.put, List.setIfInBounds_toArray, List.set_cons_zero, List.set_cons_succ]
        refine wpAnyH_ready (rs := [8]) (by kernel_rfl) (by simp) ?_
        refine AllReadyH.cons (o := { dst := some 24, op := Go.Op.call { callee := Go.Callee.builtin Go.Builtin.append, args := #[Go.Operand.tmp 17, Go.Operand.tmp 23], argTypes := #[30, 30] }, type := 30, pos := "l03_disk.go:102", after := #[{ on := 1, ground := Go.Ground.data }, { on := 7, ground := Go.Ground.data }, { on := 5, ground := Go.Ground.chain }], guard := none }) rfl (fun K hK => ?k58) AllReadyH.nil
        refine step_app _ (by rfl) _ _ 30 (by rfl) 76 ci0 (.agg #[.slice none 0 0]) 1 24 Try.underlying30 hci0 hcz0 hcz1 hcz2 rfl (by omega) (by rfl) htt 1 (by rfl) tr (fun u hu => oneR hu rfl) (by unfold maxLen; omega) (by omega) (by omega) ?_
        intro A2 c2 v6 hO hE hK2
        have he6 : Eff ta tb v5 v6 := hE
        have hz6 : v5.heap.size ≤ v6.heap.size := he6.size
        have b6 : Below W.heap.size W v6 := b5.trans (he6.below b5.size (by omega))
        replace hi := (hi.below (he6.below (B := W.heap.size) (by omega) (by omega)) (Nat.le_refl _))
        replace y := y.keep he6 (by omega)
        replace hr2 := (he6.frozen hr0 (by simp only; omega)).trans hr2
        replace hr3 := (he6.frozen hr1 (by simp only; omega)).trans hr3
        replace ho2 := (he6.frozen ho0 (by simp only; omega)).trans ho2
        replace ho3 := (he6.frozen ho1 (by simp only; omega)).trans ho3
        replace ha0 := he6.cell ha0 (by simp only; omega)
        replace ha1 := he6.cell ha1 (by simp only; omega)
        replace hr0 := he6.cell hr0 (by simp only; omega)
        replace hr1 := he6.cell hr1 (by simp only; omega)
        replace ho0 := he6.cell ho0 (by simp only; omega)
        replace ho1 := he6.cell ho1 (by simp only; omega)
        replace x_0 := he6.cell x_0 (by simp only; omega)
        replace x_l := Nat.lt_of_lt_of_le x_l hz6
        replace hC := hC.snoc (y := ⟨Ay, nx, cy, lx⟩) hey y1 hta HTQ.out heb hO hE hK2
        clear hE hO hK2 tr htt y y1 hey heb
        refine hK.out _ _ ?s58 (fun hHeld => ?_)
        case s58 => ((try dsimp only); (go_split_ands; (repeat' apply And.intro) <;> (first | assumption | exact set2_other (by assumption) _ (by omega))))
        clear hK K
        try simp only [Act.put, List.setIfInBounds_toArray, List.set_cons_zero, List.set_cons_succ]
        refine wpAnyH_take (i := 9) (oi := { dst := some 25, op := Go.Op.fieldAddr 33 (Go.Operand.tmp 3) 0, type := 0, pos := "l03_disk.go:102", after := #[{ on := 0, ground := Go.Ground.phase }, { on := 1, ground := Go.Ground.phase }, { on := 2, ground := Go.Ground.phase }, { on := 3, ground := Go.Ground.phase }, { on := 4, ground := Go.Ground.phase }, { on := 5, ground := Go.Ground.phase }, { on := 6, ground := Go.Ground.phase }, { on := 7, ground := Go.Ground.phase }, { on := 8, ground := Go.Ground.phase }], guard := none }) (v := ?v59) rfl (by kernel_rfl) (by kernel_rfl) (by kernel_rfl) (fun _ _ _ h => h) (Or.inl ⟨by rfl, ?y59⟩) (by assumption) ?_
        case y59 => (intro w hSw; (try dsimp only at hSw); go_simp; first | done | with_reducible rfl)
        try simp only [Act.put, List.setIfInBounds_toArray, List.set_cons_zero, List.set_cons_succ]
        refine wpAnyH_ready (rs := [10]) (by kernel_rfl) (by simp) ?_
        refine AllReadyH.cons (o := { dst := none, op := Go.Op.store 30 (Go.Operand.tmp 25) (Go.Operand.tmp 24), type := 0, pos := "l03_disk.go:102", after := #[{ on := 9, ground := Go.Ground.data }, { on := 8, ground := Go.Ground.data }, { on := 8, ground := Go.Ground.chain }, { on := 0, ground := Go.Ground.phase }, { on := 1, ground := Go.Ground.phase }, { on := 2, ground := Go.Ground.phase }, { on := 3, ground := Go.Ground.phase }, { on := 4, ground := Go.Ground.phase }, { on := 5, ground := Go.Ground.phase }, { on := 6, ground := Go.Ground.phase }, { on := 7, ground := Go.Ground.phase }, { on := 8, ground := Go.Ground.phase }], guard := none }) rfl (fun K hK => ?k60) AllReadyH.nil
        go_simp
        refine hK.out _ _ ?s60 (fun hHeld => ?_)
        case s60 => ((try dsimp only); (go_split_ands; (repeat' apply And.intro) <;> (first | assumption | exact set2_other (by assumption) _ (by omega))))
        clear hK K
        try simp only [Act.put]
        refine wpAnyH_done (by kernel_rfl) ?_ _
        have hest : Eff (W.heap.size + 1 + 1) (W.heap.size + 1 + 1 + 1) v6 (v6.setCell ⟨W.heap.size + 1 + 1, 0, none⟩ (.slice A2 (k + 1) c2)) := eff_set _ _ _ _
        have hsst : (v6.setCell ⟨W.heap.size + 1 + 1, 0, none⟩ (.slice A2 (k + 1) c2)).heap.size = v6.heap.size := (by simp)
        replace hC := (hC.keep hest (by omega)).wide (Nat.le_refl _) (Nat.le_of_eq hsst.symm) (Nat.le_refl _)
        replace ha0 := hest.cell ha0 (by simp only; omega)
        replace ha1 := hest.cell ha1 (by simp only; omega)
        replace hr0 := hest.cell hr0 (by simp only; omega)
        replace hr1 := hest.cell hr1 (by simp only; omega)
        replace ho0 := set_same ho0 (.slice A2 (k + 1) c2)
        replace ho1 := set_other (b' := W.heap.size + 1 + 1) (o' := 0) ho1 (.slice A2 (k + 1) c2) (.inr (by omega))
        replace hr2 := set_frozen (p := ⟨W.heap.size + 1 + 1, 0, none⟩) hr2 (.slice A2 (k + 1) c2)
        replace hr3 := set_frozen (p := ⟨W.heap.size + 1 + 1, 0, none⟩) hr3 (.slice A2 (k + 1) c2)
        replace ho2 := set_frozen (p := ⟨W.heap.size + 1 + 1, 0, none⟩) ho2 (.slice A2 (k + 1) c2)
        replace ho3 := set_frozen (p := ⟨W.heap.size + 1 + 1, 0, none⟩) ho3 (.slice A2 (k + 1) c2)
        have hbf : Below W.heap.size W (v6.setCell ⟨W.heap.size + 1 + 1, 0, none⟩ (.slice A2 (k + 1) c2)) := b6.trans (hest.below b6.size (by omega))
        go_wp2_with fail
        go_roundw
        case rel => exact ⟨k + 1, A2, c2, es ++ [⟨Ay, nx, cy, lx⟩], by omega, by go_num, hbf, by omega, ha0, ha1, hr0, hr1, ho0, ho1, hr2, hr3, ho2, ho3, hC, Lib.hid (by rw [List.map_append, HD.out, List.take_add_one, List.getElem?_map, HX.out]; rfl)⟩
        case measure => simp [intOf]; omega
      case m53 =>
        refine AllReadyH.cons (o := { dst := some 18, op := Go.Op.buildSlice 27 0 #[], type := 27, pos := "l03_disk.go:102", after := #[], guard := none }) rfl (fun K hK => ?k61) AllReadyH.nil
        case k61 =>
          go_simp
          have he3 : Eff 0 0 v0 (v0.alloc (.cells #[] 5)) := Eff.alloc _ _
          have hs3 : (v0.alloc (.cells #[] 5)).heap.size = v0.heap.size + 1 := (by simp)
          have em := new_empty v0 5 1
          generalize (v0.alloc (.cells #[] 5)) = v3 at *
          have hz3 : v0.heap.size ≤ v3.heap.size := he3.size
          have b3 : Below W.heap.size W v3 := b2.trans (he3.below b2.size (by omega))
          replace hi := (hi.below (he3.below (B := W.heap.size) (by omega) (by omega)) (Nat.le_refl _))
          replace htt := htt.keep he3 (by omega)
          replace hr2 := (he3.frozen hr0 (by simp only; omega)).trans hr2
          replace hr3 := (he3.frozen hr1 (by simp only; omega)).trans hr3
          replace ho2 := (he3.frozen ho0 (by simp only; omega)).trans ho2
          replace ho3 := (he3.frozen ho1 (by simp only; omega)).trans ho3
          replace ha0 := he3.cell ha0 (by simp only; omega)
          replace ha1 := he3.cell ha1 (by simp only; omega)
          replace hr0 := he3.cell hr0 (by simp only; omega)
          replace hr1 := he3.cell hr1 (by simp only; omega)
          replace ho0 := he3.cell ho0 (by simp only; omega)
          replace ho1 := he3.cell ho1 (by simp only; omega)
          replace x_0 := he3.cell x_0 (by simp only; omega)
          replace x_l := Nat.lt_of_lt_of_le x_l hz3
          refine hK.out _ _ ?s61 (fun hHeld => ?_)
          case s61 => ((try dsimp only); (go_split_ands; (repeat' apply And.intro) <;> (first | assumption | exact set2_other (by assumption) _ (by omega))))
          clear hK K
          try simp only [Act.put, List.setIfInBounds_toArray, List.set_cons_zero, List.set_cons_succ]
          refine wpAnyH_ready (rs := [1, 5]) (by kernel_rfl) (by simp) ?_
          refine AllReadyH.cons (o := { dst := some 17, op := Go.Op.load 30 (Go.Operand.tmp 16), type := 30, pos := "l03_disk.go:102", after := #[{ on := 0, ground := Go.Ground.data }], guard := none }) rfl (fun K hK => ?k62) ?m62
          case k62 =>
            go_simp
            refine hK.out _ _ ?s62 (fun hHeld => ?_)
            case s62 => ((try dsimp only); (go_split_ands; (repeat' apply And.intro) <;> (first | assumption | exact set2_other (by assumption) _ (by omega))))
            clear hK K
            try simp only [Act.put, List.setIfInBounds_toArray, List.set_cons_zero, List.set_cons_succ]
            refine wpAnyH_ready (rs := [5]) (by kernel_rfl) (by simp) ?_
            refine AllReadyH.cons (o := { dst := some 21, op := Go.Op.call { callee := Go.Callee.builtin Go.Builtin.append, args := #[Go.Operand.tmp 18, Go.Operand.tmp 20], argTypes := #[27, 27] }, type := 27, pos := "l03_disk.go:102", after := #[{ on := 2, ground := Go.Ground.data }, { on := 4, ground := Go.Ground.data }], guard := none }) rfl (fun K hK => ?k63) AllReadyH.nil
            refine step_app _ (by rfl) _ _ 27 (by rfl) 5 u0 (.int .u8 0) 1 1 Try.underlying27 hu0 hv0 hv1 hv2 rfl (by omega) (by rfl) em cx (by rfl) hi (byteCells_one' _) (by unfold maxLen; omega) (by omega) (by omega) ?_
            intro Ay cy v4 y hE _
            simp only [Nat.zero_add, List.nil_append] at y ⊢
            have he4 : Eff v0.heap.size (v0.heap.size + 1) v3 v4 := hE
            have hz4 : v3.heap.size ≤ v4.heap.size := he4.size
            have b4 : Below W.heap.size W v4 := b3.trans (he4.below b3.size (by omega))
            replace hi := (hi.below (he4.below (B := W.heap.size) (by omega) (by omega)) (Nat.le_refl _))
            replace htt := htt.keep he4 (by omega)
            replace hr2 := (he4.frozen hr0 (by simp only; omega)).trans hr2
            replace hr3 := (he4.frozen hr1 (by simp only; omega)).trans hr3
            replace ho2 := (he4.frozen ho0 (by simp only; omega)).trans ho2
            replace ho3 := (he4.frozen ho1 (by simp only; omega)).trans ho3
            replace ha0 := he4.cell ha0 (by simp only; omega)
            replace ha1 := he4.cell ha1 (by simp only; omega)
            replace hr0 := he4.cell hr0 (by simp only; omega)
            replace hr1 := he4.cell hr1 (by simp only; omega)
            replace ho0 := he4.cell ho0 (by simp only; omega)
            replace ho1 := he4.cell ho1 (by simp only; omega)
            replace x_0 := he4.cell x_0 (by simp only; omega)
            replace x_l := Nat.lt_of_lt_of_le x_l hz4
            have y1 := y
            have hey : Eff 0 0 v0 v4 := Eff.join he3 he4 (Nat.le_refl _)
            clear hE em
            refine hK.out _ _ ?s63 (fun hHeld => ?_)
            case s63 => ((try dsimp only); (go_split_ands; (repeat' apply And.intro) <;> (first | assumption | exact set2_other (by assumption) _ (by omega))))
            clear hK K
            try simp only [Act.put, List.setIfInBounds_toArray, List.set_cons_zero, List.set_cons_succ]
            refine wpAnyH_take (i := 6) (oi := { dst := some 22, op := Go.Op.build 76 #[(0, Go.Operand.tmp 21)], type := 76, pos := "l03_disk.go:102", after := #[{ on := 5, ground := Go.Ground.data }], guard := none }) (v := ?v64) rfl (by kernel_rfl) (by kernel_rfl) (by kernel_rfl) (fun _ _ _ h => h) (Or.inl ⟨by rfl, ?y64⟩) (by assumption) ?_
            case y64 => (intro w hSw; (try dsimp only at hSw); go_simp; first | done | with_reducible rfl)
            try simp only [Act.put, List.setIfInBounds_toArray, List.set_cons_zero, List.set_cons_succ]
            refine wpAnyH_ready (rs := [7]) (by kernel_rfl) (by simp) ?_
            refine AllReadyH.cons (o := { dst := some 23, op := Go.Op.buildSlice 30 1 #[(0, Go.Operand.tmp 22)], type := 30, pos := "l03_disk.go:102", after := #[{ on := 6, ground := Go.Ground.data }], guard := none }) rfl (fun K hK => ?k65) AllReadyH.nil
            go_simp
            have he5 : Eff 0 0 v4 (v4.alloc (.cells #[.slice Ay nx cy] 76)) := Eff.alloc _ _
            have hs5 : (v4.alloc (.cells #[.slice Ay nx cy] 76)).heap.size = v4.heap.size + 1 := (by simp)
            have tr := rd_row v4 [.slice Ay nx cy] 76
            generalize (v4.alloc (.cells #[.slice Ay nx cy] 76)) = v5 at *
            have hz5 : v4.heap.size ≤ v5.heap.size := he5.size
            have b5 : Below W.heap.size W v5 := b4.trans (he5.below b4.size (by omega))
            replace hi := (hi.below (he5.below (B := W.heap.size) (by omega) (by omega)) (Nat.le_refl _))
            replace htt := htt.keep he5 (by omega)
            replace y := y.keep he5 (by omega)
            replace hr2 := (he5.frozen hr0 (by simp only; omega)).trans hr2
            replace hr3 := (he5.frozen hr1 (by simp only; omega)).trans hr3
            replace ho2 := (he5.frozen ho0 (by simp only; omega)).trans ho2
            replace ho3 := (he5.frozen ho1 (by simp only; omega)).trans ho3
            replace ha0 := he5.cell ha0 (by simp only; omega)
            replace ha1 := he5.cell ha1 (by simp only; omega)
            replace hr0 := he5.cell hr0 (by simp only; omega)
            replace hr1 := he5.cell hr1 (by simp only; omega)
            replace ho0 := he5.cell ho0 (by simp only; omega)
            replace ho1 := he5.cell ho1 (by simp only; omega)
            replace x_0 := he5.cell x_0 (by simp only; omega)
            replace x_l := Nat.lt_of_lt_of_le x_l hz5
            have heb : Eff 0 0 v4 v5 := he5
            refine hK.out _ _ ?s65 (fun hHeld => ?_)
            case s65 => ((try dsimp only); (go_split_ands; (repeat' apply And.intro) <;> (first | assumption | exact set2_other (by assumption) _ (by omega))))
            clear hK K
            try simp only [Act.put, List.setIfInBounds_toArray, List.set_cons_zero, List.set_cons_succ]
            refine wpAnyH_ready (rs := [8]) (by kernel_rfl) (by simp) ?_
            refine AllReadyH.cons (o := { dst := some 24, op := Go.Op.call { callee := Go.Callee.builtin Go.Builtin.append, args := #[Go.Operand.tmp 17, Go.Operand.tmp 23], argTypes := #[30, 30] }, type := 30, pos := "l03_disk.go:102", after := #[{ on := 1, ground := Go.Ground.data }, { on := 7, ground := Go.Ground.data }, { on := 5, ground := Go.Ground.chain }], guard := none }) rfl (fun K hK => ?k66) AllReadyH.nil
            refine step_app _ (by rfl) _ _ 30 (by rfl) 76 ci0 (.agg #[.slice none 0 0]) 1 24 Try.underlying30 hci0 hcz0 hcz1 hcz2 rfl (by omega) (by rfl) htt 1 (by rfl) tr (fun u hu => oneR hu rfl) (by unfold maxLen; omega) (by omega) (by omega) ?_
            intro A2 c2 v6 hO hE hK2
            have he6 : Eff ta tb v5 v6 := hE
            have hz6 : v5.heap.size ≤ v6.heap.size := he6.size
            have b6 : Below W.heap.size W v6 := b5.trans (he6.below b5.size (by omega))
            replace hi := (hi.below (he6.below (B := W.heap.size) (by omega) (by omega)) (Nat.le_refl _))
            replace y := y.keep he6 (by omega)
            replace hr2 := (he6.frozen hr0 (by simp only; omega)).trans hr2
            replace hr3 := (he6.frozen hr1 (by simp only; omega)).trans hr3
            replace ho2 := (he6.frozen ho0 (by simp only; omega)).trans ho2
            replace ho3 := (he6.frozen ho1 (by simp only; omega)).trans ho3
            replace ha0 := he6.cell ha0 (by simp only; omega)
            replace ha1 := he6.cell ha1 (by simp only; omega)
            replace hr0 := he6.cell hr0 (by simp only; omega)
            replace hr1 := he6.cell hr1 (by simp only; omega)
            replace ho0 := he6.cell ho0 (by simp only; omega)
            replace ho1 := he6.cell ho1 (by simp only; omega)
            replace x_0 := he6.cell x_0 (by simp only; omega)
            replace x_l := Nat.lt_of_lt_of_le x_l hz6
            replace hC := hC.snoc (y := ⟨Ay, nx, cy, lx⟩) hey y1 hta HTQ.out heb hO hE hK2
            clear hE hO hK2 tr htt y y1 hey heb
            refine hK.out _ _ ?s66 (fun hHeld => ?_)
            case s66 => ((try dsimp only); (go_split_ands; (repeat' apply And.intro) <;> (first | assumption | exact set2_other (by assumption) _ (by omega))))
            clear hK K
            try simp only [Act.put, List.setIfInBounds_toArray, List.set_cons_zero, List.set_cons_succ]
            refine wpAnyH_take (i := 9) (oi := { dst := some 25, op := Go.Op.fieldAddr 33 (Go.Operand.tmp 3) 0, type := 0, pos := "l03_disk.go:102", after := #[{ on := 0, ground := Go.Ground.phase }, { on := 1, ground := Go.Ground.phase }, { on := 2, ground := Go.Ground.phase }, { on := 3, ground := Go.Ground.phase }, { on := 4, ground := Go.Ground.phase }, { on := 5, ground := Go.Ground.phase }, { on := 6, ground := Go.Ground.phase }, { on := 7, ground := Go.Ground.phase }, { on := 8, ground := Go.Ground.phase }], guard := none }) (v := ?v67) rfl (by kernel_rfl) (by kernel_rfl) (by kernel_rfl) (fun _ _ _ h => h) (Or.inl ⟨by rfl, ?y67⟩) (by assumption) ?_
            case y67 => (intro w hSw; (try dsimp only at hSw); go_simp; first | done | with_reducible rfl)
            try simp only [Act.put, List.setIfInBounds_toArray, List.set_cons_zero, List.set_cons_succ]
            refine wpAnyH_ready (rs := [10]) (by kernel_rfl) (by simp) ?_
            refine AllReadyH.cons (o := { dst := none, op := Go.Op.store 30 (Go.Operand.tmp 25) (Go.Operand.tmp 24), type := 0, pos := "l03_disk.go:102", after := #[{ on := 9, ground := Go.Ground.data }, { on := 8, ground := Go.Ground.data }, { on := 8, ground := Go.Ground.chain }, { on := 0, ground := Go.Ground.phase }, { on := 1, ground := Go.Ground.phase }, { on := 2, ground := Go.Ground.phase }, { on := 3, ground := Go.Ground.phase }, { on := 4, ground := Go.Ground.phase }, { on := 5, ground := Go.Ground.phase }, { on := 6, ground := Go.Ground.phase }, { on := 7, ground := Go.Ground.phase }, { on := 8, ground := Go.Ground.phase }], guard := none }) rfl (fun K hK => ?k68) AllReadyH.nil
            go_simp
            refine hK.out _ _ ?s68 (fun hHeld => ?_)
            case s68 => ((try dsimp only); (go_split_ands; (repeat' apply And.intro) <;> (first | assumption | exact set2_other (by assumption) _ (by omega))))
            clear hK K
            try simp only [Act.put]
            refine wpAnyH_done (by kernel_rfl) ?_ _
            have hest : Eff (W.heap.size + 1 + 1) (W.heap.size + 1 + 1 + 1) v6 (v6.setCell ⟨W.heap.size + 1 + 1, 0, none⟩ (.slice A2 (k + 1) c2)) := eff_set _ _ _ _
            have hsst : (v6.setCell ⟨W.heap.size + 1 + 1, 0, none⟩ (.slice A2 (k + 1) c2)).heap.size = v6.heap.size := (by simp)
            replace hC := (hC.keep hest (by omega)).wide (Nat.le_refl _) (Nat.le_of_eq hsst.symm) (Nat.le_refl _)
            replace ha0 := hest.cell ha0 (by simp only; omega)
            replace ha1 := hest.cell ha1 (by simp only; omega)
            replace hr0 := hest.cell hr0 (by simp only; omega)
            replace hr1 := hest.cell hr1 (by simp only; omega)
            replace ho0 := set_same ho0 (.slice A2 (k + 1) c2)
            replace ho1 := set_other (b' := W.heap.size + 1 + 1) (o' := 0) ho1 (.slice A2 (k + 1) c2) (.inr (by omega))
            replace hr2 := set_frozen (p := ⟨W.heap.size + 1 + 1, 0, none⟩) hr2 (.slice A2 (k + 1) c2)
            replace hr3 := set_frozen (p := ⟨W.heap.size + 1 + 1, 0, none⟩) hr3 (.slice A2 (k + 1) c2)
            replace ho2 := set_frozen (p := ⟨W.heap.size + 1 + 1, 0, none⟩) ho2 (.slice A2 (k + 1) c2)
            replace ho3 := set_frozen (p := ⟨W.heap.size + 1 + 1, 0, none⟩) ho3 (.slice A2 (k + 1) c2)
            have hbf : Below W.heap.size W (v6.setCell ⟨W.heap.size + 1 + 1, 0, none⟩ (.slice A2 (k + 1) c2)) := b6.trans (hest.below b6.size (by omega))
            go_wp2_with fail
            go_roundw
            case rel => exact ⟨k + 1, A2, c2, es ++ [⟨Ay, nx, cy, lx⟩], by omega, by go_num, hbf, by omega, ha0, ha1, hr0, hr1, ho0, ho1, hr2, hr3, ho2, ho3, hC, Lib.hid (by rw [List.map_append, HD.out, List.take_add_one, List.getElem?_map, HX.out]; rfl)⟩
            case measure => simp [intOf]; omega
          case m62 =>
            refine AllReadyH.cons (o := { dst := some 21, op := Go.Op.call { callee := Go.Callee.builtin Go.Builtin.append, args := #[Go.Operand.tmp 18, Go.Operand.tmp 20], argTypes := #[27, 27] }, type := 27, pos := "l03_disk.go:102", after := #[{ on := 2, ground := Go.Ground.data }, { on := 4, ground := Go.Ground.data }], guard := none }) rfl (fun K hK => ?k69) AllReadyH.nil
            case k69 =>
              refine step_app _ (by rfl) _ _ 27 (by rfl) 5 u0 (.int .u8 0) 1 1 Try.underlying27 hu0 hv0 hv1 hv2 rfl (by omega) (by rfl) em cx (by rfl) hi (byteCells_one' _) (by unfold maxLen; omega) (by omega) (by omega) ?_
              intro Ay cy v4 y hE _
              simp only [Nat.zero_add, List.nil_append] at y ⊢
              have he4 : Eff v0.heap.size (v0.heap.size + 1) v3 v4 := hE
              have hz4 : v3.heap.size ≤ v4.heap.size := he4.size
              have b4 : Below W.heap.size W v4 := b3.trans (he4.below b3.size (by omega))
              replace hi := (hi.below (he4.below (B := W.heap.size) (by omega) (by omega)) (Nat.le_refl _))
              replace htt := htt.keep he4 (by omega)
              replace hr2 := (he4.frozen hr0 (by simp only; omega)).trans hr2
              replace hr3 := (he4.frozen hr1 (by simp only; omega)).trans hr3
              replace ho2 := (he4.frozen ho0 (by simp only; omega)).trans ho2
              replace ho3 := (he4.frozen ho1 (by simp only; omega)).trans ho3
              replace ha0 := he4.cell ha0 (by simp only; omega)
              replace ha1 := he4.cell ha1 (by simp only; omega)
              replace hr0 := he4.cell hr0 (by simp only; omega)
              replace hr1 := he4.cell hr1 (by simp only; omega)
              replace ho0 := he4.cell ho0 (by simp only; omega)
              replace ho1 := he4.cell ho1 (by simp only; omega)
              replace x_0 := he4.cell x_0 (by simp only; omega)
              replace x_l := Nat.lt_of_lt_of_le x_l hz4
              have y1 := y
              have hey : Eff 0 0 v0 v4 := Eff.join he3 he4 (Nat.le_refl _)
              clear hE em
              refine hK.out _ _ ?s69 (fun hHeld => ?_)
              case s69 => ((try dsimp only); (go_split_ands; (repeat' apply And.intro) <;> (first | assumption | exact set2_other (by assumption) _ (by omega))))
              clear hK K
              try simp only [Act.put, List.setIfInBounds_toArray, List.set_cons_zero, List.set_cons_succ]
              refine wpAnyH_take (i := 6) (oi := { dst := some 22, op := Go.Op.build 76 #[(0, Go.Operand.tmp 21)], type := 76, pos := "l03_disk.go:102", after := #[{ on := 5, ground := Go.Ground.data }], guard := none }) (v := ?v70) rfl (by kernel_rfl) (by kernel_rfl) (by kernel_rfl) (fun _ _ _ h => h) (Or.inl ⟨by rfl, ?y70⟩) (by assumption) ?_
              case y70 => (intro w hSw; (try dsimp only at hSw); go_simp; first | done | with_reducible rfl)
              try simp only [Act.put, List.setIfInBounds_toArray, List.set_cons_zero, List.set_cons_succ]
              refine wpAnyH_ready (rs := [1, 7]) (by kernel_rfl) (by simp) ?_
              refine AllReadyH.cons (o := { dst := some 17, op := Go.Op.load 30 (Go.Operand.tmp 16), type := 30, pos := "l03_disk.go:102", after := #[{ on := 0, ground := Go.Ground.data }], guard := none }) rfl (fun K hK => ?k71) ?m71
              case k71 =>
                go_simp
                refine hK.out _ _ ?s71 (fun hHeld => ?_)
                case s71 => ((try dsimp only); (go_split_ands; (repeat' apply And.intro) <;> (first | assumption | exact set2_other (by assumption) _ (by omega))))
                clear hK K
                try simp only [Act.put, List.setIfInBounds_toArray, List.set_cons_zero, List.set_cons_succ]
                refine wpAnyH_ready (rs := [7]) (by kernel_rfl) (by simp) ?_
                refine AllReadyH.cons (o := { dst := some 23, op := Go.Op.buildSlice 30 1 #[(0, Go.Operand.tmp 22)], type := 30, pos := "l03_disk.go:102", after := #[{ on := 6, ground := Go.Ground.data }], guard := none }) rfl (fun K hK => ?k72) AllReadyH.nil
                go_simp
                have he5 : Eff 0 0 v4 (v4.alloc (.cells #[.slice Ay nx cy] 76)) := Eff.alloc _ _
                have hs5 : (v4.alloc (.cells #[.slice Ay nx cy] 76)).heap.size = v4.heap.size + 1 := (by simp)
                have tr := rd_row v4 [.slice Ay nx cy] 76
                generalize (v4.alloc (.cells #[.slice Ay nx cy] 76)) = v5 at *
                have hz5 : v4.heap.size ≤ v5.heap.size := he5.size
                have b5 : Below W.heap.size W v5 := b4.trans (he5.below b4.size (by omega))
                replace hi := (hi.below (he5.below (B := W.heap.size) (by omega) (by omega)) (Nat.le_refl _))
                replace htt := htt.keep he5 (by omega)
                replace y := y.keep he5 (by omega)
                replace hr2 := (he5.frozen hr0 (by simp only; omega)).trans hr2
                replace hr3 := (he5.frozen hr1 (by simp only; omega)).trans hr3
                replace ho2 := (he5.frozen ho0 (by simp only; omega)).trans ho2
                replace ho3 := (he5.frozen ho1 (by simp only; omega)).trans ho3
                replace ha0 := he5.cell ha0 (by simp only; omega)
                replace ha1 := he5.cell ha1 (by simp only; omega)
                replace hr0 := he5.cell hr0 (by simp only; omega)
                replace hr1 := he5.cell hr1 (by simp only; omega)
                replace ho0 := he5.cell ho0 (by simp only; omega)
                replace ho1 := he5.cell ho1 (by simp only; omega)
                replace x_0 := he5.cell x_0 (by simp only; omega)
                replace x_l := Nat.lt_of_lt_of_le x_l hz5
                have heb : Eff 0 0 v4 v5 := he5
                refine hK.out _ _ ?s72 (fun hHeld => ?_)
                case s72 => ((try dsimp only); (go_split_ands; (repeat' apply And.intro) <;> (first | assumption | exact set2_other (by assumption) _ (by omega))))
                clear hK K
                try simp only [Act.put, List.setIfInBounds_toArray, List.set_cons_zero, List.set_cons_succ]
                refine wpAnyH_ready (rs := [8]) (by kernel_rfl) (by simp) ?_
                refine AllReadyH.cons (o := { dst := some 24, op := Go.Op.call { callee := Go.Callee.builtin Go.Builtin.append, args := #[Go.Operand.tmp 17, Go.Operand.tmp 23], argTypes := #[30, 30] }, type := 30, pos := "l03_disk.go:102", after := #[{ on := 1, ground := Go.Ground.data }, { on := 7, ground := Go.Ground.data }, { on := 5, ground := Go.Ground.chain }], guard := none }) rfl (fun K hK => ?k73) AllReadyH.nil
                refine step_app _ (by rfl) _ _ 30 (by rfl) 76 ci0 (.agg #[.slice none 0 0]) 1 24 Try.underlying30 hci0 hcz0 hcz1 hcz2 rfl (by omega) (by rfl) htt 1 (by rfl) tr (fun u hu => oneR hu rfl) (by unfold maxLen; omega) (by omega) (by omega) ?_
                intro A2 c2 v6 hO hE hK2
                have he6 : Eff ta tb v5 v6 := hE
                have hz6 : v5.heap.size ≤ v6.heap.size := he6.size
                have b6 : Below W.heap.size W v6 := b5.trans (he6.below b5.size (by omega))
                replace hi := (hi.below (he6.below (B := W.heap.size) (by omega) (by omega)) (Nat.le_refl _))
                replace y := y.keep he6 (by omega)
                replace hr2 := (he6.frozen hr0 (by simp only; omega)).trans hr2
                replace hr3 := (he6.frozen hr1 (by simp only; omega)).trans hr3
                replace ho2 := (he6.frozen ho0 (by simp only; omega)).trans ho2
                replace ho3 := (he6.frozen ho1 (by simp only; omega)).trans ho3
                replace ha0 := he6.cell ha0 (by simp only; omega)
                replace ha1 := he6.cell ha1 (by simp only; omega)
                replace hr0 := he6.cell hr0 (by simp only; omega)
                replace hr1 := he6.cell hr1 (by simp only; omega)
                replace ho0 := he6.cell ho0 (by simp only; omega)
                replace ho1 := he6.cell ho1 (by simp only; omega)
                replace x_0 := he6.cell x_0 (by simp only; omega)
                replace x_l := Nat.lt_of_lt_of_le x_l hz6
                replace hC := hC.snoc (y := ⟨Ay, nx, cy, lx⟩) hey y1 hta HTQ.out heb hO hE hK2
                clear hE hO hK2 tr htt y y1 hey heb
                refine hK.out _ _ ?s73 (fun hHeld => ?_)
                case s73 => ((try dsimp only); (go_split_ands; (repeat' apply And.intro) <;> (first | assumption | exact set2_other (by assumption) _ (by omega))))
                clear hK K
                try simp only [Act.put, List.setIfInBounds_toArray, List.set_cons_zero, List.set_cons_succ]
                refine wpAnyH_take (i := 9) (oi := { dst := some 25, op := Go.Op.fieldAddr 33 (Go.Operand.tmp 3) 0, type := 0, pos := "l03_disk.go:102", after := #[{ on := 0, ground := Go.Ground.phase }, { on := 1, ground := Go.Ground.phase }, { on := 2, ground := Go.Ground.phase }, { on := 3, ground := Go.Ground.phase }, { on := 4, ground := Go.Ground.phase }, { on := 5, ground := Go.Ground.phase }, { on := 6, ground := Go.Ground.phase }, { on := 7, ground := Go.Ground.phase }, { on := 8, ground := Go.Ground.phase }], guard := none }) (v := ?v74) rfl (by kernel_rfl) (by kernel_rfl) (by kernel_rfl) (fun _ _ _ h => h) (Or.inl ⟨by rfl, ?y74⟩) (by assumption) ?_
                case y74 => (intro w hSw; (try dsimp only at hSw); go_simp; first | done | with_reducible rfl)
                try simp only [Act.put, List.setIfInBounds_toArray, List.set_cons_zero, List.set_cons_succ]
                refine wpAnyH_ready (rs := [10]) (by kernel_rfl) (by simp) ?_
                refine AllReadyH.cons (o := { dst := none, op := Go.Op.store 30 (Go.Operand.tmp 25) (Go.Operand.tmp 24), type := 0, pos := "l03_disk.go:102", after := #[{ on := 9, ground := Go.Ground.data }, { on := 8, ground := Go.Ground.data }, { on := 8, ground := Go.Ground.chain }, { on := 0, ground := Go.Ground.phase }, { on := 1, ground := Go.Ground.phase }, { on := 2, ground := Go.Ground.phase }, { on := 3, ground := Go.Ground.phase }, { on := 4, ground := Go.Ground.phase }, { on := 5, ground := Go.Ground.phase }, { on := 6, ground := Go.Ground.phase }, { on := 7, ground := Go.Ground.phase }, { on := 8, ground := Go.Ground.phase }], guard := none }) rfl (fun K hK => ?k75) AllReadyH.nil
                go_simp
                refine hK.out _ _ ?s75 (fun hHeld => ?_)
                case s75 => ((try dsimp only); (go_split_ands; (repeat' apply And.intro) <;> (first | assumption | exact set2_other (by assumption) _ (by omega))))
                clear hK K
                try simp only [Act.put]
                refine wpAnyH_done (by kernel_rfl) ?_ _
                have hest : Eff (W.heap.size + 1 + 1) (W.heap.size + 1 + 1 + 1) v6 (v6.setCell ⟨W.heap.size + 1 + 1, 0, none⟩ (.slice A2 (k + 1) c2)) := eff_set _ _ _ _
                have hsst : (v6.setCell ⟨W.heap.size + 1 + 1, 0, none⟩ (.slice A2 (k + 1) c2)).heap.size = v6.heap.size := (by simp)
                replace hC := (hC.keep hest (by omega)).wide (Nat.le_refl _) (Nat.le_of_eq hsst.symm) (Nat.le_refl _)
                replace ha0 := hest.cell ha0 (by simp only; omega)
                replace ha1 := hest.cell ha1 (by simp only; omega)
                replace hr0 := hest.cell hr0 (by simp only; omega)
                replace hr1 := hest.cell hr1 (by simp only; omega)
                replace ho0 := set_same ho0 (.slice A2 (k + 1) c2)
                replace ho1 := set_other (b' := W.heap.size + 1 + 1) (o' := 0) ho1 (.slice A2 (k + 1) c2) (.inr (by omega))
                replace hr2 := set_frozen (p := ⟨W.heap.size + 1 + 1, 0, none⟩) hr2 (.slice A2 (k + 1) c2)
                replace hr3 := set_frozen (p := ⟨W.heap.size + 1 + 1, 0, none⟩) hr3 (.slice A2 (k + 1) c2)
                replace ho2 := set_frozen (p := ⟨W.heap.size + 1 + 1, 0, none⟩) ho2 (.slice A2 (k + 1) c2)
                replace ho3 := set_frozen (p := ⟨W.heap.size + 1 + 1, 0, none⟩) ho3 (.slice A2 (k + 1) c2)
                have hbf : Below W.heap.size W (v6.setCell ⟨W.heap.size + 1 + 1, 0, none⟩ (.slice A2 (k + 1) c2)) := b6.trans (hest.below b6.size (by omega))
                go_wp2_with fail
                go_roundw
                case rel => exact ⟨k + 1, A2, c2, es ++ [⟨Ay, nx, cy, lx⟩], by omega, by go_num, hbf, by omega, ha0, ha1, hr0, hr1, ho0, ho1, hr2, hr3, ho2, ho3, hC, Lib.hid (by rw [List.map_append, HD.out, List.take_add_one, List.getElem?_map, HX.out]; rfl)⟩
                case measure => simp [intOf]; omega
              case m71 =>
                refine AllReadyH.cons (o := { dst := some 23, op := Go.Op.buildSlice 30 1 #[(0, Go.Operand.tmp 22)], type := 30, pos := "l03_disk.go:102", after := #[{ on := 6, ground := Go.Ground.data }], guard := none }) rfl (fun K hK => ?k76) AllReadyH.nil
                case k76 =>
                  go_simp
                  have he5 : Eff 0 0 v4 (v4.alloc (.cells #[.slice Ay nx cy] 76)) := Eff.alloc _ _
                  have hs5 : (v4.alloc (.cells #[.slice Ay nx cy] 76)).heap.size = v4.heap.size + 1 := (by simp)
                  have tr := rd_row v4 [.slice Ay nx cy] 76
                  generalize (v4.alloc (.cells #[.slice Ay nx cy] 76)) = v5 at *
                  have hz5 : v4.heap.size ≤ v5.heap.size := he5.size
                  have b5 : Below W.heap.size W v5 := b4.trans (he5.below b4.size (by omega))
                  replace hi := (hi.below (he5.below (B := W.heap.size) (by omega) (by omega)) (Nat.le_refl _))
                  replace htt := htt.keep he5 (by omega)
                  replace y := y.keep he5 (by omega)
                  replace hr2 := (he5.frozen hr0 (by simp only; omega)).trans hr2
                  replace hr3 := (he5.frozen hr1 (by simp only; omega)).trans hr3
                  replace ho2 := (he5.frozen ho0 (by simp only; omega)).trans ho2
                  replace ho3 := (he5.frozen ho1 (by simp only; omega)).trans ho3
                  replace ha0 := he5.cell ha0 (by simp only; omega)
                  replace ha1 := he5.cell ha1 (by simp only; omega)
                  replace hr0 := he5.cell hr0 (by simp only; omega)
                  replace hr1 := he5.cell hr1 (by simp only; omega)
                  replace ho0 := he5.cell ho0 (by simp only; omega)
                  replace ho1 := he5.cell ho1 (by simp only; omega)
                  replace x_0 := he5.cell x_0 (by simp only; omega)
                  replace x_l := Nat.lt_of_lt_of_le x_l hz5
                  have heb : Eff 0 0 v4 v5 := he5
                  refine hK.out _ _ ?s76 (fun hHeld => ?_)
                  case s76 => ((try dsimp only); (go_split_ands; (repeat' apply And.intro) <;> (first | assumption | exact set2_other (by assumption) _ (by omega))))
                  clear hK K
                  try simp only [Act.put, List.setIfInBounds_toArray, List.set_cons_zero, List.set_cons_succ]
                  refine wpAnyH_ready (rs := [1]) (by kernel_rfl) (by simp) ?_
                  refine AllReadyH.cons (o := { dst := some 17, op := Go.Op.load 30 (Go.Operand.tmp 16), type := 30, pos := "l03_disk.go:102", after := #[{ on := 0, ground := Go.Ground.data }], guard := none }) rfl (fun K hK => ?k77) AllReadyH.nil
                  go_simp
                  refine hK.out _ _ ?s77 (fun hHeld => ?_)
                  case s77 => ((try dsimp only); (go_split_ands; (repeat' apply And.intro) <;> (first | assumption | exact set2_other (by assumption) _ (by omega))))
                  clear hK K
                  try simp only [Act.put, List.setIfInBounds_toArray, List.set_cons_zero, List.set_cons_succ]
                  refine wpAnyH_ready (rs := [8]) (by kernel_rfl) (by simp) ?_
                  refine AllReadyH.cons (o := { dst := some 24, op := Go.Op.call { callee := Go.Callee.builtin Go.Builtin.append, args := #[Go.Operand.tmp 17, Go.Operand.tmp 23], argTypes := #[30, 30] }, type := 30, pos := "l03_disk.go:102", after := #[{ on := 1, ground := Go.Ground.data }, { on := 7, ground := Go.Ground.data }, { on := 5, ground := Go.Ground.chain }], guard := none }) rfl (fun K hK => ?k78) AllReadyH.nil
                  refine step_app _ (by rfl) _ _ 30 (by rfl) 76 ci0 (.agg #[.slice none 0 0]) 1 24 Try.underlying30 hci0 hcz0 hcz1 hcz2 rfl (by omega) (by rfl) htt 1 (by rfl) tr (fun u hu => oneR hu rfl) (by unfold maxLen; omega) (by omega) (by omega) ?_
                  intro A2 c2 v6 hO hE hK2
                  have he6 : Eff ta tb v5 v6 := hE
                  have hz6 : v5.heap.size ≤ v6.heap.size := he6.size
                  have b6 : Below W.heap.size W v6 := b5.trans (he6.below b5.size (by omega))
                  replace hi := (hi.below (he6.below (B := W.heap.size) (by omega) (by omega)) (Nat.le_refl _))
                  replace y := y.keep he6 (by omega)
                  replace hr2 := (he6.frozen hr0 (by simp only; omega)).trans hr2
                  replace hr3 := (he6.frozen hr1 (by simp only; omega)).trans hr3
                  replace ho2 := (he6.frozen ho0 (by simp only; omega)).trans ho2
                  replace ho3 := (he6.frozen ho1 (by simp only; omega)).trans ho3
                  replace ha0 := he6.cell ha0 (by simp only; omega)
                  replace ha1 := he6.cell ha1 (by simp only; omega)
                  replace hr0 := he6.cell hr0 (by simp only; omega)
                  replace hr1 := he6.cell hr1 (by simp only; omega)
                  replace ho0 := he6.cell ho0 (by simp only; omega)
                  replace ho1 := he6.cell ho1 (by simp only; omega)
                  replace x_0 := he6.cell x_0 (by simp only; omega)
                  replace x_l := Nat.lt_of_lt_of_le x_l hz6
                  replace hC := hC.snoc (y := ⟨Ay, nx, cy, lx⟩) hey y1 hta HTQ.out heb hO hE hK2
                  clear hE hO hK2 tr htt y y1 hey heb
                  refine hK.out _ _ ?s78 (fun hHeld => ?_)
                  case s78 => ((try dsimp only); (go_split_ands; (repeat' apply And.intro) <;> (first | assumption | exact set2_other (by assumption) _ (by omega))))
                  clear hK K
                  try simp only [Act.put, List.setIfInBounds_toArray, List.set_cons_zero, List.set_cons_succ]
                  refine wpAnyH_take (i := 9) (oi := { dst := some 25, op := Go.Op.fieldAddr 33 (Go.Operand.tmp 3) 0, type := 0, pos := "l03_disk.go:102", after := #[{ on := 0, ground := Go.Ground.phase }, { on := 1, ground := Go.Ground.phase }, { on := 2, ground := Go.Ground.phase }, { on := 3, ground := Go.Ground.phase }, { on := 4, ground := Go.Ground.phase }, { on := 5, ground := Go.Ground.phase }, { on := 6, ground := Go.Ground.phase }, { on := 7, ground := Go.Ground.phase }, { on := 8, ground := Go.Ground.phase }], guard := none }) (v := ?v79) rfl (by kernel_rfl) (by kernel_rfl) (by kernel_rfl) (fun _ _ _ h => h) (Or.inl ⟨by rfl, ?y79⟩) (by assumption) ?_
                  case y79 => (intro w hSw; (try dsimp only at hSw); go_simp; first | done | with_reducible rfl)
                  try simp only [Act.put, List.setIfInBounds_toArray, List.set_cons_zero, List.set_cons_succ]
                  refine wpAnyH_ready (rs := [10]) (by kernel_rfl) (by simp) ?_
                  refine AllReadyH.cons (o := { dst := none, op := Go.Op.store 30 (Go.Operand.tmp 25) (Go.Operand.tmp 24), type := 0, pos := "l03_disk.go:102", after := #[{ on := 9, ground := Go.Ground.data }, { on := 8, ground := Go.Ground.data }, { on := 8, ground := Go.Ground.chain }, { on := 0, ground := Go.Ground.phase }, { on := 1, ground := Go.Ground.phase }, { on := 2, ground := Go.Ground.phase }, { on := 3, ground := Go.Ground.phase }, { on := 4, ground := Go.Ground.phase }, { on := 5, ground := Go.Ground.phase }, { on := 6, ground := Go.Ground.phase }, { on := 7, ground := Go.Ground.phase }, { on := 8, ground := Go.Ground.phase }], guard := none }) rfl (fun K hK => ?k80) AllReadyH.nil
                  go_simp
                  refine hK.out _ _ ?s80 (fun hHeld => ?_)
                  case s80 => ((try dsimp only); (go_split_ands; (repeat' apply And.intro) <;> (first | assumption | exact set2_other (by assumption) _ (by omega))))
                  clear hK K
                  try simp only [Act.put]
                  refine wpAnyH_done (by kernel_rfl) ?_ _
                  have hest : Eff (W.heap.size + 1 + 1) (W.heap.size + 1 + 1 + 1) v6 (v6.setCell ⟨W.heap.size + 1 + 1, 0, none⟩ (.slice A2 (k + 1) c2)) := eff_set _ _ _ _
                  have hsst : (v6.setCell ⟨W.heap.size + 1 + 1, 0, none⟩ (.slice A2 (k + 1) c2)).heap.size = v6.heap.size := (by simp)
                  replace hC := (hC.keep hest (by omega)).wide (Nat.le_refl _) (Nat.le_of_eq hsst.symm) (Nat.le_refl _)
                  replace ha0 := hest.cell ha0 (by simp only; omega)
                  replace ha1 := hest.cell ha1 (by simp only; omega)
                  replace hr0 := hest.cell hr0 (by simp only; omega)
                  replace hr1 := hest.cell hr1 (by simp only; omega)
                  replace ho0 := set_same ho0 (.slice A2 (k + 1) c2)
                  replace ho1 := set_other (b' := W.heap.size + 1 + 1) (o' := 0) ho1 (.slice A2 (k + 1) c2) (.inr (by omega))
                  replace hr2 := set_frozen (p := ⟨W.heap.size + 1 + 1, 0, none⟩) hr2 (.slice A2 (k + 1) c2)
                  replace hr3 := set_frozen (p := ⟨W.heap.size + 1 + 1, 0, none⟩) hr3 (.slice A2 (k + 1) c2)
                  replace ho2 := set_frozen (p := ⟨W.heap.size + 1 + 1, 0, none⟩) ho2 (.slice A2 (k + 1) c2)
                  replace ho3 := set_frozen (p := ⟨W.heap.size + 1 + 1, 0, none⟩) ho3 (.slice A2 (k + 1) c2)
                  have hbf : Below W.heap.size W (v6.setCell ⟨W.heap.size + 1 + 1, 0, none⟩ (.slice A2 (k + 1) c2)) := b6.trans (hest.below b6.size (by omega))
                  go_wp2_with fail
                  go_roundw
                  case rel => exact ⟨k + 1, A2, c2, es ++ [⟨Ay, nx, cy, lx⟩], by omega, by go_num, hbf, by omega, ha0, ha1, hr0, hr1, ho0, ho1, hr2, hr3, ho2, ho3, hC, Lib.hid (by rw [List.map_append, HD.out, List.take_add_one, List.getElem?_map, HX.out]; rfl)⟩
                  case measure => simp [intOf]; omega
    · have hge : nc = k := by omega
      subst hge
      clear hk hlt
      go_wp2
      have HG : Hid (es.map Ce.d = cs.map Ce.d) := Lib.hid (by rw [HD.out, List.take_of_length_le (by rw [List.length_map, HLC.out]; exact Nat.le_refl _)])
      clear HD
      obtain ⟨wo, rfl⟩ : ∃ wo : World, wo = wr := ⟨_, rfl⟩
      obtain ⟨Cr, hCr⟩ : ∃ Cr, Cr = Ar := ⟨_, rfl⟩
      obtain ⟨gr, hgr⟩ : ∃ gr, gr = cr := ⟨_, rfl⟩
      obtain ⟨gs, hgs⟩ : ∃ gs, gs = es := ⟨_, rfl⟩
      obtain ⟨m, hm⟩ : ∃ m, m = wo.heap.size := ⟨_, rfl⟩
      subst hCr hgr hgs
      have hD := hC
      rw [← hm] at hD
      have HB0 : True := trivial
      have hmle : W.heap.size + 1 + 1 + 1 ≤ m := by omega
      clear hC
      go_loopw [30] (fun vi wr => ∃ (k : Nat) (Ar : Option Addr) (cr : Nat) (es : List Wr), k ≤ nw ∧ vi = .int .i64 (k : Int) ∧ Below W.heap.size W wr ∧ m ≤ wr.heap.size ∧ wr.cell? ⟨W.heap.size, 0, none⟩ = some (.slice Ac nc cc) ∧ wr.cell? ⟨W.heap.size, 1, none⟩ = some (.slice Aw nw cw) ∧ wr.cell? ⟨W.heap.size + 1, 0, none⟩ = some (.slice none 0 0) ∧ wr.cell? ⟨W.heap.size + 1, 1, none⟩ = some (.slice none 0 0) ∧ wr.cell? ⟨W.heap.size + 1 + 1, 0, none⟩ = some (.slice Cr nc gr) ∧ wr.cell? ⟨W.heap.size + 1 + 1, 1, none⟩ = some (.slice Ar k cr) ∧ wr.frozen? ⟨W.heap.size + 1, 0, none⟩ = false ∧ wr.frozen? ⟨W.heap.size + 1, 1, none⟩ = false ∧ wr.frozen? ⟨W.heap.size + 1 + 1, 0, none⟩ = false ∧ wr.frozen? ⟨W.heap.size + 1 + 1, 1, none⟩ = false ∧ OwnWrite wr (m) wr.heap.size Ar k cr es ∧ Hid (es.map Wr.d = (ws.map Wr.d).take k) ∧ OwnCell wr (W.heap.size + 1 + 1 + 1) m Cr nc gr gs) (fun vi _ => nw - (intOf vi).toNat)
      case atStart => exact ⟨0, none, 0, [], Nat.zero_le _, rfl, hb, Nat.le_of_eq hm, ha0, ha1, hr0, hr1, ho0, ho1, hr2, hr3, ho2, ho3, OwnR.nil (Nat.le_of_eq hm) (Nat.le_refl _), Lib.hid (by simp), hD⟩
      case round =>
        clear HB0
        obtain ⟨k, Ar, cr, es, hk, rfl, hb, hlo, ha0, ha1, hr0, hr1, ho0, ho1, hr2, hr3, ho2, ho3, hC, HD, hD⟩ := hrel
        by_cases hlt : k < nw
        · skip
          obtain ⟨b, off, ⟨px, Ax, nx, cx, lx⟩, rfl, hbB, hx, hcell, hi, hcap⟩ := (hrw.below hb (Nat.le_refl _)).elem Wr.hf (by omega) hlt
          have cc0 : wr.cell? ⟨b, off + k * 2, none⟩ = some (.int .i64 px) := by have := hcell 0 _ rfl; simpa [Nat.add_assoc] using this
          have cc1 : wr.cell? ⟨b, off + k * 2 + 1, none⟩ = some (.slice Ax nx cx) := by have := hcell 1 _ rfl; simpa [Nat.add_assoc] using this
          have HX := Lib.hid hx
          have hnx : nx ≤ 1099511627776 := HL2.out _ (List.mem_of_getElem? hx)
          replace hi : Rd wr W.heap.size 1 Ax nx (Lib.byteCells lx) := hi
          clear hcell hcap hx
          have hlo1 := hC.lohi
          have hlo2 := hD.lohi
          have hlo3 := hD.le
          go_wp2_with fail
          have he1 : Eff 0 0 wr (wr.alloc (.cells #[.int .i64 px, .slice Ax nx cx] 74)) := Eff.alloc _ _
          have hs1 : (wr.alloc (.cells #[.int .i64 px, .slice Ax nx cx] 74)).heap.size = wr.heap.size + 1 := (by simp)
          have x_0 : (wr.alloc (.cells #[.int .i64 px, .slice Ax nx cx] 74)).cell? ⟨wr.heap.size, 0, none⟩ = some (.int .i64 px) := var_cell _ _ _ _ _ rfl
          have x_1 : (wr.alloc (.cells #[.int .i64 px, .slice Ax nx cx] 74)).cell? ⟨wr.heap.size, 1, none⟩ = some (.slice Ax nx cx) := var_cell _ _ _ _ _ rfl
          generalize (wr.alloc (.cells #[.int .i64 px, .slice Ax nx cx] 74)) = v1 at *
          have hz1 : wr.heap.size ≤ v1.heap.size := he1.size
          have b1 : Below W.heap.size W v1 := hb.trans (he1.below hb.size (by omega))
          replace hi := (hi.below (he1.below (B := W.heap.size) (by omega) (by omega)) (Nat.le_refl _))
          replace hC := hC.keep he1 (by omega)
          replace hD := hD.keep he1 (by omega)
          replace hr2 := (he1.frozen hr0 (by simp only; omega)).trans hr2
          replace hr3 := (he1.frozen hr1 (by simp only; omega)).trans hr3
          replace ho2 := (he1.frozen ho0 (by simp only; omega)).trans ho2
          replace ho3 := (he1.frozen ho1 (by simp only; omega)).trans ho3
          replace ha0 := he1.cell ha0 (by simp only; omega)
          replace ha1 := he1.cell ha1 (by simp only; omega)
          replace hr0 := he1.cell hr0 (by simp only; omega)
          replace hr1 := he1.cell hr1 (by simp only; omega)
          replace ho0 := he1.cell ho0 (by simp only; omega)
          replace ho1 := he1.cell ho1 (by simp only; omega)
          have x_l : wr.heap.size < v1.heap.size := (by omega)
          clear cc0 cc1
          go_wp2_with fail
          have he2 : Eff 0 0 v1 v1.drew := (Eff.refl _ _ _).drew
          have hz2 : v1.heap.size ≤ v1.drew.heap.size := he2.size
          have b2 : Below W.heap.size W v1.drew := b1.trans (he2.below b1.size (by omega))
          replace hi := (hi.below (he2.below (B := W.heap.size) (by omega) (by omega)) (Nat.le_refl _))
          replace hC := hC.keep he2 (by omega)
          replace hD := hD.keep he2 (by omega)
          replace hr2 := (he2.frozen hr0 (by simp only; omega)).trans hr2
          replace hr3 := (he2.frozen hr1 (by simp only; omega)).trans hr3
          replace ho2 := (he2.frozen ho0 (by simp only; omega)).trans ho2
          replace ho3 := (he2.frozen ho1 (by simp only; omega)).trans ho3
          replace ha0 := he2.cell ha0 (by simp only; omega)
          replace ha1 := he2.cell ha1 (by simp only; omega)
          replace hr0 := he2.cell hr0 (by simp only; omega)
          replace hr1 := he2.cell hr1 (by simp only; omega)
          replace ho0 := he2.cell ho0 (by simp only; omega)
          replace ho1 := he2.cell ho1 (by simp only; omega)
          replace x_0 := he2.cell x_0 (by simp only; omega)
          replace x_1 := he2.cell x_1 (by simp only; omega)
          replace x_l := Nat.lt_of_lt_of_le x_l hz2
          refine wp_region_held_drew (S := fun w' => w'.cell? ⟨wr.heap.size, 0, none⟩ = some (.int .i64 px) ∧ w'.cell? ⟨wr.heap.size, 1, none⟩ = some (.slice Ax nx cx)) (by kernel_rfl) ?rg81 (fun hHeld => ?_)
          case rg81 => ((try dsimp only); (go_split_ands; (repeat' apply And.intro) <;> (first | assumption | exact set2_other (by assumption) _ (by omega))))
          generalize v1.drew = v0 at *
          obtain ⟨ta, tb, htt, hta, htab, htb, htq⟩ := Own.tight hC.row hC.lohi
          have HTQ := Lib.hid htq
          clear htq
          refine wpAnyH_take (i := 0) (oi := { dst := some 34, op := Go.Op.fieldAddr 33 (Go.Operand.tmp 3) 1, type := 0, pos := "l03_disk.go:105", after := #[], guard := none }) (v := ?v82) rfl (by kernel_rfl) (by kernel_rfl) (by kernel_rfl) (fun _ _ _ h => h) (Or.inl ⟨by rfl, ?y82⟩) (by assumption) ?_
          case y82 => (intro w hSw; (try dsimp only at hSw); go_simp; first | done | with_reducible rfl)
          try simp only [Act.put, List.setIfInBounds_toArray, List.set_cons_zero, List.set_cons_succ]
          refine wpAnyH_take (i := 2) (oi := { dst := some 36, op := Go.Op.fieldAddr 74 (Go.Operand.tmp 7) 0, type := 0, pos := "l03_disk.go:105", after := #[], guard := none }) (v := ?v83) rfl (by kernel_rfl) (by kernel_rfl) (by kernel_rfl) (fun _ _ _ h => h) (Or.inl ⟨by rfl, ?y83⟩) (by assumption) ?_
          case y83 => (intro w hSw; (try dsimp only at hSw); go_simp; first | done | with_reducible rfl)
          try simp only [Act.put, List.setIfInBounds_toArray, List.set_cons_zero, List.set_cons_succ]
          refine wpAnyH_take (i := 3) (oi := { dst := some 37, op := Go.Op.load 3 (Go.Operand.tmp 36), type := 3, pos := "l03_disk.go:105", after := #[{ on := 2, ground := Go.Ground.data }], guard := none }) (v := ?v84) rfl (by kernel_rfl) (by kernel_rfl) (by kernel_rfl) (fun _ _ _ h => h) (Or.inl ⟨by rfl, ?y84⟩) (by assumption) ?_
          case y84 => (intro w hSw; (try dsimp only at hSw); go_simp; first | done | with_reducible rfl)
          try simp only [Act.put, List.setIfInBounds_toArray, List.set_cons_zero, List.set_cons_succ]
          refine wpAnyH_take (i := 5) (oi := { dst := some 39, op := Go.Op.fieldAddr 74 (Go.Operand.tmp 7) 1, type := 0, pos := "l03_disk.go:105", after := #[], guard := none }) (v := ?v85) rfl (by kernel_rfl) (by kernel_rfl) (by kernel_rfl) (fun _ _ _ h => h) (Or.inl ⟨by rfl, ?y85⟩) (by assumption) ?_
          case y85 => (intro w hSw; (try dsimp only at hSw); go_simp; first | done | with_reducible rfl)
          try simp only [Act.put, List.setIfInBounds_toArray, List.set_cons_zero, List.set_cons_succ]
          refine wpAnyH_take (i := 6) (oi := { dst := some 40, op := Go.Op.load 27 (Go.Operand.tmp 39), type := 27, pos := "l03_disk.go:105", after := #[{ on := 5, ground := Go.Ground.data }], guard := none }) (v := ?v86) rfl (by kernel_rfl) (by kernel_rfl) (by kernel_rfl) (fun _ _ _ h => h) (Or.inl ⟨by rfl, ?y86⟩) (by assumption) ?_
          case y86 => (intro w hSw; (try dsimp only at hSw); go_simp; first | done | with_reducible rfl)
          try simp only [Act.put, List.setIfInBounds_toArray, List.set_cons_zero, List.set_cons_succ]
          refine wpAnyH_ready (rs := [1, 4]) (by kernel_rfl) (by simp) ?_
          refine AllReadyH.cons (o := { dst := some 35, op := Go.Op.load 31 (Go.Operand.tmp 34), type := 31, pos := "l03_disk.go:105", after := #[{ on := 0, ground := Go.Ground.data }], guard := none }) rfl (fun K hK => ?k87) ?m87
          case k87 =>
            go_simp
            refine hK.out _ _ ?s87 (fun hHeld => ?_)
            case s87 => ((try dsimp only); (go_split_ands; (repeat' apply And.intro) <;> (first | assumption | exact set2_other (by assumption) _ (by omega))))
            clear hK K
            try simp only [Act.put, List.setIfInBounds_toArray, List.set_cons_zero, List.set_cons_succ]
            refine wpAnyH_ready (rs := [4]) (by kernel_rfl) (by simp) ?_
            refine AllReadyH.cons (o := { dst := some 38, op := Go.Op.buildSlice 27 0 #[], type := 27, pos := "l03_disk.go:105", after := #[], guard := none }) rfl (fun K hK => ?k88) AllReadyH.nil
            go_simp
            have he3 : Eff 0 0 v0 (v0.alloc (.cells #[] 5)) := Eff.alloc _ _
            have hs3 : (v0.alloc (.cells #[] 5)).heap.size = v0.heap.size + 1 := (by simp)
            have em := new_empty v0 5 1
            generalize (v0.alloc (.cells #[] 5)) = v3 at *
            have hz3 : v0.heap.size ≤ v3.heap.size := he3.size
            have b3 : Below W.heap.size W v3 := b2.trans (he3.below b2.size (by omega))
            replace hi := (hi.below (he3.below (B := W.heap.size) (by omega) (by omega)) (Nat.le_refl _))
            replace hD := hD.keep he3 (by omega)
            replace htt := htt.keep he3 (by omega)
            replace hr2 := (he3.frozen hr0 (by simp only; omega)).trans hr2
            replace hr3 := (he3.frozen hr1 (by simp only; omega)).trans hr3
            replace ho2 := (he3.frozen ho0 (by simp only; omega)).trans ho2
            replace ho3 := (he3.frozen ho1 (by simp only; omega)).trans ho3
            replace ha0 := he3.cell ha0 (by simp only; omega)
            replace ha1 := he3.cell ha1 (by simp only; omega)
            replace hr0 := he3.cell hr0 (by simp only; omega)
            replace hr1 := he3.cell hr1 (by simp only; omega)
            replace ho0 := he3.cell ho0 (by simp only; omega)
            replace ho1 := he3.cell ho1 (by simp only; omega)
            replace x_0 := he3.cell x_0 (by simp only; omega)
            replace x_1 := he3.cell x_1 (by simp only; omega)
            replace x_l := Nat.lt_of_lt_of_le x_l hz3
            refine hK.out _ _ ?s88 (fun hHeld => ?_)
            case s88 => ((try dsimp only); (go_split_ands; (repeat' apply And.intro) <;> (first | assumption | exact set2_other (by assumption) _ (by omega))))
            clear hK K
            try simp only [Act.put, List.setIfInBounds_toArray, List.set_cons_zero, List.set_cons_succ]
            refine wpAnyH_ready (rs := [7]) (by kernel_rfl) (by simp) ?_
            refine AllReadyH.cons (o := { dst := some 41, op := Go.Op.call { callee := Go.Callee.builtin Go.Builtin.append, args := #[Go.Operand.tmp 38, Go.Operand.tmp 40], argTypes := #[27, 27] }, type := 27, pos := "l03_disk.go:105", after := #[{ on := 4, ground := Go.Ground.data }, { on := 6, ground := Go.Ground.data }], guard := none }) rfl (fun K hK => ?k89) AllReadyH.nil
            refine step_app _ (by rfl) _ _ 27 (by rfl) 5 u0 (.int .u8 0) 1 1 Try.underlying27 hu0 hv0 hv1 hv2 rfl (by omega) (by rfl) em cx (by rfl) hi (byteCells_one' _) (by unfold maxLen; omega) (by omega) (by omega) ?_
            intro Ay cy v4 y hE _
            simp only [Nat.zero_add, List.nil_append] at y ⊢
            have he4 : Eff v0.heap.size (v0.heap.size + 1) v3 v4 := hE
            have hz4 : v3.heap.size ≤ v4.heap.size := he4.size
            have b4 : Below W.heap.size W v4 := b3.trans (he4.below b3.size (by omega))
            replace hi := (hi.below (he4.below (B := W.heap.size) (by omega) (by omega)) (Nat.le_refl _))
            replace hD := hD.keep he4 (by omega)
            replace htt := htt.keep he4 (by omega)
            replace hr2 := (he4.frozen hr0 (by simp only; omega)).trans hr2
            replace hr3 := (he4.frozen hr1 (by simp only; omega)).trans hr3
            replace ho2 := (he4.frozen ho0 (by simp only; omega)).trans ho2
            replace ho3 := (he4.frozen ho1 (by simp only; omega)).trans ho3
            replace ha0 := he4.cell ha0 (by simp only; omega)
            replace ha1 := he4.cell ha1 (by simp only; omega)
            replace hr0 := he4.cell hr0 (by simp only; omega)
            replace hr1 := he4.cell hr1 (by simp only; omega)
            replace ho0 := he4.cell ho0 (by simp only; omega)
            replace ho1 := he4.cell ho1 (by simp only; omega)
            replace x_0 := he4.cell x_0 (by simp only; omega)
            replace x_1 := he4.cell x_1 (by simp only; omega)
            replace x_l := Nat.lt_of_lt_of_le x_l hz4
            have y1 := y
            have hey : Eff 0 0 v0 v4 := Eff.join he3 he4 (Nat.le_refl _)
            clear hE em
            refine hK.out _ _ ?s89 (fun hHeld => ?_)
            case s89 => ((try dsimp only); (go_split_ands; (repeat' apply And.intro) <;> (first | assumption | exact set2_other (by assumption) _ (by omega))))
            clear hK K
            try simp only [Act.put, List.setIfInBounds_toArray, List.set_cons_zero, List.set_cons_succ]
            refine wpAnyH_take (i := 8) (oi := { dst := some 42, op := Go.Op.build 74 #[(0, Go.Operand.tmp 37), (1, Go.Operand.tmp 41)], type := 74, pos := "l03_disk.go:105", after := #[{ on := 3, ground := Go.Ground.data }, { on := 7, ground := Go.Ground.data }], guard := none }) (v := ?v90) rfl (by kernel_rfl) (by kernel_rfl) (by kernel_rfl) (fun _ _ _ h => h) (Or.inl ⟨by rfl, ?y90⟩) (by assumption) ?_
            case y90 => (intro w hSw; (try dsimp only at hSw); go_simp; first | done | with_reducible rfl)
            try simp only [Act.put, List.setIfInBounds_toArray, List.set_cons_zero, List.set_cons_succ]
            refine wpAnyH_ready (rs := [9]) (by kernel_rfl) (by simp) ?_
            refine AllReadyH.cons (o := { dst := some 43, op := Go.Op.buildSlice 31 1 #[(0, Go.Operand.tmp 42)], type := 31, pos := "l03_disk.go:105", after := #[{ on := 8, ground := Go.Ground.data }], guard := none }) rfl (fun K hK => ?k91) AllReadyH.nil
            go_simp
            have he5 : Eff 0 0 v4 (v4.alloc (.cells #[.int .i64 px, .slice Ay nx cy] 74)) := Eff.alloc _ _
            have hs5 : (v4.alloc (.cells #[.int .i64 px, .slice Ay nx cy] 74)).heap.size = v4.heap.size + 1 := (by simp)
            have tr := rd_row v4 [.int .i64 px, .slice Ay nx cy] 74
            generalize (v4.alloc (.cells #[.int .i64 px, .slice Ay nx cy] 74)) = v5 at *
            have hz5 : v4.heap.size ≤ v5.heap.size := he5.size
            have b5 : Below W.heap.size W v5 := b4.trans (he5.below b4.size (by omega))
            replace hi := (hi.below (he5.below (B := W.heap.size) (by omega) (by omega)) (Nat.le_refl _))
            replace hD := hD.keep he5 (by omega)
            replace htt := htt.keep he5 (by omega)
            replace y := y.keep he5 (by omega)
            replace hr2 := (he5.frozen hr0 (by simp only; omega)).trans hr2
            replace hr3 := (he5.frozen hr1 (by simp only; omega)).trans hr3
            replace ho2 := (he5.frozen ho0 (by simp only; omega)).trans ho2
            replace ho3 := (he5.frozen ho1 (by simp only; omega)).trans ho3
            replace ha0 := he5.cell ha0 (by simp only; omega)
            replace ha1 := he5.cell ha1 (by simp only; omega)
            replace hr0 := he5.cell hr0 (by simp only; omega)
            replace hr1 := he5.cell hr1 (by simp only; omega)
            replace ho0 := he5.cell ho0 (by simp only; omega)
            replace ho1 := he5.cell ho1 (by simp only; omega)
            replace x_0 := he5.cell x_0 (by simp only; omega)
            replace x_1 := he5.cell x_1 (by simp only; omega)
            replace x_l := Nat.lt_of_lt_of_le x_l hz5
            have heb : Eff 0 0 v4 v5 := he5
            refine hK.out _ _ ?s91 (fun hHeld => ?_)
            case s91 => ((try dsimp only); (go_split_ands; (repeat' apply And.intro) <;> (first | assumption | exact set2_other (by assumption) _ (by omega))))
            clear hK K
            try simp only [Act.put, List.setIfInBounds_toArray, List.set_cons_zero, List.set_cons_succ]
            refine wpAnyH_ready (rs := [10]) (by kernel_rfl) (by simp) ?_
            refine AllReadyH.cons (o := { dst := some 44, op := Go.Op.call { callee := Go.Callee.builtin Go.Builtin.append, args := #[Go.Operand.tmp 35, Go.Operand.tmp 43], argTypes := #[31, 31] }, type := 31, pos := "l03_disk.go:105", after := #[{ on := 1, ground := Go.Ground.data }, { on := 9, ground := Go.Ground.data }, { on := 7, ground := Go.Ground.chain }], guard := none }) rfl (fun K hK => ?k92) AllReadyH.nil
            refine step_app _ (by rfl) _ _ 31 (by rfl) 74 wi0 (.agg #[.int .i64 0, .slice none 0 0]) 2 32 Try.underlying31 hwi0 hwz0 hwz1 hwz2 rfl (by omega) (by rfl) htt 1 (by rfl) tr (fun u hu => twoR hu rfl rfl) (by unfold maxLen; omega) (by omega) (by omega) ?_
            intro A2 c2 v6 hO hE hK2
            have he6 : Eff ta tb v5 v6 := hE
            have hz6 : v5.heap.size ≤ v6.heap.size := he6.size
            have b6 : Below W.heap.size W v6 := b5.trans (he6.below b5.size (by omega))
            replace hi := (hi.below (he6.below (B := W.heap.size) (by omega) (by omega)) (Nat.le_refl _))
            replace hD := hD.keep he6 (by omega)
            replace y := y.keep he6 (by omega)
            replace hr2 := (he6.frozen hr0 (by simp only; omega)).trans hr2
            replace hr3 := (he6.frozen hr1 (by simp only; omega)).trans hr3
            replace ho2 := (he6.frozen ho0 (by simp only; omega)).trans ho2
            replace ho3 := (he6.frozen ho1 (by simp only; omega)).trans ho3
            replace ha0 := he6.cell ha0 (by simp only; omega)
            replace ha1 := he6.cell ha1 (by simp only; omega)
            replace hr0 := he6.cell hr0 (by simp only; omega)
            replace hr1 := he6.cell hr1 (by simp only; omega)
            replace ho0 := he6.cell ho0 (by simp only; omega)
            replace ho1 := he6.cell ho1 (by simp only; omega)
            replace x_0 := he6.cell x_0 (by simp only; omega)
            replace x_1 := he6.cell x_1 (by simp only; omega)
            replace x_l := Nat.lt_of_lt_of_le x_l hz6
            replace hC := hC.snoc (y := ⟨px, Ay, nx, cy, lx⟩) hey y1 hta HTQ.out heb hO hE hK2
            clear hE hO hK2 tr htt y y1 hey heb
            refine hK.out _ _ ?s92 (fun hHeld => ?_)
            case s92 => ((try dsimp only); (go_split_ands; (repeat' apply And.intro) <;> (first | assumption | exact set2_other (by assumption) _ (by omega))))
            clear hK K
            try simp only [Act.put, List.setIfInBounds_toArray, List.set_cons_zero, List.set_cons_succ]
            refine wpAnyH_take (i := 11) (oi := { dst := some 45, op := Go.Op.fieldAddr 33 (Go.Operand.tmp 3) 1, type := 0, pos := "l03_disk.go:105", after := #[{ on := 0, ground := Go.Ground.phase }, { on := 1, ground := Go.Ground.phase }, { on := 2, ground := Go.Ground.phase }, { on := 3, ground := Go.Ground.phase }, { on := 4, ground := Go.Ground.phase }, { on := 5, ground := Go.Ground.phase }, { on := 6, ground := Go.Ground.phase }, { on := 7, ground := Go.Ground.phase }, { on := 8, ground := Go.Ground.phase }, { on := 9, ground := Go.Ground.phase }, { on := 10, ground := Go.Ground.phase }], guard := none }) (v := ?v93) rfl (by kernel_rfl) (by kernel_rfl) (by kernel_rfl) (fun _ _ _ h => h) (Or.inl ⟨by rfl, ?y93⟩) (by assumption) ?_
            case y93 => (intro w hSw; (try dsimp only at hSw); go_simp; first | done | with_reducible rfl)
            try simp only [Act.put, List.setIfInBounds_toArray, List.set_cons_zero, List.set_cons_succ]
            refine wpAnyH_ready (rs := [12]) (by kernel_rfl) (by simp) ?_
            refine AllReadyH.cons (o := { dst := none, op := Go.Op.store 31 (Go.Operand.tmp 45) (Go.Operand.tmp 44), type := 0, pos := "l03_disk.go:105", after := #[{ on := 11, ground := Go.Ground.data }, { on := 10, ground := Go.Ground.data }, { on := 10, ground := Go.Ground.chain }, { on := 0, ground := Go.Ground.phase }, { on := 1, ground := Go.Ground.phase }, { on := 2, ground := Go.Ground.phase }, { on := 3, ground := Go.Ground.phase }, { on := 4, ground := Go.Ground.phase }, { on := 5, ground := Go.Ground.phase }, { on := 6, ground := Go.Ground.phase }, { on := 7, ground := Go.Ground.phase }, { on := 8, ground := Go.Ground.phase }, { on := 9, ground := Go.Ground.phase }, { on := 10, ground := Go.Ground.phase }], guard := none }) rfl (fun K hK => ?k94) AllReadyH.nil
            go_simp
            refine hK.out _ _ ?s94 (fun hHeld => ?_)
            case s94 => ((try dsimp only); (go_split_ands; (repeat' apply And.intro) <;> (first | assumption | exact set2_other (by assumption) _ (by omega))))
            clear hK K
            try simp only [Act.put]
            refine wpAnyH_done (by kernel_rfl) ?_ _
            have hest : Eff (W.heap.size + 1 + 1) (W.heap.size + 1 + 1 + 1) v6 (v6.setCell ⟨W.heap.size + 1 + 1, 1, none⟩ (.slice A2 (k + 1) c2)) := eff_set _ _ _ _
            have hsst : (v6.setCell ⟨W.heap.size + 1 + 1, 1, none⟩ (.slice A2 (k + 1) c2)).heap.size = v6.heap.size := (by simp)
            replace hC := (hC.keep hest (by omega)).wide (Nat.le_refl _) (Nat.le_of_eq hsst.symm) (Nat.le_refl _)
            replace hD := hD.keep hest (by omega)
            replace ha0 := hest.cell ha0 (by simp only; omega)
            replace ha1 := hest.cell ha1 (by simp only; omega)
            replace hr0 := hest.cell hr0 (by simp only; omega)
            replace hr1 := hest.cell hr1 (by simp only; omega)
            replace ho0 := set_other (b' := W.heap.size + 1 + 1) (o' := 1) ho0 (.slice A2 (k + 1) c2) (.inr (by omega))
            replace ho1 := set_same ho1 (.slice A2 (k + 1) c2)
            replace hr2 := set_frozen (p := ⟨W.heap.size + 1 + 1, 1, none⟩) hr2 (.slice A2 (k + 1) c2)
            replace hr3 := set_frozen (p := ⟨W.heap.size + 1 + 1, 1, none⟩) hr3 (.slice A2 (k + 1) c2)
            replace ho2 := set_frozen (p := ⟨W.heap.size + 1 + 1, 1, none⟩) ho2 (.slice A2 (k + 1) c2)
            replace ho3 := set_frozen (p := ⟨W.heap.size + 1 + 1, 1, none⟩) ho3 (.slice A2 (k + 1) c2)
            have hbf : Below W.heap.size W (v6.setCell ⟨W.heap.size + 1 + 1, 1, none⟩ (.slice A2 (k + 1) c2)) := b6.trans (hest.below b6.size (by omega))
            go_wp2_with fail
            go_roundw
            case rel => exact ⟨k + 1, A2, c2, es ++ [⟨px, Ay, nx, cy, lx⟩], by omega, by go_num, hbf, by omega, ha0, ha1, hr0, hr1, ho0, ho1, hr2, hr3, ho2, ho3, hC, Lib.hid (by rw [List.map_append, HD.out, List.take_add_one, List.getElem?_map, HX.out]; rfl), hD⟩
            case measure => simp [intOf]; omega
          case m87 =>
            refine AllReadyH.cons (o := { dst := some 38, op := Go.Op.buildSlice 27 0 #[], type := 27, pos := "l03_disk.go:105", after := #[], guard := none }) rfl (fun K hK => ?k95) AllReadyH.nil
            case k95 =>
              go_simp
              have he3 : Eff 0 0 v0 (v0.alloc (.cells #[] 5)) := Eff.alloc _ _
              have hs3 : (v0.alloc (.cells #[] 5)).heap.size = v0.heap.size + 1 := (by simp)
              have em := new_empty v0 5 1
              generalize (v0.alloc (.cells #[] 5)) = v3 at *
              have hz3 : v0.heap.size ≤ v3.heap.size := he3.size
              have b3 : Below W.heap.size W v3 := b2.trans (he3.below b2.size (by omega))
              replace hi := (hi.below (he3.below (B := W.heap.size) (by omega) (by omega)) (Nat.le_refl _))
              replace hD := hD.keep he3 (by omega)
              replace htt := htt.keep he3 (by omega)
              replace hr2 := (he3.frozen hr0 (by simp only; omega)).trans hr2
              replace hr3 := (he3.frozen hr1 (by simp only; omega)).trans hr3
              replace ho2 := (he3.frozen ho0 (by simp only; omega)).trans ho2
              replace ho3 := (he3.frozen ho1 (by simp only; omega)).trans ho3
              replace ha0 := he3.cell ha0 (by simp only; omega)
              replace ha1 := he3.cell ha1 (by simp only; omega)
              replace hr0 := he3.cell hr0 (by simp only; omega)
              replace hr1 := he3.cell hr1 (by simp only; omega)
              replace ho0 := he3.cell ho0 (by simp only; omega)
              replace ho1 := he3.cell ho1 (by simp only; omega)
              replace x_0 := he3.cell x_0 (by simp only; omega)
              replace x_1 := he3.cell x_1 (by simp only; omega)
              replace x_l := Nat.lt_of_lt_of_le x_l hz3
              refine hK.out _ _ ?s95 (fun hHeld => ?_)
              case s95 => ((try dsimp only); (go_split_ands; (repeat' apply And.intro) <;> (first | assumption | exact set2_other (by assumption) _ (by omega))))
              clear hK K
              try simp only [Act.put, List.setIfInBounds_toArray, List.set_cons_zero, List.set_cons_succ]
              refine wpAnyH_ready (rs := [1, 7]) (by kernel_rfl) (by simp) ?_
              refine AllReadyH.cons (o := { dst := some 35, op := Go.Op.load 31 (Go.Operand.tmp 34), type := 31, pos := "l03_disk.go:105", after := #[{ on := 0, ground := Go.Ground.data }], guard := none }) rfl (fun K hK => ?k96) ?m96
              case k96 =>
                go_simp
                refine hK.out _ _ ?s96 (fun hHeld => ?_)
                case s96 => ((try dsimp only); (go_split_ands; (repeat' apply And.intro) <;> (first | assumption | exact set2_other (by assumption) _ (by omega))))
                clear hK K
                try simp only [Act.put, List.setIfInBounds_toArray, List.set_cons_zero, List.set_cons_succ]
                refine wpAnyH_ready (rs := [7]) (by kernel_rfl) (by simp) ?_
                refine AllReadyH.cons (o := { dst := some 41, op := Go.Op.call { callee := Go.Callee.builtin Go.Builtin.append, args := #[Go.Operand.tmp 38, Go.Operand.tmp 40], argTypes := #[27, 27] }, type := 27, pos := "l03_disk.go:105", after := #[{ on := 4, ground := Go.Ground.data }, { on := 6, ground := Go.Ground.data }], guard := none }) rfl (fun K hK => ?k97) AllReadyH.nil
                refine step_app _ (by rfl) _ _ 27 (by rfl) 5 u0 (.int .u8 0) 1 1 Try.underlying27 hu0 hv0 hv1 hv2 rfl (by omega) (by rfl) em cx (by rfl) hi (byteCells_one' _) (by unfold maxLen; omega) (by omega) (by omega) ?_
                intro Ay cy v4 y hE _
                simp only [Nat.zero_add, List.nil_append] at y ⊢
                have he4 : Eff v0.heap.size (v0.heap.size + 1) v3 v4 := hE
                have hz4 : v3.heap.size ≤ v4.heap.size := he4.size
                have b4 : Below W.heap.size W v4 := b3.trans (he4.below b3.size (by omega))
                replace hi := (hi.below (he4.below (B := W.heap.size) (by omega) (by omega)) (Nat.le_refl _))
                replace hD := hD.keep he4 (by omega)
                replace htt := htt.keep he4 (by omega)
                replace hr2 := (he4.frozen hr0 (by simp only; omega)).trans hr2
                replace hr3 := (he4.frozen hr1 (by simp only; omega)).trans hr3
                replace ho2 := (he4.frozen ho0 (by simp only; omega)).trans ho2
                replace ho3 := (he4.frozen ho1 (by simp only; omega)).trans ho3
                replace ha0 := he4.cell ha0 (by simp only; omega)
                replace ha1 := he4.cell ha1 (by simp only; omega)
                replace hr0 := he4.cell hr0 (by simp only; omega)
                replace hr1 := he4.cell hr1 (by simp only; omega)
                replace ho0 := he4.cell ho0 (by simp only; omega)
                replace ho1 := he4.cell ho1 (by simp only; omega)
                replace x_0 := he4.cell x_0 (by simp only; omega)
                replace x_1 := he4.cell x_1 (by simp only; omega)
                replace x_l := Nat.lt_of_lt_of_le x_l hz4
                have y1 := y
                have hey : Eff 0 0 v0 v4 := Eff.join he3 he4 (Nat.le_refl _)
                clear hE em
                refine hK.out _ _ ?s97 (fun hHeld => ?_)
                case s97 => ((try dsimp only); (go_split_ands; (repeat' apply And.intro) <;> (first | assumption | exact set2_other (by assumption) _ (by omega))))
                clear hK K
                try simp only [Act.put, List.setIfInBounds_toArray, List.set_cons_zero, List.set_cons_succ]
                refine wpAnyH_take (i := 8) (oi := { dst := some 42, op := Go.Op.build 74 #[(0, Go.Operand.tmp 37), (1, Go.Operand.tmp 41)], type := 74, pos := "l03_disk.go:105", after := #[{ on := 3, ground := Go.Ground.data }, { on := 7, ground := Go.Ground.data }], guard := none }) (v := ?v98) rfl (by kernel_rfl) (by kernel_rfl) (by kernel_rfl) (fun _ _ _ h => h) (Or.inl ⟨by rfl, ?y98⟩) (by assumption) ?_
                case y98 => (intro w hSw; (try dsimp only at hSw); go_simp; first | done | with_reducible rfl)
                try simp only [Act.put, List.setIfInBounds_toArray, List.set_cons_zero, List.set_cons_succ]
                refine wpAnyH_ready (rs := [9]) (by kernel_rfl) (by simp) ?_
                refine AllReadyH.cons (o := { dst := some 43, op := Go.Op.buildSlice 31 1 #[(0, Go.Operand.tmp 42)], type := 31, pos := "l03_disk.go:105", after := #[{ on := 8, ground := Go.Ground.data }], guard := none }) rfl (fun K hK => ?k99) AllReadyH.nil
                go_simp
                have he5 : Eff 0 0 v4 (v4.alloc (.cells #[.int .i64 px, .slice Ay nx cy] 74)) := Eff.alloc _ _
                have hs5 : (v4.alloc (.cells #[.int .i64 px, .slice Ay nx cy] 74)).heap.size = v4.heap.size + 1 := (by simp)
                have tr := rd_row v4 [.int .i64 px, .slice Ay nx cy] 74
                generalize (v4.alloc (.cells #[.int .i64 px, .slice Ay nx cy] 74)) = v5 at *
                have hz5 : v4.heap.size ≤ v5.heap.size := he5.size
                have b5 : Below W.heap.size W v5 := b4.trans (he5.below b4.size (by omega))
                replace hi := (hi.below (he5.below (B := W.heap.size) (by omega) (by omega)) (Nat.le_refl _))
                replace hD := hD.keep he5 (by omega)
                replace htt := htt.keep he5 (by omega)
                replace y := y.keep he5 (by omega)
                replace hr2 := (he5.frozen hr0 (by simp only; omega)).trans hr2
                replace hr3 := (he5.frozen hr1 (by simp only; omega)).trans hr3
                replace ho2 := (he5.frozen ho0 (by simp only; omega)).trans ho2
                replace ho3 := (he5.frozen ho1 (by simp only; omega)).trans ho3
                replace ha0 := he5.cell ha0 (by simp only; omega)
                replace ha1 := he5.cell ha1 (by simp only; omega)
                replace hr0 := he5.cell hr0 (by simp only; omega)
                replace hr1 := he5.cell hr1 (by simp only; omega)
                replace ho0 := he5.cell ho0 (by simp only; omega)
                replace ho1 := he5.cell ho1 (by simp only; omega)
                replace x_0 := he5.cell x_0 (by simp only; omega)
                replace x_1 := he5.cell x_1 (by simp only; omega)
                replace x_l := Nat.lt_of_lt_of_le x_l hz5
                have heb : Eff 0 0 v4 v5 := he5
                refine hK.out _ _ ?s99 (fun hHeld => ?_)
                case s99 => ((try dsimp only); (go_split_ands; (repeat' apply And.intro) <;> (first | assumption | exact set2_other (by assumption) _ (by omega))))
                clear hK K
                try simp only [Act.put, List.setIfInBounds_toArray, List.set_cons_zero, List.set_cons_succ]
                refine wpAnyH_ready (rs := [10]) (by kernel_rfl) (by simp) ?_
                refine AllReadyH.cons (o := { dst := some 44, op := Go.Op.call { callee := Go.Callee.builtin Go.Builtin.append, args := #[Go.Operand.tmp 35, Go.Operand.tmp 43], argTypes := #[31, 31] }, type := 31, pos := "l03_disk.go:105", after := #[{ on := 1, ground := Go.Ground.data }, { on := 9, ground := Go.Ground.data }, { on := 7, ground := Go.Ground.chain }], guard := none }) rfl (fun K hK => ?k100) AllReadyH.nil
                refine step_app _ (by rfl) _ _ 31 (by rfl) 74 wi0 (.agg #[.int .i64 0, .slice none 0 0]) 2 32 Try.underlying31 hwi0 hwz0 hwz1 hwz2 rfl (by omega) (by rfl) htt 1 (by rfl) tr (fun u hu => twoR hu rfl rfl) (by unfold maxLen; omega) (by omega) (by omega) ?_
                intro A2 c2 v6 hO hE hK2
                have he6 : Eff ta tb v5 v6 := hE
                have hz6 : v5.heap.size ≤ v6.heap.size := he6.size
                have b6 : Below W.heap.size W v6 := b5.trans (he6.below b5.size (by omega))
                replace hi := (hi.below (he6.below (B := W.heap.size) (by omega) (by omega)) (Nat.le_refl _))
                replace hD := hD.keep he6 (by omega)
                replace y := y.keep he6 (by omega)
                replace hr2 := (he6.frozen hr0 (by simp only; omega)).trans hr2
                replace hr3 := (he6.frozen hr1 (by simp only; omega)).trans hr3
                replace ho2 := (he6.frozen ho0 (by simp only; omega)).trans ho2
                replace ho3 := (he6.frozen ho1 (by simp only; omega)).trans ho3
                replace ha0 := he6.cell ha0 (by simp only; omega)
                replace ha1 := he6.cell ha1 (by simp only; omega)
                replace hr0 := he6.cell hr0 (by simp only; omega)
                replace hr1 := he6.cell hr1 (by simp only; omega)
                replace ho0 := he6.cell ho0 (by simp only; omega)
                replace ho1 := he6.cell ho1 (by simp only; omega)
                replace x_0 := he6.cell x_0 (by simp only; omega)
                replace x_1 := he6.cell x_1 (by simp only; omega)
                replace x_l := Nat.lt_of_lt_of_le x_l hz6
                replace hC := hC.snoc (y := ⟨px, Ay, nx, cy, lx⟩) hey y1 hta HTQ.out heb hO hE hK2
                clear hE hO hK2 tr htt y y1 hey heb
                refine hK.out _ _ ?s100 (fun hHeld => ?_)
                case s100 => ((try dsimp only); (go_split_ands; (repeat' apply And.intro) <;> (first | assumption | exact set2_other (by assumption) _ (by omega))))
                clear hK K
                try simp only [Act.put, List.setIfInBounds_toArray, List.set_cons_zero, List.set_cons_succ]
                refine wpAnyH_take (i := 11) (oi := { dst := some 45, op := Go.Op.fieldAddr 33 (Go.Operand.tmp 3) 1, type := 0, pos := "l03_disk.go:105", after := #[{ on := 0, ground := Go.Ground.phase }, { on := 1, ground := Go.Ground.phase }, { on := 2, ground := Go.Ground.phase }, { on := 3, ground := Go.Ground.phase }, { on := 4, ground := Go.Ground.phase }, { on := 5, ground := Go.Ground.phase }, { on := 6, ground := Go.Ground.phase }, { on := 7, ground := Go.Ground.phase }, { on := 8, ground := Go.Ground.phase }, { on := 9, ground := Go.Ground.phase }, { on := 10, ground := Go.Ground.phase }], guard := none }) (v := ?v101) rfl (by kernel_rfl) (by kernel_rfl) (by kernel_rfl) (fun _ _ _ h => h) (Or.inl ⟨by rfl, ?y101⟩) (by assumption) ?_
                case y101 => (intro w hSw; (try dsimp only at hSw); go_simp; first | done | with_reducible rfl)
                try simp only [Act.put, List.setIfInBounds_toArray, List.set_cons_zero, List.set_cons_succ]
                refine wpAnyH_ready (rs := [12]) (by kernel_rfl) (by simp) ?_
                refine AllReadyH.cons (o := { dst := none, op := Go.Op.store 31 (Go.Operand.tmp 45) (Go.Operand.tmp 44), type := 0, pos := "l03_disk.go:105", after := #[{ on := 11, ground := Go.Ground.data }, { on := 10, ground := Go.Ground.data }, { on := 10, ground := Go.Ground.chain }, { on := 0, ground := Go.Ground.phase }, { on := 1, ground := Go.Ground.phase }, { on := 2, ground := Go.Ground.phase }, { on := 3, ground := Go.Ground.phase }, { on := 4, ground := Go.Ground.phase }, { on := 5, ground := Go.Ground.phase }, { on := 6, ground := Go.Ground.phase }, { on := 7, ground := Go.Ground.phase }, { on := 8, ground := Go.Ground.phase }, { on := 9, ground := Go.Ground.phase }, { on := 10, ground := Go.Ground.phase }], guard := none }) rfl (fun K hK => ?k102) AllReadyH.nil
                go_simp
                refine hK.out _ _ ?s102 (fun hHeld => ?_)
                case s102 => ((try dsimp only); (go_split_ands; (repeat' apply And.intro) <;> (first | assumption | exact set2_other (by assumption) _ (by omega))))
                clear hK K
                try simp only [Act.put]
                refine wpAnyH_done (by kernel_rfl) ?_ _
                have hest : Eff (W.heap.size + 1 + 1) (W.heap.size + 1 + 1 + 1) v6 (v6.setCell ⟨W.heap.size + 1 + 1, 1, none⟩ (.slice A2 (k + 1) c2)) := eff_set _ _ _ _
                have hsst : (v6.setCell ⟨W.heap.size + 1 + 1, 1, none⟩ (.slice A2 (k + 1) c2)).heap.size = v6.heap.size := (by simp)
                replace hC := (hC.keep hest (by omega)).wide (Nat.le_refl _) (Nat.le_of_eq hsst.symm) (Nat.le_refl _)
                replace hD := hD.keep hest (by omega)
                replace ha0 := hest.cell ha0 (by simp only; omega)
                replace ha1 := hest.cell ha1 (by simp only; omega)
                replace hr0 := hest.cell hr0 (by simp only; omega)
                replace hr1 := hest.cell hr1 (by simp only; omega)
                replace ho0 := set_other (b' := W.heap.size + 1 + 1) (o' := 1) ho0 (.slice A2 (k + 1) c2) (.inr (by omega))
                replace ho1 := set_same ho1 (.slice A2 (k + 1) c2)
                replace hr2 := set_frozen (p := ⟨W.heap.size + 1 + 1, 1, none⟩) hr2 (.slice A2 (k + 1) c2)
                replace hr3 := set_frozen (p := ⟨W.heap.size + 1 + 1, 1, none⟩) hr3 (.slice A2 (k + 1) c2)
                replace ho2 := set_frozen (p := ⟨W.heap.size + 1 + 1, 1, none⟩) ho2 (.slice A2 (k + 1) c2)
                replace ho3 := set_frozen (p := ⟨W.heap.size + 1 + 1, 1, none⟩) ho3 (.slice A2 (k + 1) c2)
                have hbf : Below W.heap.size W (v6.setCell ⟨W.heap.size + 1 + 1, 1, none⟩ (.slice A2 (k + 1) c2)) := b6.trans (hest.below b6.size (by omega))
                go_wp2_with fail
                go_roundw
                case rel => exact ⟨k + 1, A2, c2, es ++ [⟨px, Ay, nx, cy, lx⟩], by omega, by go_num, hbf, by omega, ha0, ha1, hr0, hr1, ho0, ho1, hr2, hr3, ho2, ho3, hC, Lib.hid (by rw [List.map_append, HD.out, List.take_add_one, List.getElem?_map, HX.out]; rfl), hD⟩
                case measure => simp [intOf]; omega
              case m96 =>
                refine AllReadyH.cons (o := { dst := some 41, op := Go.Op.call { callee := Go.Callee.builtin Go.Builtin.append, args := #[Go.Operand.tmp 38, Go.Operand.tmp 40], argTypes := #[27, 27] }, type := 27, pos := "l03_disk.go:105", after := #[{ on := 4, ground := Go.Ground.data }, { on := 6, ground := Go.Ground.data }], guard := none }) rfl (fun K hK => ?k103) AllReadyH.nil
                case k103 =>
                  refine step_app _ (by rfl) _ _ 27 (by rfl) 5 u0 (.int .u8 0) 1 1 Try.underlying27 hu0 hv0 hv1 hv2 rfl (by omega) (by rfl) em cx (by rfl) hi (byteCells_one' _) (by unfold maxLen; omega) (by omega) (by omega) ?_
                  intro Ay cy v4 y hE _
                  simp only [Nat.zero_add, List.nil_append] at y ⊢
                  have he4 : Eff v0.heap.size (v0.heap.size + 1) v3 v4 := hE
                  have hz4 : v3.heap.size ≤ v4.heap.size := he4.size
                  have b4 : Below W.heap.size W v4 := b3.trans (he4.below b3.size (by omega))
                  replace hi := (hi.below (he4.below (B := W.heap.size) (by omega) (by omega)) (Nat.le_refl _))
                  replace hD := hD.keep he4 (by omega)
                  replace htt := htt.keep he4 (by omega)
                  replace hr2 := (he4.frozen hr0 (by simp only; omega)).trans hr2
                  replace hr3 := (he4.frozen hr1 (by simp only; omega)).trans hr3
                  replace ho2 := (he4.frozen ho0 (by simp only; omega)).trans ho2
                  replace ho3 := (he4.frozen ho1 (by simp only; omega)).trans ho3
                  replace ha0 := he4.cell ha0 (by simp only; omega)
                  replace ha1 := he4.cell ha1 (by simp only; omega)
                  replace hr0 := he4.cell hr0 (by simp only; omega)
                  replace hr1 := he4.cell hr1 (by simp only; omega)
                  replace ho0 := he4.cell ho0 (by simp only; omega)
                  replace ho1 := he4.cell ho1 (by simp only; omega)
                  replace x_0 := he4.cell x_0 (by simp only; omega)
                  replace x_1 := he4.cell x_1 (by simp only; omega)
                  replace x_l := Nat.lt_of_lt_of_le x_l hz4
                  have y1 := y
                  have hey : Eff 0 0 v0 v4 := Eff.join he3 he4 (Nat.le_refl _)
                  clear hE em
                  refine hK.out _ _ ?s103 (fun hHeld => ?_)
                  case s103 => ((try dsimp only); (go_split_ands; (repeat' apply And.intro) <;> (first | assumption | exact set2_other (by assumption) _ (by omega))))
                  clear hK K
                  try simp only [Act.put, List.setIfInBounds_toArray, List.set_cons_zero, List.set_cons_succ]
                  refine wpAnyH_take (i := 8) (oi := { dst := some 42, op := Go.Op.build 74 #[(0, Go.Operand.tmp 37), (1, Go.Operand.tmp 41)], type := 74, pos := "l03_disk.go:105", after := #[{ on := 3, ground := Go.Ground.data }, { on := 7, ground := Go.Ground.data }], guard := none }) (v := ?v104) rfl (by kernel_rfl) (by kernel_rfl) (by kernel_rfl) (fun _ _ _ h => h) (Or.inl ⟨by rfl, ?y104⟩) (by assumption) ?_
                  case y104 => (intro w hSw; (try dsimp only at hSw); go_simp; first | done | with_reducible rfl)
                  try simp only [Act.put, List.setIfInBounds_toArray, List.set_cons_zero, List.set_cons_succ]
                  refine wpAnyH_ready (rs := [1, 9]) (by kernel_rfl) (by simp) ?_
                  refine AllReadyH.cons (o := { dst := some 35, op := Go.Op.load 31 (Go.Operand.tmp 34), type := 31, pos := "l03_disk.go:105", after := #[{ on := 0, ground := Go.Ground.data }], guard := none }) rfl (fun K hK => ?k105) ?m105
                  case k105 =>
                    go_simp
                    refine hK.out _ _ ?s105 (fun hHeld => ?_)
                    case s105 => ((try dsimp only); (go_split_ands; (repeat' apply And.intro) <;> (first | assumption | exact set2_other (by assumption) _ (by omega))))
                    clear hK K
                    try simp only [Act.put, List.setIfInBounds_toArray, List.set_cons_zero, List.set_cons_succ]
                    refine wpAnyH_ready (rs := [9]) (by kernel_rfl) (by simp) ?_
                    refine AllReadyH.cons (o := { dst := some 43, op := Go.Op.buildSlice 31 1 #[(0, Go.Operand.tmp 42)], type := 31, pos := "l03_disk.go:105", after := #[{ on := 8, ground := Go.Ground.data }], guard := none }) rfl (fun K hK => ?k106) AllReadyH.nil
                    go_simp
                    have he5 : Eff 0 0 v4 (v4.alloc (.cells #[.int .i64 px, .slice Ay nx cy] 74)) := Eff.alloc _ _
                    have hs5 : (v4.alloc (.cells #[.int .i64 px, .slice Ay nx cy] 74)).heap.size = v4.heap.size + 1 := (by simp)
                    have tr := rd_row v4 [.int .i64 px, .slice Ay nx cy] 74
                    generalize (v4.alloc (.cells #[.int .i64 px, .slice Ay nx cy] 74)) = v5 at *
                    have hz5 : v4.heap.size ≤ v5.heap.size := he5.size
                    have b5 : Below W.heap.size W v5 := b4.trans (he5.below b4.size (by omega))
                    replace hi := (hi.below (he5.below (B := W.heap.size) (by omega) (by omega)) (Nat.le_refl _))
                    replace hD := hD.keep he5 (by omega)
                    replace htt := htt.keep he5 (by omega)
                    replace y := y.keep he5 (by omega)
                    replace hr2 := (he5.frozen hr0 (by simp only; omega)).trans hr2
                    replace hr3 := (he5.frozen hr1 (by simp only; omega)).trans hr3
                    replace ho2 := (he5.frozen ho0 (by simp only; omega)).trans ho2
                    replace ho3 := (he5.frozen ho1 (by simp only; omega)).trans ho3
                    replace ha0 := he5.cell ha0 (by simp only; omega)
                    replace ha1 := he5.cell ha1 (by simp only; omega)
                    replace hr0 := he5.cell hr0 (by simp only; omega)
                    replace hr1 := he5.cell hr1 (by simp only; omega)
                    replace ho0 := he5.cell ho0 (by simp only; omega)
                    replace ho1 := he5.cell ho1 (by simp only; omega)
                    replace x_0 := he5.cell x_0 (by simp only; omega)
                    replace x_1 := he5.cell x_1 (by simp only; omega)
                    replace x_l := Nat.lt_of_lt_of_le x_l hz5
                    have heb : Eff 0 0 v4 v5 := he5
                    refine hK.out _ _ ?s106 (fun hHeld => ?_)
                    case s106 => ((try dsimp only); (go_split_ands; (repeat' apply And.intro) <;> (first | assumption | exact set2_other (by assumption) _ (by omega))))
                    clear hK K
                    try simp only [Act.put, List.setIfInBounds_toArray, List.set_cons_zero, List.set_cons_succ]
                    refine wpAnyH_ready (rs := [10]) (by kernel_rfl) (by simp) ?_
                    refine AllReadyH.cons (o := { dst := some 44, op := Go.Op.call { callee := Go.Callee.builtin Go.Builtin.append, args := #[Go.Operand.tmp 35, Go.Operand.tmp 43], argTypes := #[31, 31] }, type := 31, pos := "l03_disk.go:105", after := #[{ on := 1, ground := Go.Ground.data }, { on := 9, ground := Go.Ground.data }, { on := 7, ground := Go.Ground.chain }], guard := none }) rfl (fun K hK => ?k107) AllReadyH.nil
                    refine step_app _ (by rfl) _ _ 31 (by rfl) 74 wi0 (.agg #[.int .i64 0, .slice none 0 0]) 2 32 Try.underlying31 hwi0 hwz0 hwz1 hwz2 rfl (by omega) (by rfl) htt 1 (by rfl) tr (fun u hu => twoR hu rfl rfl) (by unfold maxLen; omega) (by omega) (by omega) ?_
                    intro A2 c2 v6 hO hE hK2
                    have he6 : Eff ta tb v5 v6 := hE
                    have hz6 : v5.heap.size ≤ v6.heap.size := he6.size
                    have b6 : Below W.heap.size W v6 := b5.trans (he6.below b5.size (by omega))
                    replace hi := (hi.below (he6.below (B := W.heap.size) (by omega) (by omega)) (Nat.le_refl _))
                    replace hD := hD.keep he6 (by omega)
                    replace y := y.keep he6 (by omega)
                    replace hr2 := (he6.frozen hr0 (by simp only; omega)).trans hr2
                    replace hr3 := (he6.frozen hr1 (by simp only; omega)).trans hr3
                    replace ho2 := (he6.frozen ho0 (by simp only; omega)).trans ho2
                    replace ho3 := (he6.frozen ho1 (by simp only; omega)).trans ho3
                    replace ha0 := he6.cell ha0 (by simp only; omega)
                    replace ha1 := he6.cell ha1 (by simp only; omega)
                    replace hr0 := he6.cell hr0 (by simp only; omega)
                    replace hr1 := he6.cell hr1 (by simp only; omega)
                    replace ho0 := he6.cell ho0 (by simp only; omega)
                    replace ho1 := he6.cell ho1 (by simp only; omega)
                    replace x_0 := he6.cell x_0 (by simp only; omega)
                    replace x_1 := he6.cell x_1 (by simp only; omega)
                    replace x_l := Nat.lt_of_lt_of_le x_l hz6
                    replace hC := hC.snoc (y := ⟨px, Ay, nx, cy, lx⟩) hey y1 hta HTQ.out heb hO hE hK2
                    clear hE hO hK2 tr htt y y1 hey heb
                    refine hK.out _ _ ?s107 (fun hHeld => ?_)
                    case s107 => ((try dsimp only); (go_split_ands; (repeat' apply And.intro) <;> (first | assumption | exact set2_other (by assumption) _ (by omega))))
                    clear hK K
                    try simp only [Act.put, List.setIfInBounds_toArray, List.set_cons_zero, List.set_cons_succ]
                    refine wpAnyH_take (i := 11) (oi := { dst := some 45, op := Go.Op.fieldAddr 33 (Go.Operand.tmp 3) 1, type := 0, pos := "l03_disk.go:105", after := #[{ on := 0, ground := Go.Ground.phase }, { on := 1, ground := Go.Ground.phase }, { on := 2, ground := Go.Ground.phase }, { on := 3, ground := Go.Ground.phase }, { on := 4, ground := Go.Ground.phase }, { on := 5, ground := Go.Ground.phase }, { on := 6, ground := Go.Ground.phase }, { on := 7, ground := Go.Ground.phase }, { on := 8, ground := Go.Ground.phase }, { on := 9, ground := Go.Ground.phase }, { on := 10, ground := Go.Ground.phase }], guard := none }) (v := ?v108) rfl (by kernel_rfl) (by kernel_rfl) (by kernel_rfl) (fun _ _ _ h => h) (Or.inl ⟨by rfl, ?y108⟩) (by assumption) ?_
                    case y108 => (intro w hSw; (try dsimp only at hSw); go_simp; first | done | with_reducible rfl)
                    try simp only [Act.put, List.setIfInBounds_toArray, List.set_cons_zero, List.set_cons_succ]
                    refine wpAnyH_ready (rs := [12]) (by kernel_rfl) (by simp) ?_
                    refine AllReadyH.cons (o := { dst := none, op := Go.Op.store 31 (Go.Operand.tmp 45) (Go.Operand.tmp 44), type := 0, pos := "l03_disk.go:105", after := #[{ on := 11, ground := Go.Ground.data }, { on := 10, ground := Go.Ground.data }, { on := 10, ground := Go.Ground.chain }, { on := 0, ground := Go.Ground.phase }, { on := 1, ground := Go.Ground.phase }, { on := 2, ground := Go.Ground.phase }, { on := 3, ground := Go.Ground.phase }, { on := 4, ground := Go.Ground.phase }, { on := 5, ground := Go.Ground.phase }, { on := 6, ground := Go.Ground.phase }, { on := 7, ground := Go.Ground.phase }, { on := 8, ground := Go.Ground.phase }, { on := 9, ground := Go.Ground.phase }, { on := 10, ground := Go.Ground.phase }], guard := none }) rfl (fun K hK => ?k109) AllReadyH.nil
                    go_simp
                    refine hK.out _ _ ?s109 (fun hHeld => ?_)
                    case s109 => ((try dsimp only); (go_split_ands; (repeat' apply And.intro) <;> (first | assumption | exact set2_other (by assumption) _ (by omega))))
                    clear hK K
                    try simp only [Act.put]
                    refine wpAnyH_done (by kernel_rfl) ?_ _
                    have hest : Eff (W.heap.size + 1 + 1) (W.heap.size + 1 + 1 + 1) v6 (v6.setCell ⟨W.heap.size + 1 + 1, 1, none⟩ (.slice A2 (k + 1) c2)) := eff_set _ _ _ _
                    have hsst : (v6.setCell ⟨W.heap.size + 1 + 1, 1, none⟩ (.slice A2 (k + 1) c2)).heap.size = v6.heap.size := (by simp)
                    replace hC := (hC.keep hest (by omega)).wide (Nat.le_refl _) (Nat.le_of_eq hsst.symm) (Nat.le_refl _)
                    replace hD := hD.keep hest (by omega)
                    replace ha0 := hest.cell ha0 (by simp only; omega)
                    replace ha1 := hest.cell ha1 (by simp only; omega)
                    replace hr0 := hest.cell hr0 (by simp only; omega)
                    replace hr1 := hest.cell hr1 (by simp only; omega)
                    replace ho0 := set_other (b' := W.heap.size + 1 + 1) (o' := 1) ho0 (.slice A2 (k + 1) c2) (.inr (by omega))
                    replace ho1 := set_same ho1 (.slice A2 (k + 1) c2)
                    replace hr2 := set_frozen (p := ⟨W.heap.size + 1 + 1, 1, none⟩) hr2 (.slice A2 (k + 1) c2)
                    replace hr3 := set_frozen (p := ⟨W.heap.size + 1 + 1, 1, none⟩) hr3 (.slice A2 (k + 1) c2)
                    replace ho2 := set_frozen (p := ⟨W.heap.size + 1 + 1, 1, none⟩) ho2 (.slice A2 (k + 1) c2)
                    replace ho3 := set_frozen (p := ⟨W.heap.size + 1 + 1, 1, none⟩) ho3 (.slice A2 (k + 1) c2)
                    have hbf : Below W.heap.size W (v6.setCell ⟨W.heap.size + 1 + 1, 1, none⟩ (.slice A2 (k + 1) c2)) := b6.trans (hest.below b6.size (by omega))
                    go_wp2_with fail
                    go_roundw
                    case rel => exact ⟨k + 1, A2, c2, es ++ [⟨px, Ay, nx, cy, lx⟩], by omega, by go_num, hbf, by omega, ha0, ha1, hr0, hr1, ho0, ho1, hr2, hr3, ho2, ho3, hC, Lib.hid (by rw [List.map_append, HD.out, List.take_add_one, List.getElem?_map, HX.out]; rfl), hD⟩
                    case measure => simp [intOf]; omega
                  case m105 =>
                    refine AllReadyH.cons (o := { dst := some 43, op := Go.Op.buildSlice 31 1 #[(0, Go.Operand.tmp 42)], type := 31, pos := "l03_disk.go:105", after := #[{ on := 8, ground := Go.Ground.data }], guard := none }) rfl (fun K hK => ?k110) AllReadyH.nil
                    case k110 =>
                      go_simp
                      have he5 : Eff 0 0 v4 (v4.alloc (.cells #[.int .i64 px, .slice Ay nx cy] 74)) := Eff.alloc _ _
                      have hs5 : (v4.alloc (.cells #[.int .i64 px, .slice Ay nx cy] 74)).heap.size = v4.heap.size + 1 := (by simp)
                      have tr := rd_row v4 [.int .i64 px, .slice Ay nx cy] 74
                      generalize (v4.alloc (.cells #[.int .i64 px, .slice Ay nx cy] 74)) = v5 at *
                      have hz5 : v4.heap.size ≤ v5.heap.size := he5.size
                      have b5 : Below W.heap.size W v5 := b4.trans (he5.below b4.size (by omega))
                      replace hi := (hi.below (he5.below (B := W.heap.size) (by omega) (by omega)) (Nat.le_refl _))
                      replace hD := hD.keep he5 (by omega)
                      replace htt := htt.keep he5 (by omega)
                      replace y := y.keep he5 (by omega)
                      replace hr2 := (he5.frozen hr0 (by simp only; omega)).trans hr2
                      replace hr3 := (he5.frozen hr1 (by simp only; omega)).trans hr3
                      replace ho2 := (he5.frozen ho0 (by simp only; omega)).trans ho2
                      replace ho3 := (he5.frozen ho1 (by simp only; omega)).trans ho3
                      replace ha0 := he5.cell ha0 (by simp only; omega)
                      replace ha1 := he5.cell ha1 (by simp only; omega)
                      replace hr0 := he5.cell hr0 (by simp only; omega)
                      replace hr1 := he5.cell hr1 (by simp only; omega)
                      replace ho0 := he5.cell ho0 (by simp only; omega)
                      replace ho1 := he5.cell ho1 (by simp only; omega)
                      replace x_0 := he5.cell x_0 (by simp only; omega)
                      replace x_1 := he5.cell x_1 (by simp only; omega)
                      replace x_l := Nat.lt_of_lt_of_le x_l hz5
                      have heb : Eff 0 0 v4 v5 := he5
                      refine hK.out _ _ ?s110 (fun hHeld => ?_)
                      case s110 => ((try dsimp only); (go_split_ands; (repeat' apply And.intro) <;> (first | assumption | exact set2_other (by assumption) _ (by omega))))
                      clear hK K
                      try simp only [Act.put, List.setIfInBounds_toArray, List.set_cons_zero, List.set_cons_succ]
                      refine wpAnyH_ready (rs := [1]) (by kernel_rfl) (by simp) ?_
                      refine AllReadyH.cons (o := { dst := some 35, op := Go.Op.load 31 (Go.Operand.tmp 34), type := 31, pos := "l03_disk.go:105", after := #[{ on := 0, ground := Go.Ground.data }], guard := none }) rfl (fun K hK => ?k111) AllReadyH.nil
                      go_simp
                      refine hK.out _ _ ?s111 (fun hHeld => ?_)
                      case s111 => ((try dsimp only); (go_split_ands; (repeat' apply And.intro) <;> (first | assumption | exact set2_other (by assumption) _ (by omega))))
                      clear hK K
                      try simp only [Act.put, List.setIfInBounds_toArray, List.set_cons_zero, List.set_cons_succ]
                      refine wpAnyH_ready (rs := [10]) (by kernel_rfl) (by simp) ?_
                      refine AllReadyH.cons (o := { dst := some 44, op := Go.Op.call { callee := Go.Callee.builtin Go.Builtin.append, args := #[Go.Operand.tmp 35, Go.Operand.tmp 43], argTypes := #[31, 31] }, type := 31, pos := "l03_disk.go:105", after := #[{ on := 1, ground := Go.Ground.data }, { on := 9, ground := Go.Ground.data }, { on := 7, ground := Go.Ground.chain }], guard := none }) rfl (fun K hK => ?k112) AllReadyH.nil
                      refine step_app _ (by rfl) _ _ 31 (by rfl) 74 wi0 (.agg #[.int .i64 0, .slice none 0 0]) 2 32 Try.underlying31 hwi0 hwz0 hwz1 hwz2 rfl (by omega) (by rfl) htt 1 (by rfl) tr (fun u hu => twoR hu rfl rfl) (by unfold maxLen; omega) (by omega) (by omega) ?_
                      intro A2 c2 v6 hO hE hK2
                      have he6 : Eff ta tb v5 v6 := hE
                      have hz6 : v5.heap.size ≤ v6.heap.size := he6.size
                      have b6 : Below W.heap.size W v6 := b5.trans (he6.below b5.size (by omega))
                      replace hi := (hi.below (he6.below (B := W.heap.size) (by omega) (by omega)) (Nat.le_refl _))
                      replace hD := hD.keep he6 (by omega)
                      replace y := y.keep he6 (by omega)
                      replace hr2 := (he6.frozen hr0 (by simp only; omega)).trans hr2
                      replace hr3 := (he6.frozen hr1 (by simp only; omega)).trans hr3
                      replace ho2 := (he6.frozen ho0 (by simp only; omega)).trans ho2
                      replace ho3 := (he6.frozen ho1 (by simp only; omega)).trans ho3
                      replace ha0 := he6.cell ha0 (by simp only; omega)
                      replace ha1 := he6.cell ha1 (by simp only; omega)
                      replace hr0 := he6.cell hr0 (by simp only; omega)
                      replace hr1 := he6.cell hr1 (by simp only; omega)
                      replace ho0 := he6.cell ho0 (by simp only; omega)
                      replace ho1 := he6.cell ho1 (by simp only; omega)
                      replace x_0 := he6.cell x_0 (by simp only; omega)
                      replace x_1 := he6.cell x_1 (by simp only; omega)
                      replace x_l := Nat.lt_of_lt_of_le x_l hz6
                      replace hC := hC.snoc (y := ⟨px, Ay, nx, cy, lx⟩) hey y1 hta HTQ.out heb hO hE hK2
                      clear hE hO hK2 tr htt y y1 hey heb
                      refine hK.out _ _ ?s112 (fun hHeld => ?_)
                      case s112 => ((try dsimp only); (go_split_ands; (repeat' apply And.intro) <;> (first | assumption | exact set2_other (by assumption) _ (by omega))))
                      clear hK K
                      try simp only [Act.put, List.setIfInBounds_toArray, List.set_cons_zero, List.set_cons_succ]
                      refine wpAnyH_take (i := 11) (oi := { dst := some 45, op := Go.Op.fieldAddr 33 (Go.Operand.tmp 3) 1, type := 0, pos := "l03_disk.go:105", after := #[{ on := 0, ground := Go.Ground.phase }, { on := 1, ground := Go.Ground.phase }, { on := 2, ground := Go.Ground.phase }, { on := 3, ground := Go.Ground.phase }, { on := 4, ground := Go.Ground.phase }, { on := 5, ground := Go.Ground.phase }, { on := 6, ground := Go.Ground.phase }, { on := 7, ground := Go.Ground.phase }, { on := 8, ground := Go.Ground.phase }, { on := 9, ground := Go.Ground.phase }, { on := 10, ground := Go.Ground.phase }], guard := none }) (v := ?v113) rfl (by kernel_rfl) (by kernel_rfl) (by kernel_rfl) (fun _ _ _ h => h) (Or.inl ⟨by rfl, ?y113⟩) (by assumption) ?_
                      case y113 => (intro w hSw; (try dsimp only at hSw); go_simp; first | done | with_reducible rfl)
                      try simp only [Act.put, List.setIfInBounds_toArray, List.set_cons_zero, List.set_cons_succ]
                      refine wpAnyH_ready (rs := [12]) (by kernel_rfl) (by simp) ?_
                      refine AllReadyH.cons (o := { dst := none, op := Go.Op.store 31 (Go.Operand.tmp 45) (Go.Operand.tmp 44), type := 0, pos := "l03_disk.go:105", after := #[{ on := 11, ground := Go.Ground.data }, { on := 10, ground := Go.Ground.data }, { on := 10, ground := Go.Ground.chain }, { on := 0, ground := Go.Ground.phase }, { on := 1, ground := Go.Ground.phase }, { on := 2, ground := Go.Ground.phase }, { on := 3, ground := Go.Ground.phase }, { on := 4, ground := Go.Ground.phase }, { on := 5, ground := Go.Ground.phase }, { on := 6, ground := Go.Ground.phase }, { on := 7, ground := Go.Ground.phase }, { on := 8, ground := Go.Ground.phase }, { on := 9, ground := Go.Ground.phase }, { on := 10, ground := Go.Ground.phase }], guard := none }) rfl (fun K hK => ?k114) AllReadyH.nil
                      go_simp
                      refine hK.out _ _ ?s114 (fun hHeld => ?_)
                      case s114 => ((try dsimp only); (go_split_ands; (repeat' apply And.intro) <;> (first | assumption | exact set2_other (by assumption) _ (by omega))))
                      clear hK K
                      try simp only [Act.put]
                      refine wpAnyH_done (by kernel_rfl) ?_ _
                      have hest : Eff (W.heap.size + 1 + 1) (W.heap.size + 1 + 1 + 1) v6 (v6.setCell ⟨W.heap.size + 1 + 1, 1, none⟩ (.slice A2 (k + 1) c2)) := eff_set _ _ _ _
                      have hsst : (v6.setCell ⟨W.heap.size + 1 + 1, 1, none⟩ (.slice A2 (k + 1) c2)).heap.size = v6.heap.size := (by simp)
                      replace hC := (hC.keep hest (by omega)).wide (Nat.le_refl _) (Nat.le_of_eq hsst.symm) (Nat.le_refl _)
                      replace hD := hD.keep hest (by omega)
                      replace ha0 := hest.cell ha0 (by simp only; omega)
                      replace ha1 := hest.cell ha1 (by simp only; omega)
                      replace hr0 := hest.cell hr0 (by simp only; omega)
                      replace hr1 := hest.cell hr1 (by simp only; omega)
                      replace ho0 := set_other (b' := W.heap.size + 1 + 1) (o' := 1) ho0 (.slice A2 (k + 1) c2) (.inr (by omega))
                      replace ho1 := set_same ho1 (.slice A2 (k + 1) c2)
                      replace hr2 := set_frozen (p := ⟨W.heap.size + 1 + 1, 1, none⟩) hr2 (.slice A2 (k + 1) c2)
                      replace hr3 := set_frozen (p := ⟨W.heap.size + 1 + 1, 1, none⟩) hr3 (.slice A2 (k + 1) c2)
                      replace ho2 := set_frozen (p := ⟨W.heap.size + 1 + 1, 1, none⟩) ho2 (.slice A2 (k + 1) c2)
                      replace ho3 := set_frozen (p := ⟨W.heap.size + 1 + 1, 1, none⟩) ho3 (.slice A2 (k + 1) c2)
                      have hbf : Below W.heap.size W (v6.setCell ⟨W.heap.size + 1 + 1, 1, none⟩ (.slice A2 (k + 1) c2)) := b6.trans (hest.below b6.size (by omega))
                      go_wp2_with fail
                      go_roundw
                      case rel => exact ⟨k + 1, A2, c2, es ++ [⟨px, Ay, nx, cy, lx⟩], by omega, by go_num, hbf, by omega, ha0, ha1, hr0, hr1, ho0, ho1, hr2, hr3, ho2, ho3, hC, Lib.hid (by rw [List.map_append, HD.out, List.take_add_one, List.getElem?_map, HX.out]; rfl), hD⟩
                      case measure => simp [intOf]; omega
        · have hge : nw = k := by omega
          subst hge
          clear hk hlt
          go_wp2
          refine bodyPost_ret (v := .agg #[.slice Cr nc gr, .slice Ar nw cr]) (by simp [results, Try.results59, go_sem, *]) rfl ?_
          exact copied HG.out (by rw [HD.out, List.take_of_length_le (by rw [List.length_map, HLW.out]; exact Nat.le_refl _)]) hD hC hb (g' := W.heap.size + 1) (by omega) (by omega)
end Go.Proofs.Ytblenfhacaecmaa
