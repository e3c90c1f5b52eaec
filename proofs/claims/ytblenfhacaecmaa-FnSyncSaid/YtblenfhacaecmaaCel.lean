/- Rows of cells and writes: to, sz, eq, mark, held. -/
import Derived.Test.YtblenfhacaecmaaRws
import Derived.Deep.RegionHeld3
namespace Go.Proofs.Ytblenfhacaecmaa
open Go.RowKit
theorem ret_intR {a b : Int} (h : a = b) : Ending.returned (.int .i64 a) = .returned (.int .i64 b) := by rw [h]
theorem markByteS_z (A : Option Addr) (n c : Nat) (l : List UInt8) (lo hi k0 : Nat) (w : World) (ho : OwnB w lo hi A n c l) (hk0 : k0 ≤ 4611686018427387904) (hn : n ≤ 1099511627776) (z : Int) (hz : z = (k0 : Int)) :
    Calls Try.prog 18 #[.slice A n c, .int .i64 z] w (MarkedB A n c k0 lo hi w) := by subst hz; exact markByteS_any A n c l lo hi k0 w ho hk0 hn
theorem heldByteS_z (A : Option Addr) (n c k0 : Nat) (w : World) (hr : Rd w w.heap.size 1 A n (Lib.byteCells (marksB k0 n))) (hk0 : k0 ≤ 4611686018427387904) (hn : n ≤ 1099511627776) (z : Int) (hz : z = (k0 : Int)) :
    Calls Try.prog 19 #[.slice A n c, .int .i64 z] w fun e w' => e = .returned (.int .i64 ((k0 + n : Nat) : Int)) ∧ Below w.heap.size w w' := by subst hz; exact heldByteS_yes A n c k0 w hr hk0 hn
/-- A struct 'Cell' with an inner slice. -/
structure Ce where
  A : Option Addr
  n : Nat
  c : Nat
  l : List UInt8
def Ce.f (x : Ce) : List Value := [.slice x.A x.n x.c]
def Ce.g (x : Ce) : Sl := ⟨x.A, x.n, x.c, Lib.byteCells x.l⟩
def Ce.d (x : Ce) : List UInt8 := x.l
theorem Ce.hf (x : Ce) : x.f.length = 1 := rfl
abbrev RdCell (w : World) (B : Nat) (A : Option Addr) (n : Nat) (es : List Ce) : Prop := RdR 1 1 Ce.f Ce.g w B A n es
abbrev OwnCell (w : World) (lo hi : Nat) (A : Option Addr) (n c : Nat) (es : List Ce) : Prop := OwnR 76 1 5 1 Ce.f Ce.g w lo hi A n c es
theorem info_Cell : (Try.prog.info? 76).map (fun i => (i.zero, i.size, i.bytes)) = some (some (.agg #[.slice none 0 0]), 1, 24) := by kernel_rfl
/-- Rows of the call's own. -/
def MadeCellS (n : Nat) (ds : List (List UInt8)) (w : World) (e : Ending) (w' : World) : Prop :=
  ∃ A c es, e = .returned (.slice A n c) ∧ es.map Ce.d = ds ∧ OwnCell w' w.heap.size w'.heap.size A n c es ∧ Below w.heap.size w w'
/-- A struct whose inner slice is the call's own. -/
def MadeCell (n : Nat) (l : List UInt8) (w : World) (e : Ending) (w' : World) : Prop :=
  ∃ A c, e = .returned (.agg #[.slice A n c]) ∧ Own 5 1 w' w.heap.size w'.heap.size A n c (Lib.byteCells l) ∧ Below w.heap.size w w'
set_option maxHeartbeats 400000 in
theorem toCell_any (A : Option Addr) (n c : Nat) (l : List UInt8) (w : World) (hr : Rd w w.heap.size 1 A n (Lib.byteCells l)) (hn : n ≤ 1099511627776) :
    Calls Try.prog 75 #[.agg #[.slice A n c]] w (MadeCell n l w) := by
  go_enter Try.func75, Try.ntmps75
  go_wp2_with (go_at_call 21; refine (toByteS_any A n c l _ ((((hr.alloc (Nat.le_refl _) _).alloc (by simp) _).alloc (by simp; omega) _).more (by simp; omega)) hn).mono ?_; rintro e w1 ⟨A1, c1, rfl, t1, hb1⟩; have hz1 := hb1.size; (try simp at hz1); have hk0 := fun o => hb1.cell (p := ⟨w.heap.size, o, none⟩) (by first | omega | (simp; omega) | (simp; done)); have hf0 := fun o => hb1.frozen (p := ⟨w.heap.size, o, none⟩) (by first | omega | (simp; omega) | (simp; done)); have hk1 := fun o => hb1.cell (p := ⟨w.heap.size + 1, o, none⟩) (by first | omega | (simp; omega) | (simp; done)); have hf1 := fun o => hb1.frozen (p := ⟨w.heap.size + 1, o, none⟩) (by first | omega | (simp; omega) | (simp; done)); have hk1_1 := fun o => hb1.cell (p := ⟨w.heap.size + 1 + 1, o, none⟩) (by first | omega | (simp; omega) | (simp; done)); have hf1_1 := fun o => hb1.frozen (p := ⟨w.heap.size + 1 + 1, o, none⟩) (by first | omega | (simp; omega) | (simp; done)))
  refine bodyPost_ret (v := .agg #[.slice A1 n c1]) (by simp [results, Try.results75, go_sem, *]) rfl ?_
  refine ⟨A1, c1, rfl, Own.madeR t1 (lo' := w.heap.size) (hi' := w.heap.size + 3) ?_ ?_ ?_, ?_⟩
  · repeat' (first | exact Eff.refl _ _ _ | (refine Eff.setCell ?_ ?_ ?_ _) | omega | (simp; omega) | (simp; done))
  · first | (simp; done) | (simp; omega)
  · first | (simp; done) | (simp; omega)
  · repeat' (first | exact Below.refl _ _ | (refine Below.alloc ?_ ?_ _) | (refine Below.drew ?_) | (refine Below.setCell ?_ ?_ _) | (refine Below.trans ?_ (Below.mono (by assumption) ?_)) | omega | (simp; omega) | (simp; done) | exact Below.size (by assumption) | (refine Nat.le_trans ?_ (Below.size (by assumption))))
set_option maxHeartbeats 400000 in
theorem eqCell_same (A : Option Addr) (n c : Nat) (A' : Option Addr) (n' c' : Nat) (l : List UInt8) (w : World) (hr : Rd w w.heap.size 1 A n (Lib.byteCells l)) (hr' : Rd w w.heap.size 1 A' n' (Lib.byteCells l)) (hn : n ≤ 1099511627776) (hn' : n' ≤ 1099511627776) :
    Calls Try.prog 77 #[.agg #[.slice A n c], .agg #[.slice A' n' c']] w fun e w' => e = .returned (.bool true) ∧ Below w.heap.size w w' := by
  go_enter Try.func77, Try.ntmps77
  go_wp2_with fail
  refine (eqByteS_any A n c l A' n' c' l _ (((hr.alloc (Nat.le_refl _) _).alloc (by simp) _).more (by simp; omega)) (((hr'.alloc (Nat.le_refl _) _).alloc (by simp) _).more (by simp; omega)) hn hn').mono ?_
  rintro e w1 ⟨rfl, hb1⟩
  rw [eqL_self]
  go_wp2
  go_ret
  exact ⟨rfl, ((((Below.refl w.heap.size w).alloc (Nat.le_refl _) _).alloc (by simp) _).trans (hb1.mono (by simp; omega)))⟩
theorem szCell_any (A : Option Addr) (n c : Nat) (left : Int) (hn : n ≤ 9223372036854775807) (hl : -1 ≤ left ∧ left ≤ 4611686018427387904) (w : World) :
    Calls Try.prog 73 #[.agg #[.slice A n c], .int .i64 left] w fun e w' => e = .returned (.int .i64 (if left - (n : Int) < 0 then -1 else left - (n : Int))) ∧ Below w.heap.size w w' := by
  by_cases h : left - (n : Int) < 0
  · rw [if_pos h]
    go_enter Try.func73, Try.ntmps73
    go_wp2_with (go_at_call 85; refine (szByteS_any _ _ _ _ hn hl _).mono ?_; rintro e w1 ⟨rfl, rfl⟩; rw [if_pos h])
    go_ret
    exact ⟨rfl, (Below.refl _ _).alloc (Nat.le_refl _) _⟩
  · rw [if_neg h]
    go_enter Try.func73, Try.ntmps73
    go_wp2_with (go_at_call 85; refine (szByteS_any _ _ _ _ hn hl _).mono ?_; rintro e w1 ⟨rfl, rfl⟩; rw [if_neg h])
    go_ret
    exact ⟨rfl, (Below.refl _ _).alloc (Nat.le_refl _) _⟩
set_option maxHeartbeats 1000000 in
set_option maxRecDepth 100000 in
theorem toCellS_any (A : Option Addr) (n c : Nat) (es : List Ce) (w : World) (hr : RdCell w w.heap.size A n es) (hn : n ≤ 1099511627776) (hns : ∀ x ∈ es, x.n ≤ 1099511627776) :
    Calls Try.prog 51 #[.slice A n c] w (MadeCellS n (es.map Ce.d) w) := by
  obtain ⟨i0, hi0, hz0, hz1, hz2⟩ := info_parts info_Cell
  have hl := hr.len Ce.hf (by omega)
  have HL := Lib.hid hl
  have HNS := Lib.hid hns
  clear hl hns
  go_enter Try.func51, Try.ntmps51
  go_wp2_with (at_make; refine wpList_make_full _ rfl _ _ 30 rfl w.heap.size 76 i0 (.agg #[.slice none 0 0]) 1 Try.underlying30 hi0 hz0 hz1 _ _ _ _ n rfl rfl rfl rfl (by rw [hz2]; omega) (by unfold maxLen; omega) (Nat.le_refl _) ?_; intro w1 hown1 hg1)
  have hb1 : Below w.heap.size w w1 := (Below.refl _ _).grown hg1 (Nat.le_refl _) (by simp)
  have hs1 : w.heap.size < w1.heap.size := (hown1.lt w.heap.size rfl).2
  clear hg1
  go_loopw [4] (fun vi wr => ∃ (k : Nat) (es' : List Ce), k ≤ n ∧ vi = .int .i64 (k : Int) ∧ Fill 76 1 5 1 Ce.f Ce.g wr w.heap.size w1.heap.size n k es' ∧ Hid (es'.map Ce.d = (es.map Ce.d).take k) ∧ Below w.heap.size w wr) (fun vi _ => n - (intOf vi).toNat)
  case atStart => exact ⟨0, [], Nat.zero_le _, rfl, Fill.start ⟨hown1, fun j hj => (hown1.lt j hj).2, Nat.le_refl _⟩ hs1, Lib.hid (by simp), hb1⟩
  case round =>
    obtain ⟨k, es', hk, rfl, hF, HD, hb⟩ := hrel
    by_cases hlt : k < n
    · have hkk := hlt
      obtain ⟨b, off, ⟨Ax, nx, cx, lx⟩, rfl, hbB, hx, hcell, hi, hcap⟩ := (hr.below hb (Nat.le_refl _)).elem Ce.hf (by omega) hlt
      have cc0 : wr.cell? ⟨b, off + k, none⟩ = some (.slice Ax nx cx) := by have := hcell 0 _ rfl; simpa [Nat.mul_one, Nat.add_assoc] using this
      have HX := Lib.hid hx
      clear hcell hx
      have hnx : nx ≤ 1099511627776 := HNS.out _ (List.mem_of_getElem? HX.out)
      have hz := hb.size
      go_wp2_with fail
      refine (toCell_any Ax nx cx lx wr (hi.more hz) hnx).mono ?_
      rintro e w2 ⟨A1, c1, rfl, t1, hb2⟩
      have hF2 := hF.keep (Eff.of hb2)
      obtain ⟨u0, d0⟩ := hF2.cell hlt 0 (by omega)
      have f0 := hF2.free hlt (k)
      replace d0 : w2.cell? ⟨w.heap.size, k, none⟩ = some u0 := by simpa [Nat.mul_one] using d0
      go_wp2
      go_roundw
      case rel =>
        refine ⟨k + 1, es' ++ [⟨A1, nx, c1, lx⟩], by omega, by go_num, hF.step Ce.hf (w' := w2) (Eff.of hb2) (y := ⟨A1, nx, c1, lx⟩) t1 (((Eff.refl _ _ _).setCell (by simp only; omega) (by simp only; omega) _)) (by simp) (fun xs hx => store1 hx k hlt (.slice A1 nx c1)), Lib.hid ?_, ((hb.trans (hb2.mono hz))).setCell (Nat.le_refl _) _⟩
        rw [List.map_append, HD.out, List.take_add_one, List.getElem?_map, HX.out]; rfl
      case measure => simp [intOf]; omega
    · have hge : k = n := by omega
      subst hge
      go_wp2
      go_ret
      refine ⟨_, _, es', rfl, ?_, hF.done Ce.hf, hb⟩
      rw [HD.out, List.take_of_length_le (by rw [List.length_map, HL.out]; exact Nat.le_refl _)]
set_option maxHeartbeats 1000000 in
set_option maxRecDepth 100000 in
theorem eqCellS_same (A : Option Addr) (n c : Nat) (es : List Ce) (A' : Option Addr) (n' c' : Nat) (es' : List Ce) (w : World) (hr : RdCell w w.heap.size A n es) (hr' : RdCell w w.heap.size A' n' es') (hd : es.map Ce.d = es'.map Ce.d) (hn : n ≤ 1099511627776) (hns : ∀ x ∈ es, x.n ≤ 1099511627776) (hns' : ∀ x ∈ es', x.n ≤ 1099511627776) :
    Calls Try.prog 55 #[.slice A n c, .slice A' n' c'] w fun e w' => e = .returned (.bool true) ∧ Below w.heap.size w w' := by
  have hl := hr.len Ce.hf (by omega)
  have hl' := hr'.len Ce.hf (by omega)
  have hln := congrArg List.length hd
  simp only [List.length_map] at hln
  obtain rfl : n' = n := by omega
  have hnn : ((n' : Int) != (n' : Int)) = false := by simp
  have HNS := Lib.hid hns
  have HNS' := Lib.hid hns'
  have HD := Lib.hid hd
  clear hl hl' hln hns hns' hd
  go_enter Try.func55, Try.ntmps55
  go_wp2
  go_loopw [5] (fun vi wr => ∃ k : Nat, k ≤ n' ∧ vi = .int .i64 (k : Int) ∧ Below w.heap.size w wr) (fun vi _ => n' - (intOf vi).toNat)
  case atStart => exact ⟨0, Nat.zero_le _, rfl, Below.refl _ _⟩
  case round =>
    obtain ⟨k, hk, rfl, hb⟩ := hrel
    by_cases hlt : k < n'
    · have hkk := hlt
      obtain ⟨b, off, ⟨Ax, nx, cx, lx⟩, rfl, hbB, hx, hcell, hi, hcap⟩ := (hr.below hb (Nat.le_refl _)).elem Ce.hf (by omega) hlt
      have cc0 : wr.cell? ⟨b, off + k, none⟩ = some (.slice Ax nx cx) := by have := hcell 0 _ rfl; simpa [Nat.mul_one, Nat.add_assoc] using this
      have HX := Lib.hid hx
      clear hcell hx
      obtain ⟨b', off', ⟨A'x, n'x, c'x, l'x⟩, rfl, hbB', hx', hcell', hi', hcap'⟩ := (hr'.below hb (Nat.le_refl _)).elem Ce.hf (by omega) hlt
      have cc0' : wr.cell? ⟨b', off' + k, none⟩ = some (.slice A'x n'x c'x) := by have := hcell' 0 _ rfl; simpa [Nat.mul_one, Nat.add_assoc] using this
      have HX' := Lib.hid hx'
      clear hcell' hx'
      have hdd := congrArg (fun l => l[k]?) HD.out
      simp only [List.getElem?_map, HX.out, HX'.out, Option.map_some, Option.some.injEq, Ce.d] at hdd

      obtain rfl : lx = l'x := hdd
      (try clear hdd)
      have hnx : nx ≤ 1099511627776 := HNS.out _ (List.mem_of_getElem? HX.out)
      have hnx' : n'x ≤ 1099511627776 := HNS'.out _ (List.mem_of_getElem? HX'.out)
      have hz := hb.size
      have i0 : (0 : Int) ≤ (k : Int) := by omega
      have i1 : (k : Int) < (n' : Int) := by omega
      have hi1 := hi.more hz
      have hi1' := hi'.more hz
      go_wp2
      go_region_held3 (fun w' => w'.cell? ⟨b, off + k, none⟩ = some (.slice Ax nx cx) ∧ w'.cell? ⟨b', off' + k, none⟩ = some (.slice A'x n'x c'x)) ((go_split_ands; (repeat' apply And.intro) <;> (first | assumption | exact (Below.cell (by assumption) (by first | omega | (simp; done) | (simp; omega))).trans (by assumption)))) (first | (go_at_call 77; refine (eqCell_same Ax nx cx A'x n'x c'x lx _ (hi1.drew) (hi1'.drew) hnx hnx').mono ?_; rintro e w2 ⟨rfl, hb2⟩))
      go_wp2
      go_roundw
      case rel => exact ⟨k + 1, by omega, by go_num, hb.drew.trans (hb2.mono hz)⟩
      case measure => simp [intOf]; omega
    · have hge : k = n' := by omega
      subst hge
      go_wp2
      go_ret
      exact ⟨rfl, hb⟩
set_option maxHeartbeats 1000000 in
set_option maxRecDepth 100000 in
theorem szCellS_any (A : Option Addr) (n c : Nat) (es : List Ce) (left : Int) (w : World) (hr : RdCell w w.heap.size A n es) (hl : -1 ≤ left ∧ left ≤ 4611686018427387904) (hn : n ≤ 9223372036854775807) :
    Calls Try.prog 48 #[.slice A n c, .int .i64 left] w fun e w' => e = .returned (.int .i64 (if left - (totS 1 1 (es.map Ce.n) : Int) < 0 then -1 else left - (totS 1 1 (es.map Ce.n) : Int))) ∧ Below w.heap.size w w' := by
  obtain ⟨hl1, hl2⟩ := hl
  have hel := hr.len Ce.hf (by omega)
  have htl : n ≤ totS 1 1 (es.map Ce.n) := by have := totS_len (s := 1) (ns := es.map Ce.n); rw [List.length_map, hel] at this; exact this
  obtain ⟨r, hr0⟩ : ∃ r, (if left - (totS 1 1 (es.map Ce.n) : Int) < 0 then -1 else left - (totS 1 1 (es.map Ce.n) : Int)) = r := ⟨_, rfl⟩
  rw [hr0]
  have HR := Lib.hid hr0
  have HEL := Lib.hid hel
  have HTL := Lib.hid htl
  clear hr0 hel htl
  by_cases h0 : left - (n : Int) < 0
  · obtain rfl : r = -1 := by rw [← HR.out, if_pos (by have := HTL.out; omega)]
    go_enter Try.func48, Try.ntmps48
    go_wp2
    go_ret
    exact ⟨rfl, Below.refl _ _⟩
  have h0' : 0 ≤ left - (n : Int) := by omega
  clear h0
  go_enter Try.func48, Try.ntmps48
  go_wp2
  go_loopw [1, 5] (fun vl vi wr => ∃ (k : Nat) (lv : Int), k ≤ n ∧ vi = .int .i64 (k : Int) ∧ vl = .int .i64 lv ∧ 0 ≤ lv ∧ lv ≤ 4611686018427387904 ∧ Hid (lv = left - (n : Int) - (ofs 0 1 (es.map Ce.n) k : Int)) ∧ Below w.heap.size w wr) (fun _ vi _ => n - (intOf vi).toNat)
  case atStart => exact ⟨0, left - (n : Int), Nat.zero_le _, rfl, rfl, h0', by omega, Lib.hid (by rw [ofs_zero]; simp), Below.refl _ _⟩
  case round =>
    obtain ⟨k, lv, hk, rfl, rfl, hv0, hv1, HV, hb⟩ := hrel
    by_cases hlt : k < n
    · have hkk := hlt
      obtain ⟨b, off, ⟨Ax, nx, cx, lx⟩, rfl, hbB, hx, hcell, hi, hcap⟩ := (hr.below hb (Nat.le_refl _)).elem Ce.hf (by omega) hlt
      have cc0 : wr.cell? ⟨b, off + k, none⟩ = some (.slice Ax nx cx) := by have := hcell 0 _ rfl; simpa [Nat.mul_one, Nat.add_assoc] using this
      have HX := Lib.hid hx
      clear hcell hx
      have HS := Lib.hid (ofs_succ (sc := 0) (s := 1) (ns := es.map Ce.n) (j := k) (n := nx) (by rw [List.getElem?_map, HX.out]; rfl))
      have hcap1 : nx ≤ cx := hcap.1
      have hcap2 : cx ≤ maxLen := hcap.2
      clear hcap
      unfold maxLen at hcap2
      have hz := hb.size
      by_cases hneg : lv - (nx : Int) < 0
      · go_wp2_with fail
        refine (szCell_any Ax nx cx lv (by omega) ⟨by omega, by omega⟩ wr).mono ?_
        rintro e w2 ⟨rfl, hb2⟩
        rw [if_pos hneg]
        go_wp2
        go_ret
        refine ⟨?_, hb.trans (hb2.mono hz)⟩
        have hc : left - (totS 1 1 (es.map Ce.n) : Int) < 0 := by
          have h1 := HS.out
          have h2 := HV.out
          have h3 := ofs_tot (ns := es.map Ce.n) (j := k + 1)
          rw [List.length_map, HEL.out] at h3
          omega
        exact ret_intR (by rw [← HR.out, if_pos hc])
      · have hpos : 0 ≤ lv - (nx : Int) := by omega
        clear hneg
        go_wp2_with fail
        refine (szCell_any Ax nx cx lv (by omega) ⟨by omega, by omega⟩ wr).mono ?_
        rintro e w2 ⟨rfl, hb2⟩
        rw [if_neg (by omega)]
        go_wp2
        go_roundw
        case rel => exact ⟨k + 1, lv - (nx : Int), by omega, by go_num, rfl, hpos, by omega, Lib.hid (by rw [HS.out, HV.out]; omega), hb.trans (hb2.mono hz)⟩
        case measure => simp [intOf]; omega
    · have hge : k = n := by omega
      subst hge
      go_wp2
      go_ret
      refine ⟨?_, hb⟩
      have h2 := HV.out
      have h3 := ofs_tot (ns := es.map Ce.n) (j := k)
      rw [List.length_map, HEL.out] at h3
      have h4 := ofs_end (ns := es.map Ce.n)
      rw [List.length_map, HEL.out] at h4
      exact ret_intR (by rw [← HR.out, if_neg (by omega)]; omega)
/-- The marks from k on of structs whose slices have these lengths. -/
def marksCell (k : Nat) (ns : List Nat) : List (List UInt8) := marksR (fun k n => marksB k n) 0 1 k ns
theorem marksCell_get {k j n : Nat} {ns : List Nat} (h : ns[j]? = some n) : (marksCell k ns)[j]? = some (marksB (k + ofs 0 1 ns j) n) := marksR_get h
theorem marksCell_len {k : Nat} {ns : List Nat} : (marksCell k ns).length = ns.length := marksR_len
/-- What markCellS leaves. -/
def MarkedCellS (A : Option Addr) (n c k lo hi : Nat) (ns : List Nat) (w : World) (e : Ending) (w' : World) : Prop :=
  ∃ es : List Ce, e = .returned (.int .i64 ((k + totS 0 1 ns : Nat) : Int)) ∧ es.map Ce.d = marksCell k ns ∧ es.map Ce.n = ns ∧ OwnCell w' lo hi A n c es ∧ Eff lo hi w w'
set_option maxHeartbeats 1000000 in
set_option maxRecDepth 100000 in
theorem markCellS_any (A : Option Addr) (n c : Nat) (es : List Ce) (ns : List Nat) (lo hi k0 : Nat) (w : World) (ho : OwnCell w lo hi A n c es) (hns : es.map Ce.n = ns) (hk0 : k0 + totS 0 1 ns ≤ 4611686018427387904) (hn : n ≤ 1099511627776) (hnb : ∀ m ∈ ns, m ≤ 1099511627776) :
    Calls Try.prog 57 #[.slice A n c, .int .i64 (k0 : Int)] w (MarkedCellS A n c k0 lo hi ns w) := by
  have hel := ho.len Ce.hf (by omega)
  have hlohi := ho.lohi
  have HEL := Lib.hid hel
  have HNB := Lib.hid hnb
  have HNS := Lib.hid hns
  clear hel hnb hns
  go_enter Try.func57, Try.ntmps57
  go_wp2
  go_loopw [1, 5] (fun vk vi wr => ∃ (k kv : Nat) (es' : List Ce), k ≤ n ∧ vk = .int .i64 (kv : Int) ∧ vi = .int .i64 (k : Int) ∧ Hid (kv = k0 + ofs 0 1 ns k) ∧ OwnCell wr lo hi A n c es' ∧ Hid (es'.map Ce.n = ns) ∧ Hid (∀ j, j < k → (es'.map Ce.d)[j]? = (marksCell k0 ns)[j]?) ∧ Eff lo hi w wr) (fun _ vi _ => n - (intOf vi).toNat)
  case atStart => exact ⟨0, k0, es, Nat.zero_le _, rfl, rfl, Lib.hid (by rw [ofs_zero]; rfl), ho, HNS, Lib.hid (fun j hj => absurd hj (by omega)), Eff.refl _ _ _⟩
  case round =>
    obtain ⟨k, kv, es', hk, rfl, rfl, HK, hF, HNS', HD, he⟩ := hrel
    by_cases hlt : k < n
    · obtain ⟨gb, ⟨Ax, nx, cx, lx⟩, rfl, hg1, hg2, hx, hcell, hfr, hi⟩ := hF.outs Ce.hf (by omega) hlt
      have cc0 : wr.cell? ⟨gb, k, none⟩ = some (.slice Ax nx cx) := by have := hcell 0 _ rfl; simpa [Nat.mul_one, Nat.add_assoc] using this
      have ff0 := hfr (k)
      have HX := Lib.hid hx
      clear hcell hfr hx
      have HN := Lib.hid (show ns[k]? = some nx by rw [← HNS'.out, List.getElem?_map, HX.out]; rfl)
      have hnx : nx ≤ 1099511627776 := HNB.out _ (List.mem_of_getElem? HN.out)
      have HS := Lib.hid (ofs_succ (sc := 0) (s := 1) HN.out)
      have hkv : kv + 0 + nx * 1 ≤ 4611686018427387904 := by have := HS.out; have := HK.out; have := ofs_le (sc := 0) (s := 1) (ns := ns) (j := k + 1); omega
      obtain ⟨ta, tb, hti, hta, htab, htb, htt⟩ := hi.tight hlohi
      have HTT := Lib.hid htt
      clear htt
      have hsep : ¬ (ta ≤ gb ∧ gb < tb) := fun h => hF.inn.out _ (List.mem_of_getElem? HX.out) gb (HTT.out gb h.1 h.2) rfl
      go_wp2_with fail
      have E1 : Eff gb (gb + 1) wr wr := Eff.refl _ _ _
      have hti1 := Own.keep hti E1 (by omega)
      refine (markByteS_z Ax nx cx lx ta tb (kv + 0) _ hti1 (by omega) hnx _ (by simp)).mono ?_
      rintro e w2 ⟨rfl, h1, h2⟩
      go_wp2
      go_roundw
      case rel =>
        refine ⟨k + 1, kv + 0 + nx * 1, es'.set k ⟨Ax, nx, cx, marksB kv nx⟩, by omega, by go_num, by go_num, Lib.hid (by rw [HS.out, HK.out]; omega), ?_, Lib.hid ?_, Lib.hid ?_, he.trans ((E1.wide (by omega) (by omega)).trans (h2.wide (by omega) (by omega)))⟩
        · refine hF.mark HX.out rfl hta htb HTT.out ?_ E1 (fun q h1 h2 => by show some gb = some q; congr 1; omega) h2 h1
          rw [flat_same Ce.hf HX.out (y := ⟨Ax, nx, cx, marksB kv nx⟩) rfl]; exact hF.row
        · rw [List.map_set, HNS'.out]
          apply List.ext_getElem?
          intro j
          rw [List.getElem?_set]
          by_cases hj : k = j
          · subst hj; rw [if_pos rfl, if_pos (List.getElem?_eq_some_iff.1 HN.out).1, HN.out]
          · rw [if_neg hj]
        · intro j hj
          rw [List.map_set, List.getElem?_set]
          by_cases hjk : k = j
          · subst hjk
            rw [if_pos rfl, if_pos (by rw [List.length_map]; exact (List.getElem?_eq_some_iff.1 HX.out).1), marksCell_get HN.out]
            have hk1 := HK.out
            subst hk1
            rfl
          · rw [if_neg hjk]
            exact HD.out j (by omega)
      case measure => simp [intOf]; omega
    · have hge : k = n := by omega
      subst hge
      go_wp2
      go_ret
      have hle : ns.length = k := by rw [← HNS.out, List.length_map, HEL.out]
      refine ⟨es', ret_intR (by rw [HK.out]; unfold totS; rw [hle]), ?_, HNS'.out, hF, he⟩
      apply List.ext_getElem?
      intro j
      by_cases hj : j < k
      · exact HD.out j hj
      · rw [List.getElem?_eq_none (by rw [List.length_map, hF.len Ce.hf (by omega)]; omega), List.getElem?_eq_none (by rw [marksCell_len, hle]; omega)]
set_option maxHeartbeats 1000000 in
set_option maxRecDepth 100000 in
theorem heldCellS_yes (A : Option Addr) (n c : Nat) (es : List Ce) (ns : List Nat) (k0 : Nat) (w : World) (hr : RdCell w w.heap.size A n es) (hd : es.map Ce.d = marksCell k0 ns) (hns : es.map Ce.n = ns) (hk0 : k0 + totS 0 1 ns ≤ 4611686018427387904) (hn : n ≤ 1099511627776) (hnb : ∀ m ∈ ns, m ≤ 1099511627776) :
    Calls Try.prog 62 #[.slice A n c, .int .i64 (k0 : Int)] w fun e w' => e = .returned (.int .i64 ((k0 + totS 0 1 ns : Nat) : Int)) ∧ Below w.heap.size w w' := by
  have hel := hr.len Ce.hf (by omega)
  have HEL := Lib.hid hel
  have HNB := Lib.hid hnb
  have HNS := Lib.hid hns
  have HD := Lib.hid hd
  clear hel hnb hns hd
  go_enter Try.func62, Try.ntmps62
  go_wp2
  go_loopw [1, 5] (fun vk vi wr => ∃ (k kv : Nat), k ≤ n ∧ vk = .int .i64 (kv : Int) ∧ vi = .int .i64 (k : Int) ∧ Hid (kv = k0 + ofs 0 1 ns k) ∧ Below w.heap.size w wr) (fun _ vi _ => n - (intOf vi).toNat)
  case atStart => exact ⟨0, k0, Nat.zero_le _, rfl, rfl, Lib.hid (by rw [ofs_zero]; rfl), Below.refl _ _⟩
  case round =>
    obtain ⟨k, kv, hk, rfl, rfl, HK, hb⟩ := hrel
    by_cases hlt : k < n
    · have hkk := hlt
      obtain ⟨b, off, ⟨Ax, nx, cx, lx⟩, rfl, hbB, hx, hcell, hi, hcap⟩ := (hr.below hb (Nat.le_refl _)).elem Ce.hf (by omega) hlt
      have cc0 : wr.cell? ⟨b, off + k, none⟩ = some (.slice Ax nx cx) := by have := hcell 0 _ rfl; simpa [Nat.mul_one, Nat.add_assoc] using this
      have HX := Lib.hid hx
      clear hcell hx
      have HN := Lib.hid (show ns[k]? = some nx by rw [← HNS.out, List.getElem?_map, HX.out]; rfl)
      have hnx : nx ≤ 1099511627776 := HNB.out _ (List.mem_of_getElem? HN.out)
      have HS := Lib.hid (ofs_succ (sc := 0) (s := 1) HN.out)
      have hkv : kv + 0 + nx * 1 ≤ 4611686018427387904 := by have := HS.out; have := HK.out; have := ofs_le (sc := 0) (s := 1) (ns := ns) (j := k + 1); omega
      have hdd := congrArg (fun l => l[k]?) HD.out
      simp only [marksCell_get HN.out] at hdd
      rw [List.getElem?_map, HX.out] at hdd
      replace hdd := Option.some.inj hdd
      simp only [Ce.d] at hdd
      obtain rfl : lx = marksB (kv + 0) nx := (hdd).trans (by have h := HK.out; subst h; rfl)
      (try clear hdd)
      have hz := hb.size
      go_wp2_with fail
      refine (heldByteS_z Ax nx cx (kv + 0) wr (hi.more hz) (by omega) hnx _ (by simp)).mono ?_
      rintro e w2 ⟨rfl, hb2⟩
      go_wp2
      go_roundw
      case rel => exact ⟨k + 1, kv + 0 + nx * 1, by omega, by go_num, by go_num, Lib.hid (by rw [HS.out, HK.out]; omega), hb.trans (hb2.mono hz)⟩
      case measure => simp [intOf]; omega
    · have hge : k = n := by omega
      subst hge
      go_wp2
      go_ret
      have hle : ns.length = k := by rw [← HNS.out, List.length_map, HEL.out]
      exact ⟨ret_intR (by rw [HK.out]; unfold totS; rw [hle]), hb⟩
/-- A struct 'Write' with an inner slice. -/
structure Wr where
  pos : Int
  A : Option Addr
  n : Nat
  c : Nat
  l : List UInt8
def Wr.f (x : Wr) : List Value := [.int .i64 x.pos, .slice x.A x.n x.c]
def Wr.g (x : Wr) : Sl := ⟨x.A, x.n, x.c, Lib.byteCells x.l⟩
def Wr.d (x : Wr) : Int × List UInt8 := (x.pos, x.l)
theorem Wr.hf (x : Wr) : x.f.length = 2 := rfl
abbrev RdWrite (w : World) (B : Nat) (A : Option Addr) (n : Nat) (es : List Wr) : Prop := RdR 2 1 Wr.f Wr.g w B A n es
abbrev OwnWrite (w : World) (lo hi : Nat) (A : Option Addr) (n c : Nat) (es : List Wr) : Prop := OwnR 74 2 5 1 Wr.f Wr.g w lo hi A n c es
theorem info_Write : (Try.prog.info? 74).map (fun i => (i.zero, i.size, i.bytes)) = some (some (.agg #[.int .i64 0, .slice none 0 0]), 2, 32) := by kernel_rfl
/-- Rows of the call's own. -/
def MadeWriteS (n : Nat) (ds : List (Int × List UInt8)) (w : World) (e : Ending) (w' : World) : Prop :=
  ∃ A c es, e = .returned (.slice A n c) ∧ es.map Wr.d = ds ∧ OwnWrite w' w.heap.size w'.heap.size A n c es ∧ Below w.heap.size w w'
/-- A struct whose inner slice is the call's own. -/
def MadeWrite (pos : Int) (n : Nat) (l : List UInt8) (w : World) (e : Ending) (w' : World) : Prop :=
  ∃ A c, e = .returned (.agg #[.int .i64 pos, .slice A n c]) ∧ Own 5 1 w' w.heap.size w'.heap.size A n c (Lib.byteCells l) ∧ Below w.heap.size w w'
set_option maxHeartbeats 400000 in
theorem toWrite_any (pos : Int) (A : Option Addr) (n c : Nat) (l : List UInt8) (w : World) (hr : Rd w w.heap.size 1 A n (Lib.byteCells l)) (hn : n ≤ 1099511627776) :
    Calls Try.prog 76 #[.agg #[.int .i64 pos, .slice A n c]] w (MadeWrite pos n l w) := by
  go_enter Try.func76, Try.ntmps76
  go_wp2_with (go_at_call 21; refine (toByteS_any A n c l _ ((((hr.alloc (Nat.le_refl _) _).alloc (by simp) _).alloc (by simp; omega) _).more (by simp; omega)) hn).mono ?_; rintro e w1 ⟨A1, c1, rfl, t1, hb1⟩; have hz1 := hb1.size; (try simp at hz1); have hk0 := fun o => hb1.cell (p := ⟨w.heap.size, o, none⟩) (by first | omega | (simp; omega) | (simp; done)); have hf0 := fun o => hb1.frozen (p := ⟨w.heap.size, o, none⟩) (by first | omega | (simp; omega) | (simp; done)); have hk1 := fun o => hb1.cell (p := ⟨w.heap.size + 1, o, none⟩) (by first | omega | (simp; omega) | (simp; done)); have hf1 := fun o => hb1.frozen (p := ⟨w.heap.size + 1, o, none⟩) (by first | omega | (simp; omega) | (simp; done)); have hk1_1 := fun o => hb1.cell (p := ⟨w.heap.size + 1 + 1, o, none⟩) (by first | omega | (simp; omega) | (simp; done)); have hf1_1 := fun o => hb1.frozen (p := ⟨w.heap.size + 1 + 1, o, none⟩) (by first | omega | (simp; omega) | (simp; done)))
  refine bodyPost_ret (v := .agg #[.int .i64 pos, .slice A1 n c1]) (by simp [results, Try.results76, go_sem, *]) rfl ?_
  refine ⟨A1, c1, rfl, Own.madeR t1 (lo' := w.heap.size) (hi' := w.heap.size + 3) ?_ ?_ ?_, ?_⟩
  · repeat' (first | exact Eff.refl _ _ _ | (refine Eff.setCell ?_ ?_ ?_ _) | omega | (simp; omega) | (simp; done))
  · first | (simp; done) | (simp; omega)
  · first | (simp; done) | (simp; omega)
  · repeat' (first | exact Below.refl _ _ | (refine Below.alloc ?_ ?_ _) | (refine Below.drew ?_) | (refine Below.setCell ?_ ?_ _) | (refine Below.trans ?_ (Below.mono (by assumption) ?_)) | omega | (simp; omega) | (simp; done) | exact Below.size (by assumption) | (refine Nat.le_trans ?_ (Below.size (by assumption))))
set_option maxHeartbeats 400000 in
theorem eqWrite_same (pos : Int) (A : Option Addr) (n c : Nat) (A' : Option Addr) (n' c' : Nat) (l : List UInt8) (w : World) (hr : Rd w w.heap.size 1 A n (Lib.byteCells l)) (hr' : Rd w w.heap.size 1 A' n' (Lib.byteCells l)) (hn : n ≤ 1099511627776) (hn' : n' ≤ 1099511627776) :
    Calls Try.prog 78 #[.agg #[.int .i64 pos, .slice A n c], .agg #[.int .i64 pos, .slice A' n' c']] w fun e w' => e = .returned (.bool true) ∧ Below w.heap.size w w' := by
  have e_pos : (pos != pos) = false := by simp
  go_enter Try.func78, Try.ntmps78
  go_wp2_with fail
  refine (eqByteS_any A n c l A' n' c' l _ (((hr.alloc (Nat.le_refl _) _).alloc (by simp) _).more (by simp; omega)) (((hr'.alloc (Nat.le_refl _) _).alloc (by simp) _).more (by simp; omega)) hn hn').mono ?_
  rintro e w1 ⟨rfl, hb1⟩
  rw [eqL_self]
  go_wp2
  go_ret
  exact ⟨rfl, ((((Below.refl w.heap.size w).alloc (Nat.le_refl _) _).alloc (by simp) _).trans (hb1.mono (by simp; omega)))⟩
theorem szWrite_any (pos : Int) (A : Option Addr) (n c : Nat) (left : Int) (hn : n ≤ 9223372036854775807) (hl : -1 ≤ left ∧ left ≤ 4611686018427387904) (w : World) :
    Calls Try.prog 74 #[.agg #[.int .i64 pos, .slice A n c], .int .i64 left] w fun e w' => e = .returned (.int .i64 (if left - (n : Int) < 0 then -1 else left - (n : Int))) ∧ Below w.heap.size w w' := by
  by_cases h : left - (n : Int) < 0
  · rw [if_pos h]
    go_enter Try.func74, Try.ntmps74
    go_wp2_with (go_at_call 85; refine (szByteS_any _ _ _ _ hn hl _).mono ?_; rintro e w1 ⟨rfl, rfl⟩; rw [if_pos h])
    go_ret
    exact ⟨rfl, (Below.refl _ _).alloc (Nat.le_refl _) _⟩
  · rw [if_neg h]
    go_enter Try.func74, Try.ntmps74
    go_wp2_with (go_at_call 85; refine (szByteS_any _ _ _ _ hn hl _).mono ?_; rintro e w1 ⟨rfl, rfl⟩; rw [if_neg h])
    go_ret
    exact ⟨rfl, (Below.refl _ _).alloc (Nat.le_refl _) _⟩
set_option maxHeartbeats 1000000 in
set_option maxRecDepth 100000 in
theorem toWriteS_any (A : Option Addr) (n c : Nat) (es : List Wr) (w : World) (hr : RdWrite w w.heap.size A n es) (hn : n ≤ 1099511627776) (hns : ∀ x ∈ es, x.n ≤ 1099511627776) :
    Calls Try.prog 52 #[.slice A n c] w (MadeWriteS n (es.map Wr.d) w) := by
  obtain ⟨i0, hi0, hz0, hz1, hz2⟩ := info_parts info_Write
  have hl := hr.len Wr.hf (by omega)
  have HL := Lib.hid hl
  have HNS := Lib.hid hns
  clear hl hns
  go_enter Try.func52, Try.ntmps52
  go_wp2_with (at_make; refine wpList_make_full _ rfl _ _ 31 rfl w.heap.size 74 i0 (.agg #[.int .i64 0, .slice none 0 0]) 2 Try.underlying31 hi0 hz0 hz1 _ _ _ _ n rfl rfl rfl rfl (by rw [hz2]; omega) (by unfold maxLen; omega) (Nat.le_refl _) ?_; intro w1 hown1 hg1)
  have hb1 : Below w.heap.size w w1 := (Below.refl _ _).grown hg1 (Nat.le_refl _) (by simp)
  have hs1 : w.heap.size < w1.heap.size := (hown1.lt w.heap.size rfl).2
  clear hg1
  go_loopw [4] (fun vi wr => ∃ (k : Nat) (es' : List Wr), k ≤ n ∧ vi = .int .i64 (k : Int) ∧ Fill 74 2 5 1 Wr.f Wr.g wr w.heap.size w1.heap.size n k es' ∧ Hid (es'.map Wr.d = (es.map Wr.d).take k) ∧ Below w.heap.size w wr) (fun vi _ => n - (intOf vi).toNat)
  case atStart => exact ⟨0, [], Nat.zero_le _, rfl, Fill.start ⟨hown1, fun j hj => (hown1.lt j hj).2, Nat.le_refl _⟩ hs1, Lib.hid (by simp), hb1⟩
  case round =>
    obtain ⟨k, es', hk, rfl, hF, HD, hb⟩ := hrel
    by_cases hlt : k < n
    · have hkk := hlt
      obtain ⟨b, off, ⟨s_pos, Ax, nx, cx, lx⟩, rfl, hbB, hx, hcell, hi, hcap⟩ := (hr.below hb (Nat.le_refl _)).elem Wr.hf (by omega) hlt
      have cc0 : wr.cell? ⟨b, off + k * 2, none⟩ = some (.int .i64 s_pos) := by have := hcell 0 _ rfl; simpa [Nat.mul_one, Nat.add_assoc] using this
      have cc1 : wr.cell? ⟨b, off + k * 2 + 1, none⟩ = some (.slice Ax nx cx) := by have := hcell 1 _ rfl; simpa [Nat.mul_one, Nat.add_assoc] using this
      have HX := Lib.hid hx
      clear hcell hx
      have hnx : nx ≤ 1099511627776 := HNS.out _ (List.mem_of_getElem? HX.out)
      have hz := hb.size
      go_wp2_with fail
      refine (toWrite_any s_pos Ax nx cx lx wr (hi.more hz) hnx).mono ?_
      rintro e w2 ⟨A1, c1, rfl, t1, hb2⟩
      have hF2 := hF.keep (Eff.of hb2)
      obtain ⟨u0, d0⟩ := hF2.cell hlt 0 (by omega)
      have f0 := hF2.free hlt (k * 2)
      replace d0 : w2.cell? ⟨w.heap.size, k * 2, none⟩ = some u0 := by simpa [Nat.mul_one] using d0
      obtain ⟨u1, d1⟩ := hF2.cell hlt 1 (by omega)
      have f1 := hF2.free hlt (k * 2 + 1)
      replace d1 : w2.cell? ⟨w.heap.size, k * 2 + 1, none⟩ = some u1 := by simpa [Nat.mul_one] using d1
      go_wp2
      go_roundw
      case rel =>
        refine ⟨k + 1, es' ++ [⟨s_pos, A1, nx, c1, lx⟩], by omega, by go_num, hF.step Wr.hf (w' := w2) (Eff.of hb2) (y := ⟨s_pos, A1, nx, c1, lx⟩) t1 (((((Eff.refl _ _ _).setCell (by simp only; omega) (by simp only; omega) _)).setCell (by simp only; omega) (by simp only; omega) _)) (by simp) (fun xs hx => store2 hx k hlt (.int .i64 s_pos) (.slice A1 nx c1)), Lib.hid ?_, (((hb.trans (hb2.mono hz))).setCell (Nat.le_refl _) _).setCell (Nat.le_refl _) _⟩
        rw [List.map_append, HD.out, List.take_add_one, List.getElem?_map, HX.out]; rfl
      case measure => simp [intOf]; omega
    · have hge : k = n := by omega
      subst hge
      go_wp2
      go_ret
      refine ⟨_, _, es', rfl, ?_, hF.done Wr.hf, hb⟩
      rw [HD.out, List.take_of_length_le (by rw [List.length_map, HL.out]; exact Nat.le_refl _)]
set_option maxHeartbeats 1000000 in
set_option maxRecDepth 100000 in
theorem eqWriteS_same (A : Option Addr) (n c : Nat) (es : List Wr) (A' : Option Addr) (n' c' : Nat) (es' : List Wr) (w : World) (hr : RdWrite w w.heap.size A n es) (hr' : RdWrite w w.heap.size A' n' es') (hd : es.map Wr.d = es'.map Wr.d) (hn : n ≤ 1099511627776) (hns : ∀ x ∈ es, x.n ≤ 1099511627776) (hns' : ∀ x ∈ es', x.n ≤ 1099511627776) :
    Calls Try.prog 56 #[.slice A n c, .slice A' n' c'] w fun e w' => e = .returned (.bool true) ∧ Below w.heap.size w w' := by
  have hl := hr.len Wr.hf (by omega)
  have hl' := hr'.len Wr.hf (by omega)
  have hln := congrArg List.length hd
  simp only [List.length_map] at hln
  obtain rfl : n' = n := by omega
  have hnn : ((n' : Int) != (n' : Int)) = false := by simp
  have HNS := Lib.hid hns
  have HNS' := Lib.hid hns'
  have HD := Lib.hid hd
  clear hl hl' hln hns hns' hd
  go_enter Try.func56, Try.ntmps56
  go_wp2
  go_loopw [5] (fun vi wr => ∃ k : Nat, k ≤ n' ∧ vi = .int .i64 (k : Int) ∧ Below w.heap.size w wr) (fun vi _ => n' - (intOf vi).toNat)
  case atStart => exact ⟨0, Nat.zero_le _, rfl, Below.refl _ _⟩
  case round =>
    obtain ⟨k, hk, rfl, hb⟩ := hrel
    by_cases hlt : k < n'
    · have hkk := hlt
      obtain ⟨b, off, ⟨s_pos, Ax, nx, cx, lx⟩, rfl, hbB, hx, hcell, hi, hcap⟩ := (hr.below hb (Nat.le_refl _)).elem Wr.hf (by omega) hlt
      have cc0 : wr.cell? ⟨b, off + k * 2, none⟩ = some (.int .i64 s_pos) := by have := hcell 0 _ rfl; simpa [Nat.mul_one, Nat.add_assoc] using this
      have cc1 : wr.cell? ⟨b, off + k * 2 + 1, none⟩ = some (.slice Ax nx cx) := by have := hcell 1 _ rfl; simpa [Nat.mul_one, Nat.add_assoc] using this
      have HX := Lib.hid hx
      clear hcell hx
      obtain ⟨b', off', ⟨s_pos', A'x, n'x, c'x, l'x⟩, rfl, hbB', hx', hcell', hi', hcap'⟩ := (hr'.below hb (Nat.le_refl _)).elem Wr.hf (by omega) hlt
      have cc0' : wr.cell? ⟨b', off' + k * 2, none⟩ = some (.int .i64 s_pos') := by have := hcell' 0 _ rfl; simpa [Nat.mul_one, Nat.add_assoc] using this
      have cc1' : wr.cell? ⟨b', off' + k * 2 + 1, none⟩ = some (.slice A'x n'x c'x) := by have := hcell' 1 _ rfl; simpa [Nat.mul_one, Nat.add_assoc] using this
      have HX' := Lib.hid hx'
      clear hcell' hx'
      have hdd := congrArg (fun l => l[k]?) HD.out
      simp only [List.getElem?_map, HX.out, HX'.out, Option.map_some, Option.some.injEq, Wr.d] at hdd
      obtain rfl : s_pos = s_pos' := (congrArg (·.1) hdd)
      obtain rfl : lx = l'x := (congrArg (·.2) hdd)
      (try clear hdd)
      have hnx : nx ≤ 1099511627776 := HNS.out _ (List.mem_of_getElem? HX.out)
      have hnx' : n'x ≤ 1099511627776 := HNS'.out _ (List.mem_of_getElem? HX'.out)
      have hz := hb.size
      have i0 : (0 : Int) ≤ (k : Int) := by omega
      have i1 : (k : Int) < (n' : Int) := by omega
      have hi1 := hi.more hz
      have hi1' := hi'.more hz
      go_wp2
      go_region_held3 (fun w' => w'.cell? ⟨b, off + k * 2, none⟩ = some (.int .i64 s_pos) ∧ w'.cell? ⟨b, off + k * 2 + 1, none⟩ = some (.slice Ax nx cx) ∧ w'.cell? ⟨b', off' + k * 2, none⟩ = some (.int .i64 s_pos) ∧ w'.cell? ⟨b', off' + k * 2 + 1, none⟩ = some (.slice A'x n'x c'x)) ((go_split_ands; (repeat' apply And.intro) <;> (first | assumption | exact (Below.cell (by assumption) (by first | omega | (simp; done) | (simp; omega))).trans (by assumption)))) (first | (go_at_call 78; refine (eqWrite_same s_pos Ax nx cx A'x n'x c'x lx _ (hi1.drew) (hi1'.drew) hnx hnx').mono ?_; rintro e w2 ⟨rfl, hb2⟩))
      go_wp2
      go_roundw
      case rel => exact ⟨k + 1, by omega, by go_num, hb.drew.trans (hb2.mono hz)⟩
      case measure => simp [intOf]; omega
    · have hge : k = n' := by omega
      subst hge
      go_wp2
      go_ret
      exact ⟨rfl, hb⟩
set_option maxHeartbeats 1000000 in
set_option maxRecDepth 100000 in
theorem szWriteS_any (A : Option Addr) (n c : Nat) (es : List Wr) (left : Int) (w : World) (hr : RdWrite w w.heap.size A n es) (hl : -1 ≤ left ∧ left ≤ 4611686018427387904) (hn : n ≤ 9223372036854775807) :
    Calls Try.prog 49 #[.slice A n c, .int .i64 left] w fun e w' => e = .returned (.int .i64 (if left - (totS 1 1 (es.map Wr.n) : Int) < 0 then -1 else left - (totS 1 1 (es.map Wr.n) : Int))) ∧ Below w.heap.size w w' := by
  obtain ⟨hl1, hl2⟩ := hl
  have hel := hr.len Wr.hf (by omega)
  have htl : n ≤ totS 1 1 (es.map Wr.n) := by have := totS_len (s := 1) (ns := es.map Wr.n); rw [List.length_map, hel] at this; exact this
  obtain ⟨r, hr0⟩ : ∃ r, (if left - (totS 1 1 (es.map Wr.n) : Int) < 0 then -1 else left - (totS 1 1 (es.map Wr.n) : Int)) = r := ⟨_, rfl⟩
  rw [hr0]
  have HR := Lib.hid hr0
  have HEL := Lib.hid hel
  have HTL := Lib.hid htl
  clear hr0 hel htl
  by_cases h0 : left - (n : Int) < 0
  · obtain rfl : r = -1 := by rw [← HR.out, if_pos (by have := HTL.out; omega)]
    go_enter Try.func49, Try.ntmps49
    go_wp2
    go_ret
    exact ⟨rfl, Below.refl _ _⟩
  have h0' : 0 ≤ left - (n : Int) := by omega
  clear h0
  go_enter Try.func49, Try.ntmps49
  go_wp2
  go_loopw [1, 5] (fun vl vi wr => ∃ (k : Nat) (lv : Int), k ≤ n ∧ vi = .int .i64 (k : Int) ∧ vl = .int .i64 lv ∧ 0 ≤ lv ∧ lv ≤ 4611686018427387904 ∧ Hid (lv = left - (n : Int) - (ofs 0 1 (es.map Wr.n) k : Int)) ∧ Below w.heap.size w wr) (fun _ vi _ => n - (intOf vi).toNat)
  case atStart => exact ⟨0, left - (n : Int), Nat.zero_le _, rfl, rfl, h0', by omega, Lib.hid (by rw [ofs_zero]; simp), Below.refl _ _⟩
  case round =>
    obtain ⟨k, lv, hk, rfl, rfl, hv0, hv1, HV, hb⟩ := hrel
    by_cases hlt : k < n
    · have hkk := hlt
      obtain ⟨b, off, ⟨s_pos, Ax, nx, cx, lx⟩, rfl, hbB, hx, hcell, hi, hcap⟩ := (hr.below hb (Nat.le_refl _)).elem Wr.hf (by omega) hlt
      have cc0 : wr.cell? ⟨b, off + k * 2, none⟩ = some (.int .i64 s_pos) := by have := hcell 0 _ rfl; simpa [Nat.mul_one, Nat.add_assoc] using this
      have cc1 : wr.cell? ⟨b, off + k * 2 + 1, none⟩ = some (.slice Ax nx cx) := by have := hcell 1 _ rfl; simpa [Nat.mul_one, Nat.add_assoc] using this
      have HX := Lib.hid hx
      clear hcell hx
      have HS := Lib.hid (ofs_succ (sc := 0) (s := 1) (ns := es.map Wr.n) (j := k) (n := nx) (by rw [List.getElem?_map, HX.out]; rfl))
      have hcap1 : nx ≤ cx := hcap.1
      have hcap2 : cx ≤ maxLen := hcap.2
      clear hcap
      unfold maxLen at hcap2
      have hz := hb.size
      by_cases hneg : lv - (nx : Int) < 0
      · go_wp2_with fail
        refine (szWrite_any s_pos Ax nx cx lv (by omega) ⟨by omega, by omega⟩ wr).mono ?_
        rintro e w2 ⟨rfl, hb2⟩
        rw [if_pos hneg]
        go_wp2
        go_ret
        refine ⟨?_, hb.trans (hb2.mono hz)⟩
        have hc : left - (totS 1 1 (es.map Wr.n) : Int) < 0 := by
          have h1 := HS.out
          have h2 := HV.out
          have h3 := ofs_tot (ns := es.map Wr.n) (j := k + 1)
          rw [List.length_map, HEL.out] at h3
          omega
        exact ret_intR (by rw [← HR.out, if_pos hc])
      · have hpos : 0 ≤ lv - (nx : Int) := by omega
        clear hneg
        go_wp2_with fail
        refine (szWrite_any s_pos Ax nx cx lv (by omega) ⟨by omega, by omega⟩ wr).mono ?_
        rintro e w2 ⟨rfl, hb2⟩
        rw [if_neg (by omega)]
        go_wp2
        go_roundw
        case rel => exact ⟨k + 1, lv - (nx : Int), by omega, by go_num, rfl, hpos, by omega, Lib.hid (by rw [HS.out, HV.out]; omega), hb.trans (hb2.mono hz)⟩
        case measure => simp [intOf]; omega
    · have hge : k = n := by omega
      subst hge
      go_wp2
      go_ret
      refine ⟨?_, hb⟩
      have h2 := HV.out
      have h3 := ofs_tot (ns := es.map Wr.n) (j := k)
      rw [List.length_map, HEL.out] at h3
      have h4 := ofs_end (ns := es.map Wr.n)
      rw [List.length_map, HEL.out] at h4
      exact ret_intR (by rw [← HR.out, if_neg (by omega)]; omega)
/-- The marks from k on of structs whose slices have these lengths. -/
def marksWrite (k : Nat) (ns : List Nat) : List (Int × List UInt8) := marksR (fun k n => ((k : Int), marksB (k + 1) n)) 1 1 k ns
theorem marksWrite_get {k j n : Nat} {ns : List Nat} (h : ns[j]? = some n) : (marksWrite k ns)[j]? = some (((((k + ofs 1 1 ns j) : Nat) : Int), marksB ((k + ofs 1 1 ns j) + 1) n)) := marksR_get h
theorem marksWrite_len {k : Nat} {ns : List Nat} : (marksWrite k ns).length = ns.length := marksR_len
/-- What markWriteS leaves. -/
def MarkedWriteS (A : Option Addr) (n c k lo hi : Nat) (ns : List Nat) (w : World) (e : Ending) (w' : World) : Prop :=
  ∃ es : List Wr, e = .returned (.int .i64 ((k + totS 1 1 ns : Nat) : Int)) ∧ es.map Wr.d = marksWrite k ns ∧ es.map Wr.n = ns ∧ OwnWrite w' lo hi A n c es ∧ Eff lo hi w w'
set_option maxHeartbeats 1000000 in
set_option maxRecDepth 100000 in
theorem markWriteS_any (A : Option Addr) (n c : Nat) (es : List Wr) (ns : List Nat) (lo hi k0 : Nat) (w : World) (ho : OwnWrite w lo hi A n c es) (hns : es.map Wr.n = ns) (hk0 : k0 + totS 1 1 ns ≤ 4611686018427387904) (hn : n ≤ 1099511627776) (hnb : ∀ m ∈ ns, m ≤ 1099511627776) :
    Calls Try.prog 58 #[.slice A n c, .int .i64 (k0 : Int)] w (MarkedWriteS A n c k0 lo hi ns w) := by
  have hel := ho.len Wr.hf (by omega)
  have hlohi := ho.lohi
  have HEL := Lib.hid hel
  have HNB := Lib.hid hnb
  have HNS := Lib.hid hns
  clear hel hnb hns
  go_enter Try.func58, Try.ntmps58
  go_wp2
  go_loopw [1, 5] (fun vk vi wr => ∃ (k kv : Nat) (es' : List Wr), k ≤ n ∧ vk = .int .i64 (kv : Int) ∧ vi = .int .i64 (k : Int) ∧ Hid (kv = k0 + ofs 1 1 ns k) ∧ OwnWrite wr lo hi A n c es' ∧ Hid (es'.map Wr.n = ns) ∧ Hid (∀ j, j < k → (es'.map Wr.d)[j]? = (marksWrite k0 ns)[j]?) ∧ Eff lo hi w wr) (fun _ vi _ => n - (intOf vi).toNat)
  case atStart => exact ⟨0, k0, es, Nat.zero_le _, rfl, rfl, Lib.hid (by rw [ofs_zero]; rfl), ho, HNS, Lib.hid (fun j hj => absurd hj (by omega)), Eff.refl _ _ _⟩
  case round =>
    obtain ⟨k, kv, es', hk, rfl, rfl, HK, hF, HNS', HD, he⟩ := hrel
    by_cases hlt : k < n
    · obtain ⟨gb, ⟨s_pos, Ax, nx, cx, lx⟩, rfl, hg1, hg2, hx, hcell, hfr, hi⟩ := hF.outs Wr.hf (by omega) hlt
      have cc0 : wr.cell? ⟨gb, k * 2, none⟩ = some (.int .i64 s_pos) := by have := hcell 0 _ rfl; simpa [Nat.mul_one, Nat.add_assoc] using this
      have ff0 := hfr (k * 2)
      have cc1 : wr.cell? ⟨gb, k * 2 + 1, none⟩ = some (.slice Ax nx cx) := by have := hcell 1 _ rfl; simpa [Nat.mul_one, Nat.add_assoc] using this
      have ff1 := hfr (k * 2 + 1)
      have HX := Lib.hid hx
      clear hcell hfr hx
      have HN := Lib.hid (show ns[k]? = some nx by rw [← HNS'.out, List.getElem?_map, HX.out]; rfl)
      have hnx : nx ≤ 1099511627776 := HNB.out _ (List.mem_of_getElem? HN.out)
      have HS := Lib.hid (ofs_succ (sc := 1) (s := 1) HN.out)
      have hkv : kv + 1 + nx * 1 ≤ 4611686018427387904 := by have := HS.out; have := HK.out; have := ofs_le (sc := 1) (s := 1) (ns := ns) (j := k + 1); omega
      obtain ⟨ta, tb, hti, hta, htab, htb, htt⟩ := hi.tight hlohi
      have HTT := Lib.hid htt
      clear htt
      have hsep : ¬ (ta ≤ gb ∧ gb < tb) := fun h => hF.inn.out _ (List.mem_of_getElem? HX.out) gb (HTT.out gb h.1 h.2) rfl
      go_wp2_with fail
      have E1 : Eff gb (gb + 1) wr (wr.setCell ⟨gb, k * 2, none⟩ (.int .i64 (kv : Int))) := ((Eff.refl _ _ _).setCell (by simp only; omega) (by simp only; omega) _)
      have hti1 := Own.keep hti E1 (by omega)
      refine (markByteS_z Ax nx cx lx ta tb (kv + 1) _ hti1 (by omega) hnx _ (by simp)).mono ?_
      rintro e w2 ⟨rfl, h1, h2⟩
      go_wp2
      go_roundw
      case rel =>
        have g0 : (es'.flatMap Wr.f).set (k * 2) (.int .i64 (kv : Int)) = ((es').set k (⟨(kv : Int), Ax, nx, cx, marksB (kv + 1) nx⟩ : Wr)).flatMap Wr.f := flat_setcell Wr.hf (es := es') (i := k) (j := 0) (x := (⟨s_pos, Ax, nx, cx, lx⟩ : Wr)) (y := (⟨(kv : Int), Ax, nx, cx, marksB (kv + 1) nx⟩ : Wr)) (u := .int .i64 (kv : Int)) HX.out (by omega) rfl
        refine ⟨k + 1, kv + 1 + nx * 1, es'.set k ⟨(kv : Int), Ax, nx, cx, marksB (kv + 1) nx⟩, by omega, by go_num, by go_num, Lib.hid (by rw [HS.out, HK.out]; omega), ?_, Lib.hid ?_, Lib.hid ?_, he.trans ((E1.wide (by omega) (by omega)).trans (h2.wide (by omega) (by omega)))⟩
        · refine hF.mark HX.out rfl hta htb HTT.out ?_ E1 (fun q h1 h2 => by show some gb = some q; congr 1; omega) h2 h1
          have hst := (Own.stored hF.row (k * 2) (.int .i64 (kv : Int))).1
          rw [g0] at hst
          exact hst
        · rw [List.map_set, HNS'.out]
          apply List.ext_getElem?
          intro j
          rw [List.getElem?_set]
          by_cases hj : k = j
          · subst hj; rw [if_pos rfl, if_pos (List.getElem?_eq_some_iff.1 HN.out).1, HN.out]
          · rw [if_neg hj]
        · intro j hj
          rw [List.map_set, List.getElem?_set]
          by_cases hjk : k = j
          · subst hjk
            rw [if_pos rfl, if_pos (by rw [List.length_map]; exact (List.getElem?_eq_some_iff.1 HX.out).1), marksWrite_get HN.out]
            have hk1 := HK.out
            subst hk1
            rfl
          · rw [if_neg hjk]
            exact HD.out j (by omega)
      case measure => simp [intOf]; omega
    · have hge : k = n := by omega
      subst hge
      go_wp2
      go_ret
      have hle : ns.length = k := by rw [← HNS.out, List.length_map, HEL.out]
      refine ⟨es', ret_intR (by rw [HK.out]; unfold totS; rw [hle]), ?_, HNS'.out, hF, he⟩
      apply List.ext_getElem?
      intro j
      by_cases hj : j < k
      · exact HD.out j hj
      · rw [List.getElem?_eq_none (by rw [List.length_map, hF.len Wr.hf (by omega)]; omega), List.getElem?_eq_none (by rw [marksWrite_len, hle]; omega)]
set_option maxHeartbeats 1000000 in
set_option maxRecDepth 100000 in
theorem heldWriteS_yes (A : Option Addr) (n c : Nat) (es : List Wr) (ns : List Nat) (k0 : Nat) (w : World) (hr : RdWrite w w.heap.size A n es) (hd : es.map Wr.d = marksWrite k0 ns) (hns : es.map Wr.n = ns) (hk0 : k0 + totS 1 1 ns ≤ 4611686018427387904) (hn : n ≤ 1099511627776) (hnb : ∀ m ∈ ns, m ≤ 1099511627776) :
    Calls Try.prog 63 #[.slice A n c, .int .i64 (k0 : Int)] w fun e w' => e = .returned (.int .i64 ((k0 + totS 1 1 ns : Nat) : Int)) ∧ Below w.heap.size w w' := by
  have hel := hr.len Wr.hf (by omega)
  have HEL := Lib.hid hel
  have HNB := Lib.hid hnb
  have HNS := Lib.hid hns
  have HD := Lib.hid hd
  clear hel hnb hns hd
  go_enter Try.func63, Try.ntmps63
  go_wp2
  go_loopw [1, 5] (fun vk vi wr => ∃ (k kv : Nat), k ≤ n ∧ vk = .int .i64 (kv : Int) ∧ vi = .int .i64 (k : Int) ∧ Hid (kv = k0 + ofs 1 1 ns k) ∧ Below w.heap.size w wr) (fun _ vi _ => n - (intOf vi).toNat)
  case atStart => exact ⟨0, k0, Nat.zero_le _, rfl, rfl, Lib.hid (by rw [ofs_zero]; rfl), Below.refl _ _⟩
  case round =>
    obtain ⟨k, kv, hk, rfl, rfl, HK, hb⟩ := hrel
    by_cases hlt : k < n
    · have hkk := hlt
      obtain ⟨b, off, ⟨s_pos, Ax, nx, cx, lx⟩, rfl, hbB, hx, hcell, hi, hcap⟩ := (hr.below hb (Nat.le_refl _)).elem Wr.hf (by omega) hlt
      have cc0 : wr.cell? ⟨b, off + k * 2, none⟩ = some (.int .i64 s_pos) := by have := hcell 0 _ rfl; simpa [Nat.mul_one, Nat.add_assoc] using this
      have cc1 : wr.cell? ⟨b, off + k * 2 + 1, none⟩ = some (.slice Ax nx cx) := by have := hcell 1 _ rfl; simpa [Nat.mul_one, Nat.add_assoc] using this
      have HX := Lib.hid hx
      clear hcell hx
      have HN := Lib.hid (show ns[k]? = some nx by rw [← HNS.out, List.getElem?_map, HX.out]; rfl)
      have hnx : nx ≤ 1099511627776 := HNB.out _ (List.mem_of_getElem? HN.out)
      have HS := Lib.hid (ofs_succ (sc := 1) (s := 1) HN.out)
      have hkv : kv + 1 + nx * 1 ≤ 4611686018427387904 := by have := HS.out; have := HK.out; have := ofs_le (sc := 1) (s := 1) (ns := ns) (j := k + 1); omega
      have hdd := congrArg (fun l => l[k]?) HD.out
      simp only [marksWrite_get HN.out] at hdd
      rw [List.getElem?_map, HX.out] at hdd
      replace hdd := Option.some.inj hdd
      simp only [Wr.d] at hdd
      have m0 : s_pos = (kv : Int) := (congrArg (·.1) hdd).trans (by have h := HK.out; subst h; first | rfl | (simp; done) | (simp; omega))
      obtain rfl : lx = marksB (kv + 1) nx := ((congrArg (·.2) hdd)).trans (by have h := HK.out; subst h; rfl)
      (try clear hdd)
      subst m0
      have n0 : ((kv : Int) != (kv : Int)) = false := by simp
      have hz := hb.size
      go_wp2_with fail
      refine (heldByteS_z Ax nx cx (kv + 1) wr (hi.more hz) (by omega) hnx _ (by simp)).mono ?_
      rintro e w2 ⟨rfl, hb2⟩
      go_wp2
      go_roundw
      case rel => exact ⟨k + 1, kv + 1 + nx * 1, by omega, by go_num, by go_num, Lib.hid (by rw [HS.out, HK.out]; omega), hb.trans (hb2.mono hz)⟩
      case measure => simp [intOf]; omega
    · have hge : k = n := by omega
      subst hge
      go_wp2
      go_ret
      have hle : ns.length = k := by rw [← HNS.out, List.length_map, HEL.out]
      exact ⟨ret_intR (by rw [HK.out]; unfold totS; rw [hle]), hb⟩
end Go.Proofs.Ytblenfhacaecmaa
