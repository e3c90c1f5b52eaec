/- Slices of integers: the argument opened; toIntS, eqIntS, markIntS; 'append(s, x)' of one integer; DiskSync (reference). -/
import Derived.Test.YtblenfhacaecmaaDcs
namespace Go.Proofs.Ytblenfhacaecmaa
open Go.RowKit
/-- Integers as cells. -/
abbrev intCells (l : List Int) : List Value := l.map (Value.int .i64)
theorem info_int : (Try.prog.info? 3).map (fun i => (i.zero, i.size, i.bytes)) = some (some (.int .i64 0), 1, 8) := by kernel_rfl
def OwnI (w : World) (lo hi : Nat) (A : Option Addr) (n c : Nat) (l : List Int) : Prop := Own 3 1 w lo hi A n c (intCells l)
theorem OwnI.keep {w w' : World} {lo hi lo' hi' : Nat} {A : Option Addr} {n c : Nat} {l : List Int} (h : OwnI w lo hi A n c l) (he : Eff lo' hi' w w') (hd : hi ≤ lo' ∨ hi' ≤ lo ∨ hi' ≤ lo') : OwnI w' lo hi A n c l := Own.keep h he hd
theorem OwnI.rd {w : World} {lo hi B : Nat} {A : Option Addr} {n c : Nat} {l : List Int} (h : OwnI w lo hi A n c l) (hB : hi ≤ B) : Rd w B 1 A n (intCells l) := Own.rd h hB
def MadeI (n : Nat) (l : List Int) (w : World) (e : Ending) (w' : World) : Prop :=
  ∃ A c, e = .returned (.slice A n c) ∧ OwnI w' w.heap.size w'.heap.size A n c l ∧ Below w.heap.size w w'
theorem ilen_of_rd {w : World} {B n : Nat} {A : Option Addr} {l : List Int} (h : Rd w B 1 A n (intCells l)) : l.length = n := by have := h.1; simpa using this
set_option maxHeartbeats 400000 in
theorem toIntS_any (A : Option Addr) (n c : Nat) (l : List Int) (w : World) (hr : Rd w w.heap.size 1 A n (intCells l)) (hn : n ≤ 1099511627776) :
    Calls Try.prog 33 #[.slice A n c] w (MadeI n l w) := by
  obtain ⟨i0, hi0, hz0, hz1, hz2⟩ := info_parts info_int
  have hl := ilen_of_rd hr
  go_enter Try.func33, Try.ntmps33
  go_wp2_with (at_make; refine wpList_make_full _ rfl _ _ 48 rfl w.heap.size 3 i0 (.int .i64 0) 1 Try.underlying48 hi0 hz0 hz1 _ _ _ _ n rfl rfl rfl rfl (by rw [hz2]; omega) (by unfold maxLen; omega) (Nat.le_refl _) ?_; intro w1 hown1 hg1)
  have hb1 : Below w.heap.size w w1 := (Below.refl _ _).grown hg1 (Nat.le_refl _) (by simp)
  have hs1 : w.heap.size < w1.heap.size := (hown1.lt w.heap.size rfl).2
  clear hg1
  go_loopw [4] (fun vi wr => ∃ (k : Nat) (xs : List Value), k ≤ n ∧ vi = .int .i64 (k : Int) ∧ wr.ownsRow w.heap.size 3 1 (.slice (some ⟨w.heap.size, 0, none⟩) n n) n xs ∧ (∀ j, j < k → xs[j]? = (intCells l)[j]?) ∧ Below w.heap.size w wr) (fun vi _ => n - (intOf vi).toNat)
  case atStart => exact ⟨0, _, Nat.zero_le _, rfl, hown1, fun j hj => absurd hj (by omega), hb1⟩
  case round =>
    obtain ⟨k, xs, hk, rfl, hown, hx, hb⟩ := hrel
    have HX := Lib.hid hx
    clear hx
    by_cases hlt : k < n
    · obtain ⟨b, off, z, rfl, hbB, hz, hc⟩ := ints_cell hr hlt
      have hc' := (hb.cell (p := ⟨b, off + k, none⟩) hbB).trans hc
      have hd : wr.cell? ⟨w.heap.size, k, none⟩ = some (xs[k]'(by have := hown.1; omega)) := by
        rw [hown.cellAt k (by omega), List.getElem?_eq_getElem]
      have hf := hown.frozenAt k
      have HZ := Lib.hid hz
      have k0 : (0 : Int) ≤ (k : Int) := by omega
      have k1 : (k : Int) < (n : Int) := by omega
      clear hz hc
      generalize xs[k]'(by have := hown.1; omega) = u0 at hd
      go_wp2
      go_roundw
      case rel =>
        refine ⟨k + 1, xs.set k (.int .i64 z), by omega, by go_num, (hown.stored k _).1, fun j hj => ?_, hb.setCell (Nat.le_refl _) _⟩
        by_cases hjk : j = k
        · subst hjk
          rw [List.getElem?_set_self (by have := hown.1; omega), List.getElem?_map, HZ.out]; rfl
        · rw [List.getElem?_set_ne (by omega)]
          exact HX.out j (by omega)
      case measure => simp [intOf]; omega
    · have hge : k = n := by omega
      subst hge
      go_wp2
      go_ret
      have hxs : xs = intCells l := by
        apply List.ext_getElem?
        intro j
        by_cases hj : j < k
        · exact HX.out j hj
        · rw [List.getElem?_eq_none (by have := hown.1; omega), List.getElem?_eq_none (by simp; omega)]
      subst hxs
      exact ⟨_, _, rfl, ⟨hown, fun j hj => (hown.lt j hj).2, Nat.le_refl _⟩, hb⟩
set_option maxHeartbeats 400000 in
theorem eqIntS_same (A : Option Addr) (n c : Nat) (l : List Int) (A' : Option Addr) (c' : Nat) (w : World) (hr : Rd w w.heap.size 1 A n (intCells l)) (hr' : Rd w w.heap.size 1 A' n (intCells l)) (hn : n ≤ 1099511627776) :
    Calls Try.prog 34 #[.slice A n c, .slice A' n c'] w fun e w' => e = .returned (.bool true) ∧ Below w.heap.size w w' := by
  go_enter Try.func34, Try.ntmps34
  go_wp2
  go_loopw [5] (fun vi wr => ∃ k : Nat, k ≤ n ∧ vi = .int .i64 (k : Int) ∧ Below w.heap.size w wr) (fun vi _ => n - (intOf vi).toNat)
  case atStart => exact ⟨0, Nat.zero_le _, rfl, Below.refl _ _⟩
  case round =>
    obtain ⟨k, hk, rfl, hb⟩ := hrel
    by_cases hlt : k < n
    · obtain ⟨b, off, z, rfl, hbB, hz, hc⟩ := ints_cell (hr.below hb (Nat.le_refl _)) hlt
      obtain ⟨b', off', z', rfl, hbB', hz', hc'⟩ := ints_cell (hr'.below hb (Nat.le_refl _)) hlt
      obtain rfl : z = z' := by rw [hz] at hz'; exact Option.some.inj hz'
      have k0 : (0 : Int) ≤ (k : Int) := by omega
      have k1 : (k : Int) < (n : Int) := by omega
      clear hz hz'
      go_wp2
      go_quiet (fail)
      go_wp2
      go_roundw
      case rel => exact ⟨k + 1, by omega, by go_num, below_dr hb _⟩
      case measure => simp [intOf]; omega
    · have hge : k = n := by omega
      subst hge
      clear hlt
      go_wp2
      go_ret
      exact ⟨rfl, hb⟩
/-- What markIntS leaves. -/
def MarkedI (A : Option Addr) (n c k lo hi : Nat) (w : World) (e : Ending) (w' : World) : Prop :=
  ∃ xs, e = .returned (.int .i64 ((k + n : Nat) : Int)) ∧ Own 3 1 w' lo hi A n c xs ∧ Eff lo hi w w'
set_option maxHeartbeats 400000 in
theorem markIntS_any (A : Option Addr) (n c : Nat) (l : List Int) (lo hi k0 : Nat) (w : World) (ho : OwnI w lo hi A n c l) (hk0 : k0 ≤ 4611686018427387904) (hn : n ≤ 1099511627776) (z0 : Int) (hz0 : z0 = (k0 : Int)) :
    Calls Try.prog 35 #[.slice A n c, .int .i64 z0] w (MarkedI A n c k0 lo hi w) := by
  subst hz0
  go_enter Try.func35, Try.ntmps35
  go_wp2
  go_loopw [1, 5] (fun vk vi wr => ∃ (k : Nat) (xs : List Value), k ≤ n ∧ vk = .int .i64 ((k0 : Int) + (k : Int)) ∧ vi = .int .i64 (k : Int) ∧ Own 3 1 wr lo hi A n c xs ∧ Eff lo hi w wr) (fun _ vi _ => n - (intOf vi).toNat)
  case atStart => exact ⟨0, _, Nat.zero_le _, by go_num, rfl, ho, Eff.refl _ _ _⟩
  case round =>
    obtain ⟨k, xs, hk, rfl, rfl, hown, he⟩ := hrel
    by_cases hlt : k < n
    · obtain ⟨g, rfl, hg1, hg2, hcell, hfr⟩ := hown.form (by omega)
      have hd : wr.cell? ⟨g, k, none⟩ = some (xs[k]'(by have := hown.len; omega)) := by
        rw [hcell k (by omega), List.getElem?_eq_getElem]
      have hf := hfr k
      have k0' : (0 : Int) ≤ (k : Int) := by omega
      have k1' : (k : Int) < (n : Int) := by omega
      clear hcell hfr
      generalize xs[k]'(by have := hown.len; omega) = u0 at hd
      go_wp2
      go_roundw
      case rel =>
        obtain ⟨o1, o2⟩ := hown.stored k (.int .i64 ((k0 : Int) + (k : Int)))
        exact ⟨k + 1, _, by omega, by go_num, by go_num, o1, he.trans o2⟩
      case measure => simp [intOf]; omega
    · have hge : k = n := by omega
      subst hge
      go_wp2
      go_ret
      exact ⟨xs, by simp, hown, he⟩
section
open Go.ChangeShapes Go.WideShapes
variable {H : Type} {enc : TypeId × Value → H} {P : Program} {W : World} {held : Bool}
/-- An argument that is a slice of integers. -/
theorem open_intS {t e : TypeId} {v : Value} {d : DataW H} {p : List MemPlace} {r : Reach} {b0 : Nat} (ht : P.underlying t = some (.slice e)) (he : P.underlying e = some (.int .i64)) (hC : P.cellsOf e = 1)
    (hv : Value.okWide P W r b0 t v) (h : DataW.Trod enc P W 0 (fun _ => true) held t v d p) :
    ∃ A n c, ∃ l : List Int, v = .slice A n c ∧ n ≤ c ∧ c ≤ maxLen ∧ Rd W W.heap.size 1 A n (intCells l) := by
  obtain ⟨a0, len, cap, rfl⟩ := okWide_slice ht hv
  obtain ⟨fuel, hf⟩ := h
  rcases open_ints ht he hC hf with ⟨hcs, _⟩ | ⟨x, l, c, zs, hcs, _, hl, hm, hz, _, hcell, hwz⟩
  · simp [Value.cells] at hcs
    obtain ⟨rfl, rfl, rfl⟩ := hcs
    exact ⟨none, 0, 0, [], rfl, Nat.le_refl _, Nat.zero_le _, Rd.nil⟩
  · simp [Value.cells] at hcs
    obtain ⟨rfl, rfl, rfl⟩ := hcs
    simp at hz
    refine ⟨some x, len, cap, zs.take len, rfl, hl, hm, ?_⟩
    refine ⟨by simp; omega, ?_⟩
    by_cases h0 : len = 0
    · subst h0; exact .inl (by simp)
    · have hc0 := hcell 0 (by omega)
      have hsp : x.spot = none := by
        have := World.cell?_spot hc0
        simpa [Addr.add] using this
      obtain ⟨b, off, spot⟩ := x
      simp only at hsp
      subst hsp
      refine .inr ⟨b, off, rfl, ?_, fun j u hu => ?_⟩
      · have := block_lt_of_cell hc0
        simpa [Addr.add_lit] using this
      · have hj : j < len := by
          have := (List.getElem?_eq_some_iff.1 hu).1
          simp at this; omega
        have hcj := hcell j (by omega)
        rw [Addr.add_lit] at hcj
        rw [hcj, ← hu]
        simp [hj, List.getD, show j < zs.length by omega]
end
theorem lenB_nw {dc : List (List UInt8)} {dw : List (Int × List UInt8)} (h : lenB dc dw) : dw.length ≤ 1048576 := h.2.1
set_option maxHeartbeats 4000000 in
set_option maxRecDepth 100000 in
theorem spec_DiskSync_d (Ac : Option Addr) (nc cc : Nat) (Aw : Option Addr) (nw cw : Nat) (dc : List (List UInt8)) (dw : List (Int × List UInt8)) (W : World) (h : RdDk W W.heap.size Ac nc Aw nw dc dw) (LB : lenB dc dw) :
    Calls Try.prog 29 #[.agg #[.slice Ac nc cc, .slice Aw nw cw]] W (MadeD (if dkOk dc dw then syncN dc dw dw.length else []) [] W) := by
  have hlw := h.len.2
  have hnw := lenB_nw LB
  obtain ⟨R, hR⟩ : ∃ R, (if dkOk dc dw then syncN dc dw dw.length else []) = R := ⟨_, rfl⟩
  have hR2 : (if dkOk dc dw then crashN dc dw (List.replicate nw (128 : Int)) dw.length else []) = R := by
    rw [← hR]
    split
    · next hok => exact syncN_crash hok (fun k hk => kp_full (by omega)) dw.length (Nat.le_refl _)
    · rfl
  have HC := Lib.hid (fun (A : Option Addr) (c : Nat) (w : World) (h1 : RdDk w w.heap.size Ac nc Aw nw dc dw) (h2 : Rd w w.heap.size 1 A nw (intCells (List.replicate nw (128 : Int)))) => hR2 ▸ spec_DiskCrash_d Ac nc cc Aw nw cw dc dw A nw c (List.replicate nw (128 : Int)) w h1 LB h2 (by omega))
  rw [hR]
  have h0 := Lib.hid h
  obtain ⟨i0, hi0, hj0, hj1, hj2⟩ := info_parts info_int
  have hnw2 : nw ≤ 1048576 := by omega
  clear hR hR2 hlw hnw
  go_enter Try.func29, Try.ntmps29
  go_wp2
  have hb0 : Below W.heap.size W (((W.alloc (.cells #[.slice Ac nc cc, .slice Aw nw cw] 33)).alloc (.cells #[.slice none 0 0, .slice none 0 0] 33)).alloc (.cells #[] 3)) := (((Below.refl _ _).alloc (Nat.le_refl _) _).alloc (by simp) _).alloc (by simp; omega) _
  have ha0 : (((W.alloc (.cells #[.slice Ac nc cc, .slice Aw nw cw] 33)).alloc (.cells #[.slice none 0 0, .slice none 0 0] 33)).alloc (.cells #[] 3)).cell? ⟨W.heap.size, 0, none⟩ = some (.slice Ac nc cc) := cellA (cellA (var_cell _ _ _ _ _ rfl) _) _
  have ha1 : (((W.alloc (.cells #[.slice Ac nc cc, .slice Aw nw cw] 33)).alloc (.cells #[.slice none 0 0, .slice none 0 0] 33)).alloc (.cells #[] 3)).cell? ⟨W.heap.size, 1, none⟩ = some (.slice Aw nw cw) := cellA (cellA (var_cell _ _ _ _ _ rfl) _) _
  have hr0 : (((W.alloc (.cells #[.slice Ac nc cc, .slice Aw nw cw] 33)).alloc (.cells #[.slice none 0 0, .slice none 0 0] 33)).alloc (.cells #[] 3)).cell? ⟨W.heap.size + 1, 0, none⟩ = some (.slice none 0 0) := cellA (by simp) _
  have hr1 : (((W.alloc (.cells #[.slice Ac nc cc, .slice Aw nw cw] 33)).alloc (.cells #[.slice none 0 0, .slice none 0 0] 33)).alloc (.cells #[] 3)).cell? ⟨W.heap.size + 1, 1, none⟩ = some (.slice none 0 0) := cellA (by simp) _
  have fr0 : ∀ o, (((W.alloc (.cells #[.slice Ac nc cc, .slice Aw nw cw] 33)).alloc (.cells #[.slice none 0 0, .slice none 0 0] 33)).alloc (.cells #[] 3)).frozen? ⟨W.heap.size + 1, o, none⟩ = false := fun o => by simp [go_sem]
  have hf0 := fr0 0
  have hf1 := fr0 1
  clear fr0
  have hO : OwnI (((W.alloc (.cells #[.slice Ac nc cc, .slice Aw nw cw] 33)).alloc (.cells #[.slice none 0 0, .slice none 0 0] 33)).alloc (.cells #[] 3)) (W.heap.size + 2) (((W.alloc (.cells #[.slice Ac nc cc, .slice Aw nw cw] 33)).alloc (.cells #[.slice none 0 0, .slice none 0 0] 33)).alloc (.cells #[] 3)).heap.size (some ⟨W.heap.size + 2, 0, none⟩) 0 0 [] := by
    have := Own.wide (new_empty ((W.alloc (.cells #[.slice Ac nc cc, .slice Aw nw cw] 33)).alloc (.cells #[.slice none 0 0, .slice none 0 0] 33)) 3 1) (Nat.le_refl _) (by simp) (Nat.le_refl _) (hi' := (((W.alloc (.cells #[.slice Ac nc cc, .slice Aw nw cw] 33)).alloc (.cells #[.slice none 0 0, .slice none 0 0] 33)).alloc (.cells #[] 3)).heap.size)
    simpa [OwnI] using this
  have hs0 : (((W.alloc (.cells #[.slice Ac nc cc, .slice Aw nw cw] 33)).alloc (.cells #[.slice none 0 0, .slice none 0 0] 33)).alloc (.cells #[] 3)).heap.size = W.heap.size + 3 := (by simp)
  generalize (((W.alloc (.cells #[.slice Ac nc cc, .slice Aw nw cw] 33)).alloc (.cells #[.slice none 0 0, .slice none 0 0] 33)).alloc (.cells #[] 3)) = w0 at *
  go_loopw [3, 8] (fun vs vi wr => ∃ (k : Nat) (A : Option Addr) (c : Nat), k ≤ nw ∧ vs = .slice A k c ∧ vi = .int .i64 (k : Int) ∧ Below W.heap.size W wr ∧ W.heap.size + 3 ≤ wr.heap.size ∧ wr.cell? ⟨W.heap.size, 0, none⟩ = some (.slice Ac nc cc) ∧ wr.cell? ⟨W.heap.size, 1, none⟩ = some (.slice Aw nw cw) ∧ wr.cell? ⟨W.heap.size + 1, 0, none⟩ = some (.slice none 0 0) ∧ wr.cell? ⟨W.heap.size + 1, 1, none⟩ = some (.slice none 0 0) ∧ wr.frozen? ⟨W.heap.size + 1, 0, none⟩ = false ∧ wr.frozen? ⟨W.heap.size + 1, 1, none⟩ = false ∧ OwnI wr (W.heap.size + 2) wr.heap.size A k c (List.replicate k 128)) (fun _ vi _ => nw - (intOf vi).toNat)
  case atStart => exact ⟨0, _, 0, Nat.zero_le _, rfl, rfl, hb0, by omega, ha0, ha1, hr0, hr1, hf0, hf1, hO⟩
  case round =>
    clear hb0 ha0 ha1 hr0 hr1 hf0 hf1 hO hs0
    obtain ⟨k, A, c, hk, rfl, rfl, hb, hz, ha0, ha1, hr0, hr1, hf0, hf1, hO⟩ := hrel
    by_cases hlt : k < nw
    · go_wp2_with (at_builtin; refine wpList_app _ rfl _ _ 48 rfl 3 i0 (.int .i64 0) 1 8 Try.underlying48 hi0 hj0 hj1 hj2 rfl (by omega) rfl (Own.alloc hO _) 1 rfl (rd_new1 wr (.int .i64 128) 3) (by intro u hu; simp only [List.mem_singleton] at hu; subst hu; rfl) (by unfold maxLen; omega) (by omega) (by simp; omega) ?_; intro A2 c2 w2 hO2 hE2 hK2)
      have he := ((Eff.refl (W.heap.size + 2) wr.heap.size wr).new _).trans hE2
      have hz2 := he.size
      go_roundw
      case rel => exact ⟨k + 1, A2, c2, by omega, rfl, by go_num, hb.trans (he.below hb.size (by omega)), by omega, he.cell ha0 (by simp only; omega), he.cell ha1 (by simp only; omega), he.cell hr0 (by simp only; omega), he.cell hr1 (by simp only; omega), (he.frozen hr0 (by simp only; omega)).trans hf0, (he.frozen hr1 (by simp only; omega)).trans hf1, by unfold OwnI; rw [List.replicate_succ']; simpa [intCells] using hO2⟩
      case measure => simp [intOf]; omega
    · have hge : k = nw := by omega
      subst hge
      go_wp2_with (go_at_call 32; refine (HC.out A c wr ((h0.out.below hb (Nat.le_refl _)).more (by omega)) (hO.rd (Nat.le_refl _))).mono ?_; rintro e w4 ⟨A1, n1, c1, A2, n2, c2, q1, q2, rfl, y, hb4⟩; have hr0' := (Eff.of hb4).cell hr0 (by simp only; omega); have hr1' := (Eff.of hb4).cell hr1 (by simp only; omega); have hf0' := ((Eff.of hb4).frozen hr0 (by simp only; omega)).trans hf0; have hf1' := ((Eff.of hb4).frozen hr1 (by simp only; omega)).trans hf1; have hq1 := Lib.hid q1; have hq2 := Lib.hid q2; clear q1 q2)
      refine bodyPost_ret (v := .agg #[.slice A1 n1 c1, .slice A2 n2 c2]) (by simp [results, Try.results29, go_sem, *]) rfl ?_
      have e : Eff (W.heap.size + 1) (W.heap.size + 1 + 1) w4 ((w4.setCell ⟨W.heap.size + 1, 0, none⟩ (.slice A1 n1 c1)).setCell ⟨W.heap.size + 1, 1, none⟩ (.slice A2 n2 c2)) := eff_two
      have hs4 := hb4.size
      have hs5 := e.size
      have hbb : Below W.heap.size W w4 := hb.trans (hb4.mono (by omega))
      exact ⟨A1, n1, c1, A2, n2, c2, hq1.out, hq2.out, rfl, (y.keep e (.inr (.inl (by omega)))).wide (by omega) hs5 (Nat.le_refl _), hbb.trans (e.below hbb.size (by omega))⟩
end Go.Proofs.Ytblenfhacaecmaa
