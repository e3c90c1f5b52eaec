/- Rows of postings: to, sz, eq, mark, held. -/
import Derived.Test.YtgjphejmppehjaaRws
import Derived.Test.YtgjphejmppehjaaLed
import Derived.Deep.RegionHeld3
namespace Go.Proofs.Ytgjphejmppehjaa
open Go.RowKit
theorem ret_intR {a b : Int} (h : a = b) : Ending.returned (.int .i64 a) = .returned (.int .i64 b) := by rw [h]
theorem markLineS_z (A : Option Addr) (n c : Nat) (ls : List Ln) (lo hi k0 : Nat) (w : World) (ho : OwnL w lo hi A n c ls) (hk0 : k0 ≤ 4611686018427387904) (hn : n ≤ 1099511627776) (z : Int) (hz : z = (k0 : Int)) :
    Calls Try.prog 56 #[.slice A n c, .int .i64 z] w (MarkedL A n c k0 lo hi w) := by subst hz; exact markLineS_any A n c ls lo hi k0 w ho hk0 hn
theorem heldLineS_z (A : Option Addr) (n c k0 : Nat) (w : World) (hr : Rd w w.heap.size 3 A n (lnCells (marksL k0 n))) (hk0 : k0 ≤ 4611686018427387904) (hn : n ≤ 1099511627776) (z : Int) (hz : z = (k0 : Int)) :
    Calls Try.prog 57 #[.slice A n c, .int .i64 z] w fun e w' => e = .returned (.int .i64 ((k0 + n * 3 : Nat) : Int)) ∧ Below w.heap.size w w' := by subst hz; exact heldLineS_yes A n c k0 w hr hk0 hn
/-- A struct 'Posting' with an inner slice. -/
structure Ps where
  idn : Int
  A : Option Addr
  n : Nat
  c : Nat
  l : List Ln
def Ps.f (x : Ps) : List Value := [.int .i64 x.idn, .slice x.A x.n x.c]
def Ps.g (x : Ps) : Sl := ⟨x.A, x.n, x.c, lnCells x.l⟩
def Ps.d (x : Ps) : Int × List Ln := (x.idn, x.l)
theorem Ps.hf (x : Ps) : x.f.length = 2 := rfl
abbrev RdPosting (w : World) (B : Nat) (A : Option Addr) (n : Nat) (es : List Ps) : Prop := RdR 2 3 Ps.f Ps.g w B A n es
abbrev OwnPosting (w : World) (lo hi : Nat) (A : Option Addr) (n c : Nat) (es : List Ps) : Prop := OwnR 43 2 63 3 Ps.f Ps.g w lo hi A n c es
theorem info_Posting : (Try.prog.info? 43).map (fun i => (i.zero, i.size, i.bytes)) = some (some (.agg #[.int .i64 0, .slice none 0 0]), 2, 32) := by kernel_rfl
/-- Rows of the call's own. -/
def MadePostingS (n : Nat) (ds : List (Int × List Ln)) (w : World) (e : Ending) (w' : World) : Prop :=
  ∃ A c es, e = .returned (.slice A n c) ∧ es.map Ps.d = ds ∧ OwnPosting w' w.heap.size w'.heap.size A n c es ∧ Below w.heap.size w w'
set_option maxHeartbeats 1000000 in
set_option maxRecDepth 100000 in
theorem toPostingS_any (A : Option Addr) (n c : Nat) (es : List Ps) (w : World) (hr : RdPosting w w.heap.size A n es) (hn : n ≤ 1099511627776) (hns : ∀ x ∈ es, x.n ≤ 1099511627776) :
    Calls Try.prog 41 #[.slice A n c] w (MadePostingS n (es.map Ps.d) w) := by
  obtain ⟨i0, hi0, hz0, hz1, hz2⟩ := info_parts info_Posting
  have hl := hr.len Ps.hf (by omega)
  have HL := Lib.hid hl
  have HNS := Lib.hid hns
  clear hl hns
  go_enter Try.func41, Try.ntmps41
  go_wp2_with (at_make; refine wpList_make_full _ rfl _ _ 68 rfl w.heap.size 43 i0 (.agg #[.int .i64 0, .slice none 0 0]) 2 Try.underlying68 hi0 hz0 hz1 _ _ _ _ n rfl rfl rfl rfl (by rw [hz2]; omega) (by unfold maxLen; omega) (Nat.le_refl _) ?_; intro w1 hown1 hg1)
  have hb1 : Below w.heap.size w w1 := (Below.refl _ _).grown hg1 (Nat.le_refl _) (by simp)
  have hs1 : w.heap.size < w1.heap.size := (hown1.lt w.heap.size rfl).2
  clear hg1
  go_loopw [4] (fun vi wr => ∃ (k : Nat) (es' : List Ps), k ≤ n ∧ vi = .int .i64 (k : Int) ∧ Fill 43 2 63 3 Ps.f Ps.g wr w.heap.size w1.heap.size n k es' ∧ Hid (es'.map Ps.d = (es.map Ps.d).take k) ∧ Below w.heap.size w wr) (fun vi _ => n - (intOf vi).toNat)
  case atStart => exact ⟨0, [], Nat.zero_le _, rfl, Fill.start ⟨hown1, fun j hj => (hown1.lt j hj).2, Nat.le_refl _⟩ hs1, Lib.hid (by simp), hb1⟩
  case round =>
    obtain ⟨k, es', hk, rfl, hF, HD, hb⟩ := hrel
    by_cases hlt : k < n
    · have hkk := hlt
      obtain ⟨b, off, ⟨s_idn, Ax, nx, cx, lx⟩, rfl, hbB, hx, hcell, hi, hcap⟩ := (hr.below hb (Nat.le_refl _)).elem Ps.hf (by omega) hlt
      have cc0 : wr.cell? ⟨b, off + k * 2, none⟩ = some (.int .i64 s_idn) := by have := hcell 0 _ rfl; simpa [Nat.mul_one, Nat.add_assoc] using this
      have cc1 : wr.cell? ⟨b, off + k * 2 + 1, none⟩ = some (.slice Ax nx cx) := by have := hcell 1 _ rfl; simpa [Nat.mul_one, Nat.add_assoc] using this
      have HX := Lib.hid hx
      clear hcell hx
      have hnx : nx ≤ 1099511627776 := HNS.out _ (List.mem_of_getElem? HX.out)
      have hz := hb.size
      go_wp2_with fail
      refine (toPosting_any s_idn Ax nx cx lx wr (hi.more hz) hnx).mono ?_
      rintro e w2 ⟨A1, c1, rfl, t1, hb2⟩
      have hF2 := hF.keep (Eff.of hb2)
      obtain ⟨u0, d0⟩ := hF2.cell hlt 0 (by omega)
      have f0 := hF2.free hlt (k * 2)
      replace d0 : w2.cell? ⟨w.heap.size, k * 2, none⟩ = some u0 := by simpa [Nat.mul_one] using d0
      obtain ⟨u1, d1⟩ := hF2.cell hlt 1 (by omega)
      have f1 := hF2.free hlt (k * 2 + 1)
      replace d1 : w2.cell? ⟨w.heap.size, k * 2 + 1, none⟩ = some u1 := by simpa [Nat.mul_one] using d1
      go_wp2
      go_roundw
      case rel =>
        refine ⟨k + 1, es' ++ [⟨s_idn, A1, nx, c1, lx⟩], by omega, by go_num, hF.step Ps.hf (w' := w2) (Eff.of hb2) (y := ⟨s_idn, A1, nx, c1, lx⟩) t1 (((((Eff.refl _ _ _).setCell (by simp only; omega) (by simp only; omega) _)).setCell (by simp only; omega) (by simp only; omega) _)) (by simp) (fun xs hx => store2 hx k hlt (.int .i64 s_idn) (.slice A1 nx c1)), Lib.hid ?_, (((hb.trans (hb2.mono hz))).setCell (Nat.le_refl _) _).setCell (Nat.le_refl _) _⟩
        rw [List.map_append, HD.out, List.take_add_one, List.getElem?_map, HX.out]; rfl
      case measure => simp [intOf]; omega
    · have hge : k = n := by omega
      subst hge
      go_wp2
      go_ret
      refine ⟨_, _, es', rfl, ?_, hF.done Ps.hf, hb⟩
      rw [HD.out, List.take_of_length_le (by rw [List.length_map, HL.out]; exact Nat.le_refl _)]
set_option maxHeartbeats 1000000 in
set_option maxRecDepth 100000 in
theorem eqPostingS_same (A : Option Addr) (n c : Nat) (es : List Ps) (A' : Option Addr) (n' c' : Nat) (es' : List Ps) (w : World) (hr : RdPosting w w.heap.size A n es) (hr' : RdPosting w w.heap.size A' n' es') (hd : es.map Ps.d = es'.map Ps.d) (hn : n ≤ 1099511627776) (hns : ∀ x ∈ es, x.n ≤ 1099511627776) (hns' : ∀ x ∈ es', x.n ≤ 1099511627776) :
    Calls Try.prog 43 #[.slice A n c, .slice A' n' c'] w fun e w' => e = .returned (.bool true) ∧ Below w.heap.size w w' := by
  have hl := hr.len Ps.hf (by omega)
  have hl' := hr'.len Ps.hf (by omega)
  have hln := congrArg List.length hd
  simp only [List.length_map] at hln
  obtain rfl : n' = n := by omega
  have hnn : ((n' : Int) != (n' : Int)) = false := by simp
  have HNS := Lib.hid hns
  have HNS' := Lib.hid hns'
  have HD := Lib.hid hd
  clear hl hl' hln hns hns' hd
  go_enter Try.func43, Try.ntmps43
  go_wp2
  go_loopw [5] (fun vi wr => ∃ k : Nat, k ≤ n' ∧ vi = .int .i64 (k : Int) ∧ Below w.heap.size w wr) (fun vi _ => n' - (intOf vi).toNat)
  case atStart => exact ⟨0, Nat.zero_le _, rfl, Below.refl _ _⟩
  case round =>
    obtain ⟨k, hk, rfl, hb⟩ := hrel
    by_cases hlt : k < n'
    · have hkk := hlt
      obtain ⟨b, off, ⟨s_idn, Ax, nx, cx, lx⟩, rfl, hbB, hx, hcell, hi, hcap⟩ := (hr.below hb (Nat.le_refl _)).elem Ps.hf (by omega) hlt
      have cc0 : wr.cell? ⟨b, off + k * 2, none⟩ = some (.int .i64 s_idn) := by have := hcell 0 _ rfl; simpa [Nat.mul_one, Nat.add_assoc] using this
      have cc1 : wr.cell? ⟨b, off + k * 2 + 1, none⟩ = some (.slice Ax nx cx) := by have := hcell 1 _ rfl; simpa [Nat.mul_one, Nat.add_assoc] using this
      have HX := Lib.hid hx
      clear hcell hx
      obtain ⟨b', off', ⟨s_idn', A'x, n'x, c'x, l'x⟩, rfl, hbB', hx', hcell', hi', hcap'⟩ := (hr'.below hb (Nat.le_refl _)).elem Ps.hf (by omega) hlt
      have cc0' : wr.cell? ⟨b', off' + k * 2, none⟩ = some (.int .i64 s_idn') := by have := hcell' 0 _ rfl; simpa [Nat.mul_one, Nat.add_assoc] using this
      have cc1' : wr.cell? ⟨b', off' + k * 2 + 1, none⟩ = some (.slice A'x n'x c'x) := by have := hcell' 1 _ rfl; simpa [Nat.mul_one, Nat.add_assoc] using this
      have HX' := Lib.hid hx'
      clear hcell' hx'
      have hdd := congrArg (fun l => l[k]?) HD.out
      simp only [List.getElem?_map, HX.out, HX'.out, Option.map_some, Option.some.injEq, Ps.d] at hdd
      obtain rfl : s_idn = s_idn' := (congrArg (·.1) hdd)
      obtain rfl : lx = l'x := (congrArg (·.2) hdd)
      (try clear hdd)
      have hnx : nx ≤ 1099511627776 := HNS.out _ (List.mem_of_getElem? HX.out)
      have hnx' : n'x ≤ 1099511627776 := HNS'.out _ (List.mem_of_getElem? HX'.out)
      have hz := hb.size
      have i0 : (0 : Int) ≤ (k : Int) := by omega
      have i1 : (k : Int) < (n' : Int) := by omega
      have hi1 := hi.more hz
      have hi1' := hi'.more hz
      go_wp2
      go_region_held3 (fun w' => w'.cell? ⟨b, off + k * 2, none⟩ = some (.int .i64 s_idn) ∧ w'.cell? ⟨b, off + k * 2 + 1, none⟩ = some (.slice Ax nx cx) ∧ w'.cell? ⟨b', off' + k * 2, none⟩ = some (.int .i64 s_idn) ∧ w'.cell? ⟨b', off' + k * 2 + 1, none⟩ = some (.slice A'x n'x c'x)) ((go_split_ands; (repeat' apply And.intro) <;> (first | assumption | exact (Below.cell (by assumption) (by first | omega | (simp; done) | (simp; omega))).trans (by assumption)))) (first | (go_at_call 26; refine (eqPosting_same s_idn Ax nx cx A'x n'x c'x lx _ (hi1.drew) (hi1'.drew) hnx).mono ?_; rintro e w2 ⟨rfl, hb2⟩))
      go_wp2
      go_roundw
      case rel => exact ⟨k + 1, by omega, by go_num, hb.drew.trans (hb2.mono hz)⟩
      case measure => simp [intOf]; omega
    · have hge : k = n' := by omega
      subst hge
      go_wp2
      go_ret
      exact ⟨rfl, hb⟩
set_option maxHeartbeats 1000000 in
set_option maxRecDepth 100000 in
theorem szPostingS_any (A : Option Addr) (n c : Nat) (es : List Ps) (left : Int) (w : World) (hr : RdPosting w w.heap.size A n es) (hl : -1 ≤ left ∧ left ≤ 4611686018427387904) (hn : n ≤ 9223372036854775807) :
    Calls Try.prog 39 #[.slice A n c, .int .i64 left] w fun e w' => e = .returned (.int .i64 (if left - (totS 1 1 (es.map Ps.n) : Int) < 0 then -1 else left - (totS 1 1 (es.map Ps.n) : Int))) ∧ Below w.heap.size w w' := by
  obtain ⟨hl1, hl2⟩ := hl
  have hel := hr.len Ps.hf (by omega)
  have htl : n ≤ totS 1 1 (es.map Ps.n) := by have := totS_len (s := 1) (ns := es.map Ps.n); rw [List.length_map, hel] at this; exact this
  obtain ⟨r, hr0⟩ : ∃ r, (if left - (totS 1 1 (es.map Ps.n) : Int) < 0 then -1 else left - (totS 1 1 (es.map Ps.n) : Int)) = r := ⟨_, rfl⟩
  rw [hr0]
  have HR := Lib.hid hr0
  have HEL := Lib.hid hel
  have HTL := Lib.hid htl
  clear hr0 hel htl
  by_cases h0 : left - (n : Int) < 0
  · obtain rfl : r = -1 := by rw [← HR.out, if_pos (by have := HTL.out; omega)]
    go_enter Try.func39, Try.ntmps39
    go_wp2
    go_ret
    exact ⟨rfl, Below.refl _ _⟩
  have h0' : 0 ≤ left - (n : Int) := by omega
  clear h0
  go_enter Try.func39, Try.ntmps39
  go_wp2
  go_loopw [1, 5] (fun vl vi wr => ∃ (k : Nat) (lv : Int), k ≤ n ∧ vi = .int .i64 (k : Int) ∧ vl = .int .i64 lv ∧ 0 ≤ lv ∧ lv ≤ 4611686018427387904 ∧ Hid (lv = left - (n : Int) - (ofs 0 1 (es.map Ps.n) k : Int)) ∧ Below w.heap.size w wr) (fun _ vi _ => n - (intOf vi).toNat)
  case atStart => exact ⟨0, left - (n : Int), Nat.zero_le _, rfl, rfl, h0', by omega, Lib.hid (by rw [ofs_zero]; simp), Below.refl _ _⟩
  case round =>
    obtain ⟨k, lv, hk, rfl, rfl, hv0, hv1, HV, hb⟩ := hrel
    by_cases hlt : k < n
    · have hkk := hlt
      obtain ⟨b, off, ⟨s_idn, Ax, nx, cx, lx⟩, rfl, hbB, hx, hcell, hi, hcap⟩ := (hr.below hb (Nat.le_refl _)).elem Ps.hf (by omega) hlt
      have cc0 : wr.cell? ⟨b, off + k * 2, none⟩ = some (.int .i64 s_idn) := by have := hcell 0 _ rfl; simpa [Nat.mul_one, Nat.add_assoc] using this
      have cc1 : wr.cell? ⟨b, off + k * 2 + 1, none⟩ = some (.slice Ax nx cx) := by have := hcell 1 _ rfl; simpa [Nat.mul_one, Nat.add_assoc] using this
      have HX := Lib.hid hx
      clear hcell hx
      have HS := Lib.hid (ofs_succ (sc := 0) (s := 1) (ns := es.map Ps.n) (j := k) (n := nx) (by rw [List.getElem?_map, HX.out]; rfl))
      have hcap1 : nx ≤ cx := hcap.1
      have hcap2 : cx ≤ maxLen := hcap.2
      clear hcap
      unfold maxLen at hcap2
      have hz := hb.size
      by_cases hneg : lv - (nx : Int) < 0
      · go_wp2_with fail
        refine (szPosting_any s_idn Ax nx cx lv (by omega) ⟨by omega, by omega⟩ wr).mono ?_
        rintro e w2 ⟨rfl, hb2⟩
        rw [if_pos hneg]
        go_wp2
        go_ret
        refine ⟨?_, hb.trans (hb2.mono hz)⟩
        have hc : left - (totS 1 1 (es.map Ps.n) : Int) < 0 := by
          have h1 := HS.out
          have h2 := HV.out
          have h3 := ofs_tot (ns := es.map Ps.n) (j := k + 1)
          rw [List.length_map, HEL.out] at h3
          omega
        exact ret_intR (by rw [← HR.out, if_pos hc])
      · have hpos : 0 ≤ lv - (nx : Int) := by omega
        clear hneg
        go_wp2_with fail
        refine (szPosting_any s_idn Ax nx cx lv (by omega) ⟨by omega, by omega⟩ wr).mono ?_
        rintro e w2 ⟨rfl, hb2⟩
        rw [if_neg (by omega)]
        go_wp2
        go_roundw
        case rel => exact ⟨k + 1, lv - (nx : Int), by omega, by go_num, rfl, hpos, by omega, Lib.hid (by rw [HS.out, HV.out]; omega), hb.trans (hb2.mono hz)⟩
        case measure => simp [intOf]; omega
    · have hge : k = n := by omega
      subst hge
      go_wp2
      go_ret
      refine ⟨?_, hb⟩
      have h2 := HV.out
      have h3 := ofs_tot (ns := es.map Ps.n) (j := k)
      rw [List.length_map, HEL.out] at h3
      have h4 := ofs_end (ns := es.map Ps.n)
      rw [List.length_map, HEL.out] at h4
      exact ret_intR (by rw [← HR.out, if_neg (by omega)]; omega)
/-- The marks from k on of structs whose slices have these lengths. -/
def marksPosting (k : Nat) (ns : List Nat) : List (Int × List Ln) := marksR (fun k n => ((k : Int), marksL (k + 1) n)) 1 3 k ns
theorem marksPosting_get {k j n : Nat} {ns : List Nat} (h : ns[j]? = some n) : (marksPosting k ns)[j]? = some (((((k + ofs 1 3 ns j) : Nat) : Int), marksL ((k + ofs 1 3 ns j) + 1) n)) := marksR_get h
theorem marksPosting_len {k : Nat} {ns : List Nat} : (marksPosting k ns).length = ns.length := marksR_len
/-- What markPostingS leaves. -/
def MarkedPostingS (A : Option Addr) (n c k lo hi : Nat) (ns : List Nat) (w : World) (e : Ending) (w' : World) : Prop :=
  ∃ es : List Ps, e = .returned (.int .i64 ((k + totS 1 3 ns : Nat) : Int)) ∧ es.map Ps.d = marksPosting k ns ∧ es.map Ps.n = ns ∧ OwnPosting w' lo hi A n c es ∧ Eff lo hi w w'
set_option maxHeartbeats 1000000 in
set_option maxRecDepth 100000 in
theorem markPostingS_any (A : Option Addr) (n c : Nat) (es : List Ps) (ns : List Nat) (lo hi k0 : Nat) (w : World) (ho : OwnPosting w lo hi A n c es) (hns : es.map Ps.n = ns) (hk0 : k0 + totS 1 3 ns ≤ 4611686018427387904) (hn : n ≤ 1099511627776) (hnb : ∀ m ∈ ns, m ≤ 1099511627776) :
    Calls Try.prog 44 #[.slice A n c, .int .i64 (k0 : Int)] w (MarkedPostingS A n c k0 lo hi ns w) := by
  have hel := ho.len Ps.hf (by omega)
  have hlohi := ho.lohi
  have HEL := Lib.hid hel
  have HNB := Lib.hid hnb
  have HNS := Lib.hid hns
  clear hel hnb hns
  go_enter Try.func44, Try.ntmps44
  go_wp2
  go_loopw [1, 5] (fun vk vi wr => ∃ (k kv : Nat) (es' : List Ps), k ≤ n ∧ vk = .int .i64 (kv : Int) ∧ vi = .int .i64 (k : Int) ∧ Hid (kv = k0 + ofs 1 3 ns k) ∧ OwnPosting wr lo hi A n c es' ∧ Hid (es'.map Ps.n = ns) ∧ Hid (∀ j, j < k → (es'.map Ps.d)[j]? = (marksPosting k0 ns)[j]?) ∧ Eff lo hi w wr) (fun _ vi _ => n - (intOf vi).toNat)
  case atStart => exact ⟨0, k0, es, Nat.zero_le _, rfl, rfl, Lib.hid (by rw [ofs_zero]; rfl), ho, HNS, Lib.hid (fun j hj => absurd hj (by omega)), Eff.refl _ _ _⟩
  case round =>
    obtain ⟨k, kv, es', hk, rfl, rfl, HK, hF, HNS', HD, he⟩ := hrel
    by_cases hlt : k < n
    · obtain ⟨gb, ⟨s_idn, Ax, nx, cx, lx⟩, rfl, hg1, hg2, hx, hcell, hfr, hi⟩ := hF.outs Ps.hf (by omega) hlt
      have cc0 : wr.cell? ⟨gb, k * 2, none⟩ = some (.int .i64 s_idn) := by have := hcell 0 _ rfl; simpa [Nat.mul_one, Nat.add_assoc] using this
      have ff0 := hfr (k * 2)
      have cc1 : wr.cell? ⟨gb, k * 2 + 1, none⟩ = some (.slice Ax nx cx) := by have := hcell 1 _ rfl; simpa [Nat.mul_one, Nat.add_assoc] using this
      have ff1 := hfr (k * 2 + 1)
      have HX := Lib.hid hx
      clear hcell hfr hx
      have HN := Lib.hid (show ns[k]? = some nx by rw [← HNS'.out, List.getElem?_map, HX.out]; rfl)
      have hnx : nx ≤ 1099511627776 := HNB.out _ (List.mem_of_getElem? HN.out)
      have HS := Lib.hid (ofs_succ (sc := 1) (s := 3) HN.out)
      have hkv : kv + 1 + nx * 3 ≤ 4611686018427387904 := by have := HS.out; have := HK.out; have := ofs_le (sc := 1) (s := 3) (ns := ns) (j := k + 1); omega
      obtain ⟨ta, tb, hti, hta, htab, htb, htt⟩ := hi.tight hlohi
      have HTT := Lib.hid htt
      clear htt
      have hsep : ¬ (ta ≤ gb ∧ gb < tb) := fun h => hF.inn.out _ (List.mem_of_getElem? HX.out) gb (HTT.out gb h.1 h.2) rfl
      go_wp2_with fail
      have E1 : Eff gb (gb + 1) wr (wr.setCell ⟨gb, k * 2, none⟩ (.int .i64 (kv : Int))) := ((Eff.refl _ _ _).setCell (by simp only; omega) (by simp only; omega) _)
      have hti1 := Own.keep hti E1 (by omega)
      refine (markLineS_z Ax nx cx lx ta tb (kv + 1) _ hti1 (by omega) hnx _ (by simp)).mono ?_
      rintro e w2 ⟨rfl, h1, h2⟩
      go_wp2
      go_roundw
      case rel =>
        have g0 : (es'.flatMap Ps.f).set (k * 2) (.int .i64 (kv : Int)) = ((es').set k (⟨(kv : Int), Ax, nx, cx, marksL (kv + 1) nx⟩ : Ps)).flatMap Ps.f := flat_setcell Ps.hf (es := es') (i := k) (j := 0) (x := (⟨s_idn, Ax, nx, cx, lx⟩ : Ps)) (y := (⟨(kv : Int), Ax, nx, cx, marksL (kv + 1) nx⟩ : Ps)) (u := .int .i64 (kv : Int)) HX.out (by omega) rfl
        refine ⟨k + 1, kv + 1 + nx * 3, es'.set k ⟨(kv : Int), Ax, nx, cx, marksL (kv + 1) nx⟩, by omega, by go_num, by go_num, Lib.hid (by rw [HS.out, HK.out]; omega), ?_, Lib.hid ?_, Lib.hid ?_, he.trans ((E1.wide (by omega) (by omega)).trans (h2.wide (by omega) (by omega)))⟩
        · refine hF.mark HX.out rfl hta htb HTT.out ?_ E1 (fun q h1 h2 => by show some gb = some q; congr 1; omega) h2 h1
          have hst := (Own.stored hF.row (k * 2) (.int .i64 (kv : Int))).1
          rw [g0] at hst
          exact hst
        · rw [List.map_set, HNS'.out]
          apply List.ext_getElem?
          intro j
          rw [List.getElem?_set]
          by_cases hj : k = j
          · subst hj; rw [if_pos rfl, if_pos (List.getElem?_eq_some_iff.1 HN.out).1, HN.out]
          · rw [if_neg hj]
        · intro j hj
          rw [List.map_set, List.getElem?_set]
          by_cases hjk : k = j
          · subst hjk
            rw [if_pos rfl, if_pos (by rw [List.length_map]; exact (List.getElem?_eq_some_iff.1 HX.out).1), marksPosting_get HN.out]
            have hk1 := HK.out
            subst hk1
            rfl
          · rw [if_neg hjk]
            exact HD.out j (by omega)
      case measure => simp [intOf]; omega
    · have hge : k = n := by omega
      subst hge
      go_wp2
      go_ret
      have hle : ns.length = k := by rw [← HNS.out, List.length_map, HEL.out]
      refine ⟨es', ret_intR (by rw [HK.out]; unfold totS; rw [hle]), ?_, HNS'.out, hF, he⟩
      apply List.ext_getElem?
      intro j
      by_cases hj : j < k
      · exact HD.out j hj
      · rw [List.getElem?_eq_none (by rw [List.length_map, hF.len Ps.hf (by omega)]; omega), List.getElem?_eq_none (by rw [marksPosting_len, hle]; omega)]
end Go.Proofs.Ytgjphejmppehjaa
