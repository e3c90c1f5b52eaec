/- Rows of sectors: to, sz, eq, mark, held. -/
import Derived.Test.YtblenfhacaecmaaCel
import Derived.Deep.RegionHeld3
namespace Go.Proofs.Ytblenfhacaecmaa
open Go.RowKit
/-- A struct 'Sector' with an inner slice. -/
structure Sc where
  seq : Int
  ep : Int
  A : Option Addr
  n : Nat
  c : Nat
  l : List UInt8
def Sc.f (x : Sc) : List Value := [.int .i64 x.seq, .int .i64 x.ep, .slice x.A x.n x.c]
def Sc.g (x : Sc) : Sl := ⟨x.A, x.n, x.c, Lib.byteCells x.l⟩
def Sc.d (x : Sc) : Int × Int × List UInt8 := (x.seq, x.ep, x.l)
theorem Sc.hf (x : Sc) : x.f.length = 3 := rfl
abbrev RdSector (w : World) (B : Nat) (A : Option Addr) (n : Nat) (es : List Sc) : Prop := RdR 3 1 Sc.f Sc.g w B A n es
abbrev OwnSector (w : World) (lo hi : Nat) (A : Option Addr) (n c : Nat) (es : List Sc) : Prop := OwnR 91 3 5 1 Sc.f Sc.g w lo hi A n c es
theorem info_Sector : (Try.prog.info? 91).map (fun i => (i.zero, i.size, i.bytes)) = some (some (.agg #[.int .i64 0, .int .i64 0, .slice none 0 0]), 3, 40) := by kernel_rfl
/-- Rows of the call's own. -/
def MadeSectorS (n : Nat) (ds : List (Int × Int × List UInt8)) (w : World) (e : Ending) (w' : World) : Prop :=
  ∃ A c es, e = .returned (.slice A n c) ∧ es.map Sc.d = ds ∧ OwnSector w' w.heap.size w'.heap.size A n c es ∧ Below w.heap.size w w'
set_option maxHeartbeats 400000 in
theorem eqSector_same (seq ep : Int) (A : Option Addr) (n c : Nat) (A' : Option Addr) (n' c' : Nat) (l : List UInt8) (w : World) (hr : Rd w w.heap.size 1 A n (Lib.byteCells l)) (hr' : Rd w w.heap.size 1 A' n' (Lib.byteCells l)) (hn : n ≤ 1099511627776) (hn' : n' ≤ 1099511627776) :
    Calls Try.prog 72 #[.agg #[.int .i64 seq, .int .i64 ep, .slice A n c], .agg #[.int .i64 seq, .int .i64 ep, .slice A' n' c']] w fun e w' => e = .returned (.bool true) ∧ Below w.heap.size w w' := by
  have e_seq : (seq != seq) = false := by simp
  have e_ep : (ep != ep) = false := by simp
  go_enter Try.func72, Try.ntmps72
  go_wp2_with fail
  refine (eqByteS_any A n c l A' n' c' l _ (((hr.alloc (Nat.le_refl _) _).alloc (by simp) _).more (by simp; omega)) (((hr'.alloc (Nat.le_refl _) _).alloc (by simp) _).more (by simp; omega)) hn hn').mono ?_
  rintro e w1 ⟨rfl, hb1⟩
  rw [eqL_self]
  go_wp2
  go_ret
  exact ⟨rfl, ((((Below.refl w.heap.size w).alloc (Nat.le_refl _) _).alloc (by simp) _).trans (hb1.mono (by simp; omega)))⟩
set_option maxHeartbeats 1000000 in
set_option maxRecDepth 100000 in
theorem eqSectorS_same (A : Option Addr) (n c : Nat) (es : List Sc) (A' : Option Addr) (n' c' : Nat) (es' : List Sc) (w : World) (hr : RdSector w w.heap.size A n es) (hr' : RdSector w w.heap.size A' n' es') (hd : es.map Sc.d = es'.map Sc.d) (hn : n ≤ 1099511627776) (hns : ∀ x ∈ es, x.n ≤ 1099511627776) (hns' : ∀ x ∈ es', x.n ≤ 1099511627776) :
    Calls Try.prog 45 #[.slice A n c, .slice A' n' c'] w fun e w' => e = .returned (.bool true) ∧ Below w.heap.size w w' := by
  have hl := hr.len Sc.hf (by omega)
  have hl' := hr'.len Sc.hf (by omega)
  have hln := congrArg List.length hd
  simp only [List.length_map] at hln
  obtain rfl : n' = n := by omega
  have hnn : ((n' : Int) != (n' : Int)) = false := by simp
  have HNS := Lib.hid hns
  have HNS' := Lib.hid hns'
  have HD := Lib.hid hd
  clear hl hl' hln hns hns' hd
  go_enter Try.func45, Try.ntmps45
  go_wp2
  go_loopw [5] (fun vi wr => ∃ k : Nat, k ≤ n' ∧ vi = .int .i64 (k : Int) ∧ Below w.heap.size w wr) (fun vi _ => n' - (intOf vi).toNat)
  case atStart => exact ⟨0, Nat.zero_le _, rfl, Below.refl _ _⟩
  case round =>
    obtain ⟨k, hk, rfl, hb⟩ := hrel
    by_cases hlt : k < n'
    · have hkk := hlt
      obtain ⟨b, off, ⟨s_seq, s_ep, Ax, nx, cx, lx⟩, rfl, hbB, hx, hcell, hi, hcap⟩ := (hr.below hb (Nat.le_refl _)).elem Sc.hf (by omega) hlt
      have cc0 : wr.cell? ⟨b, off + k * 3, none⟩ = some (.int .i64 s_seq) := by have := hcell 0 _ rfl; simpa [Nat.mul_one, Nat.add_assoc] using this
      have cc1 : wr.cell? ⟨b, off + k * 3 + 1, none⟩ = some (.int .i64 s_ep) := by have := hcell 1 _ rfl; simpa [Nat.mul_one, Nat.add_assoc] using this
      have cc2 : wr.cell? ⟨b, off + k * 3 + 2, none⟩ = some (.slice Ax nx cx) := by have := hcell 2 _ rfl; simpa [Nat.mul_one, Nat.add_assoc] using this
      have HX := Lib.hid hx
      clear hcell hx
      obtain ⟨b', off', ⟨s_seq', s_ep', A'x, n'x, c'x, l'x⟩, rfl, hbB', hx', hcell', hi', hcap'⟩ := (hr'.below hb (Nat.le_refl _)).elem Sc.hf (by omega) hlt
      have cc0' : wr.cell? ⟨b', off' + k * 3, none⟩ = some (.int .i64 s_seq') := by have := hcell' 0 _ rfl; simpa [Nat.mul_one, Nat.add_assoc] using this
      have cc1' : wr.cell? ⟨b', off' + k * 3 + 1, none⟩ = some (.int .i64 s_ep') := by have := hcell' 1 _ rfl; simpa [Nat.mul_one, Nat.add_assoc] using this
      have cc2' : wr.cell? ⟨b', off' + k * 3 + 2, none⟩ = some (.slice A'x n'x c'x) := by have := hcell' 2 _ rfl; simpa [Nat.mul_one, Nat.add_assoc] using this
      have HX' := Lib.hid hx'
      clear hcell' hx'
      have hdd := congrArg (fun l => l[k]?) HD.out
      simp only [List.getElem?_map, HX.out, HX'.out, Option.map_some, Option.some.injEq, Sc.d] at hdd
      obtain rfl : s_seq = s_seq' := (congrArg (·.1) hdd)
      obtain rfl : s_ep = s_ep' := (congrArg (·.2.1) hdd)
      obtain rfl : lx = l'x := (congrArg (·.2.2) hdd)
      (try clear hdd)
      have hnx : nx ≤ 1099511627776 := HNS.out _ (List.mem_of_getElem? HX.out)
      have hnx' : n'x ≤ 1099511627776 := HNS'.out _ (List.mem_of_getElem? HX'.out)
      have hz := hb.size
      have i0 : (0 : Int) ≤ (k : Int) := by omega
      have i1 : (k : Int) < (n' : Int) := by omega
      have hi1 := hi.more hz
      have hi1' := hi'.more hz
      go_wp2
      go_region_held3 (fun w' => w'.cell? ⟨b, off + k * 3, none⟩ = some (.int .i64 s_seq) ∧ w'.cell? ⟨b, off + k * 3 + 1, none⟩ = some (.int .i64 s_ep) ∧ w'.cell? ⟨b, off + k * 3 + 2, none⟩ = some (.slice Ax nx cx) ∧ w'.cell? ⟨b', off' + k * 3, none⟩ = some (.int .i64 s_seq) ∧ w'.cell? ⟨b', off' + k * 3 + 1, none⟩ = some (.int .i64 s_ep) ∧ w'.cell? ⟨b', off' + k * 3 + 2, none⟩ = some (.slice A'x n'x c'x)) ((go_split_ands; (repeat' apply And.intro) <;> (first | assumption | exact (Below.cell (by assumption) (by first | omega | (simp; done) | (simp; omega))).trans (by assumption)))) (first | (go_at_call 72; refine (eqSector_same s_seq s_ep Ax nx cx A'x n'x c'x lx _ (hi1.drew) (hi1'.drew) hnx hnx').mono ?_; rintro e w2 ⟨rfl, hb2⟩))
      go_wp2
      go_roundw
      case rel => exact ⟨k + 1, by omega, by go_num, hb.drew.trans (hb2.mono hz)⟩
      case measure => simp [intOf]; omega
    · have hge : k = n' := by omega
      subst hge
      go_wp2
      go_ret
      exact ⟨rfl, hb⟩
/-- The marks from k on of structs whose slices have these lengths. -/
def marksSector (k : Nat) (ns : List Nat) : List (Int × Int × List UInt8) := marksR (fun k n => ((k : Int), ((k + 1 : Nat) : Int), marksB (k + 2) n)) 2 1 k ns
theorem marksSector_get {k j n : Nat} {ns : List Nat} (h : ns[j]? = some n) : (marksSector k ns)[j]? = some (((((k + ofs 2 1 ns j) : Nat) : Int), (((k + ofs 2 1 ns j) + 1 : Nat) : Int), marksB ((k + ofs 2 1 ns j) + 2) n)) := marksR_get h
theorem marksSector_len {k : Nat} {ns : List Nat} : (marksSector k ns).length = ns.length := marksR_len
/-- What markSectorS leaves. -/
def MarkedSectorS (A : Option Addr) (n c k lo hi : Nat) (ns : List Nat) (w : World) (e : Ending) (w' : World) : Prop :=
  ∃ es : List Sc, e = .returned (.int .i64 ((k + totS 2 1 ns : Nat) : Int)) ∧ es.map Sc.d = marksSector k ns ∧ es.map Sc.n = ns ∧ OwnSector w' lo hi A n c es ∧ Eff lo hi w w'
set_option maxHeartbeats 1000000 in
set_option maxRecDepth 100000 in
theorem markSectorS_any (A : Option Addr) (n c : Nat) (es : List Sc) (ns : List Nat) (lo hi k0 : Nat) (w : World) (ho : OwnSector w lo hi A n c es) (hns : es.map Sc.n = ns) (hk0 : k0 + totS 2 1 ns ≤ 4611686018427387904) (hn : n ≤ 1099511627776) (hnb : ∀ m ∈ ns, m ≤ 1099511627776) :
    Calls Try.prog 46 #[.slice A n c, .int .i64 (k0 : Int)] w (MarkedSectorS A n c k0 lo hi ns w) := by
  have hel := ho.len Sc.hf (by omega)
  have hlohi := ho.lohi
  have HEL := Lib.hid hel
  have HNB := Lib.hid hnb
  have HNS := Lib.hid hns
  clear hel hnb hns
  go_enter Try.func46, Try.ntmps46
  go_wp2
  go_loopw [1, 5] (fun vk vi wr => ∃ (k kv : Nat) (es' : List Sc), k ≤ n ∧ vk = .int .i64 (kv : Int) ∧ vi = .int .i64 (k : Int) ∧ Hid (kv = k0 + ofs 2 1 ns k) ∧ OwnSector wr lo hi A n c es' ∧ Hid (es'.map Sc.n = ns) ∧ Hid (∀ j, j < k → (es'.map Sc.d)[j]? = (marksSector k0 ns)[j]?) ∧ Eff lo hi w wr) (fun _ vi _ => n - (intOf vi).toNat)
  case atStart => exact ⟨0, k0, es, Nat.zero_le _, rfl, rfl, Lib.hid (by rw [ofs_zero]; rfl), ho, HNS, Lib.hid (fun j hj => absurd hj (by omega)), Eff.refl _ _ _⟩
  case round =>
    obtain ⟨k, kv, es', hk, rfl, rfl, HK, hF, HNS', HD, he⟩ := hrel
    by_cases hlt : k < n
    · obtain ⟨gb, ⟨s_seq, s_ep, Ax, nx, cx, lx⟩, rfl, hg1, hg2, hx, hcell, hfr, hi⟩ := hF.outs Sc.hf (by omega) hlt
      have cc0 : wr.cell? ⟨gb, k * 3, none⟩ = some (.int .i64 s_seq) := by have := hcell 0 _ rfl; simpa [Nat.mul_one, Nat.add_assoc] using this
      have ff0 := hfr (k * 3)
      have cc1 : wr.cell? ⟨gb, k * 3 + 1, none⟩ = some (.int .i64 s_ep) := by have := hcell 1 _ rfl; simpa [Nat.mul_one, Nat.add_assoc] using this
      have ff1 := hfr (k * 3 + 1)
      have cc2 : wr.cell? ⟨gb, k * 3 + 2, none⟩ = some (.slice Ax nx cx) := by have := hcell 2 _ rfl; simpa [Nat.mul_one, Nat.add_assoc] using this
      have ff2 := hfr (k * 3 + 2)
      have HX := Lib.hid hx
      clear hcell hfr hx
      have HN := Lib.hid (show ns[k]? = some nx by rw [← HNS'.out, List.getElem?_map, HX.out]; rfl)
      have hnx : nx ≤ 1099511627776 := HNB.out _ (List.mem_of_getElem? HN.out)
      have HS := Lib.hid (ofs_succ (sc := 2) (s := 1) HN.out)
      have hkv : kv + 2 + nx * 1 ≤ 4611686018427387904 := by have := HS.out; have := HK.out; have := ofs_le (sc := 2) (s := 1) (ns := ns) (j := k + 1); omega
      obtain ⟨ta, tb, hti, hta, htab, htb, htt⟩ := hi.tight hlohi
      have HTT := Lib.hid htt
      clear htt
      have hsep : ¬ (ta ≤ gb ∧ gb < tb) := fun h => hF.inn.out _ (List.mem_of_getElem? HX.out) gb (HTT.out gb h.1 h.2) rfl
      go_wp2_with fail
      have E1 : Eff gb (gb + 1) wr ((wr.setCell ⟨gb, k * 3, none⟩ (.int .i64 (kv : Int))).setCell ⟨gb, k * 3 + 1, none⟩ (.int .i64 ((kv : Int) + 1))) := ((((Eff.refl _ _ _).setCell (by simp only; omega) (by simp only; omega) _)).setCell (by simp only; omega) (by simp only; omega) _)
      have hti1 := Own.keep hti E1 (by omega)
      refine (markByteS_z Ax nx cx lx ta tb (kv + 2) _ hti1 (by omega) hnx _ (by simp; omega)).mono ?_
      rintro e w2 ⟨rfl, h1, h2⟩
      go_wp2
      go_roundw
      case rel =>
        have g0 : (es'.flatMap Sc.f).set (k * 3) (.int .i64 (kv : Int)) = ((es').set k (⟨(kv : Int), s_ep, Ax, nx, cx, lx⟩ : Sc)).flatMap Sc.f := flat_setcell Sc.hf (es := es') (i := k) (j := 0) (x := (⟨s_seq, s_ep, Ax, nx, cx, lx⟩ : Sc)) (y := (⟨(kv : Int), s_ep, Ax, nx, cx, lx⟩ : Sc)) (u := .int .i64 (kv : Int)) HX.out (by omega) rfl
        have g1 : ((es'.set k (⟨(kv : Int), s_ep, Ax, nx, cx, lx⟩ : Sc)).flatMap Sc.f).set (k * 3 + 1) (.int .i64 ((kv + 1 : Nat) : Int)) = (((es'.set k (⟨(kv : Int), s_ep, Ax, nx, cx, lx⟩ : Sc))).set k (⟨(kv : Int), ((kv + 1 : Nat) : Int), Ax, nx, cx, marksB (kv + 2) nx⟩ : Sc)).flatMap Sc.f := flat_setcell Sc.hf (es := (es'.set k (⟨(kv : Int), s_ep, Ax, nx, cx, lx⟩ : Sc))) (i := k) (j := 1) (x := (⟨(kv : Int), s_ep, Ax, nx, cx, lx⟩ : Sc)) (y := (⟨(kv : Int), ((kv + 1 : Nat) : Int), Ax, nx, cx, marksB (kv + 2) nx⟩ : Sc)) (u := .int .i64 ((kv + 1 : Nat) : Int)) (by rw [List.getElem?_set_self (by have := (List.getElem?_eq_some_iff.1 HX.out).1; exact this)]) (by omega) rfl
        rw [List.set_set] at g1
        refine ⟨k + 1, kv + 2 + nx * 1, es'.set k ⟨(kv : Int), ((kv + 1 : Nat) : Int), Ax, nx, cx, marksB (kv + 2) nx⟩, by omega, by go_num, by go_num, Lib.hid (by rw [HS.out, HK.out]; omega), ?_, Lib.hid ?_, Lib.hid ?_, he.trans ((E1.wide (by omega) (by omega)).trans (h2.wide (by omega) (by omega)))⟩
        · refine hF.mark HX.out rfl hta htb HTT.out ?_ E1 (fun q h1 h2 => by show some gb = some q; congr 1; omega) h2 h1
          have hst := (Own.stored (Own.stored hF.row (k * 3) (.int .i64 (kv : Int))).1 (k * 3 + 1) (.int .i64 ((kv : Int) + 1))).1
          rw [g0, show (.int .i64 ((kv : Int) + 1)) = Value.int .i64 ((kv + 1 : Nat) : Int) from rfl, g1] at hst
          exact hst
        · rw [List.map_set, HNS'.out]
          apply List.ext_getElem?
          intro j
          rw [List.getElem?_set]
          by_cases hj : k = j
          · subst hj; rw [if_pos rfl, if_pos (List.getElem?_eq_some_iff.1 HN.out).1, HN.out]
          · rw [if_neg hj]
        · intro j hj
          rw [List.map_set, List.getElem?_set]
          by_cases hjk : k = j
          · subst hjk
            rw [if_pos rfl, if_pos (by rw [List.length_map]; exact (List.getElem?_eq_some_iff.1 HX.out).1), marksSector_get HN.out]
            have hk1 := HK.out
            subst hk1
            rfl
          · rw [if_neg hjk]
            exact HD.out j (by omega)
      case measure => simp [intOf]; omega
    · have hge : k = n := by omega
      subst hge
      go_wp2
      go_ret
      have hle : ns.length = k := by rw [← HNS.out, List.length_map, HEL.out]
      refine ⟨es', ret_intR (by rw [HK.out]; unfold totS; rw [hle]), ?_, HNS'.out, hF, he⟩
      apply List.ext_getElem?
      intro j
      by_cases hj : j < k
      · exact HD.out j hj
      · rw [List.getElem?_eq_none (by rw [List.length_map, hF.len Sc.hf (by omega)]; omega), List.getElem?_eq_none (by rw [marksSector_len, hle]; omega)]
set_option maxHeartbeats 1000000 in
set_option maxRecDepth 100000 in
theorem heldSectorS_yes (A : Option Addr) (n c : Nat) (es : List Sc) (ns : List Nat) (k0 : Nat) (w : World) (hr : RdSector w w.heap.size A n es) (hd : es.map Sc.d = marksSector k0 ns) (hns : es.map Sc.n = ns) (hk0 : k0 + totS 2 1 ns ≤ 4611686018427387904) (hn : n ≤ 1099511627776) (hnb : ∀ m ∈ ns, m ≤ 1099511627776) :
    Calls Try.prog 47 #[.slice A n c, .int .i64 (k0 : Int)] w fun e w' => e = .returned (.int .i64 ((k0 + totS 2 1 ns : Nat) : Int)) ∧ Below w.heap.size w w' := by
  have hel := hr.len Sc.hf (by omega)
  have HEL := Lib.hid hel
  have HNB := Lib.hid hnb
  have HNS := Lib.hid hns
  have HD := Lib.hid hd
  clear hel hnb hns hd
  go_enter Try.func47, Try.ntmps47
  go_wp2
  go_loopw [1, 5] (fun vk vi wr => ∃ (k kv : Nat), k ≤ n ∧ vk = .int .i64 (kv : Int) ∧ vi = .int .i64 (k : Int) ∧ Hid (kv = k0 + ofs 2 1 ns k) ∧ Below w.heap.size w wr) (fun _ vi _ => n - (intOf vi).toNat)
  case atStart => exact ⟨0, k0, Nat.zero_le _, rfl, rfl, Lib.hid (by rw [ofs_zero]; rfl), Below.refl _ _⟩
  case round =>
    obtain ⟨k, kv, hk, rfl, rfl, HK, hb⟩ := hrel
    by_cases hlt : k < n
    · have hkk := hlt
      obtain ⟨b, off, ⟨s_seq, s_ep, Ax, nx, cx, lx⟩, rfl, hbB, hx, hcell, hi, hcap⟩ := (hr.below hb (Nat.le_refl _)).elem Sc.hf (by omega) hlt
      have cc0 : wr.cell? ⟨b, off + k * 3, none⟩ = some (.int .i64 s_seq) := by have := hcell 0 _ rfl; simpa [Nat.mul_one, Nat.add_assoc] using this
      have cc1 : wr.cell? ⟨b, off + k * 3 + 1, none⟩ = some (.int .i64 s_ep) := by have := hcell 1 _ rfl; simpa [Nat.mul_one, Nat.add_assoc] using this
      have cc2 : wr.cell? ⟨b, off + k * 3 + 2, none⟩ = some (.slice Ax nx cx) := by have := hcell 2 _ rfl; simpa [Nat.mul_one, Nat.add_assoc] using this
      have HX := Lib.hid hx
      clear hcell hx
      have HN := Lib.hid (show ns[k]? = some nx by rw [← HNS.out, List.getElem?_map, HX.out]; rfl)
      have hnx : nx ≤ 1099511627776 := HNB.out _ (List.mem_of_getElem? HN.out)
      have HS := Lib.hid (ofs_succ (sc := 2) (s := 1) HN.out)
      have hkv : kv + 2 + nx * 1 ≤ 4611686018427387904 := by have := HS.out; have := HK.out; have := ofs_le (sc := 2) (s := 1) (ns := ns) (j := k + 1); omega
      have hdd := congrArg (fun l => l[k]?) HD.out
      simp only [marksSector_get HN.out] at hdd
      rw [List.getElem?_map, HX.out] at hdd
      replace hdd := Option.some.inj hdd
      simp only [Sc.d] at hdd
      have m0 : s_seq = (kv : Int) := (congrArg (·.1) hdd).trans (by have h := HK.out; subst h; first | rfl | (simp; done) | (simp; omega))
      have m1 : s_ep = ((kv : Int) + 1) := (congrArg (·.2.1) hdd).trans (by have h := HK.out; subst h; first | rfl | (simp; done) | (simp; omega))
      obtain rfl : lx = marksB (kv + 2) nx := ((congrArg (·.2.2) hdd)).trans (by have h := HK.out; subst h; rfl)
      (try clear hdd)
      subst m0
      have n0 : ((kv : Int) != (kv : Int)) = false := by simp
      subst m1
      have n1 : (((kv : Int) + 1) != ((kv : Int) + 1)) = false := by simp
      have hz := hb.size
      go_wp2_with fail
      refine (heldByteS_z Ax nx cx (kv + 2) wr (hi.more hz) (by omega) hnx _ (by simp; omega)).mono ?_
      rintro e w2 ⟨rfl, hb2⟩
      go_wp2
      go_roundw
      case rel => exact ⟨k + 1, kv + 2 + nx * 1, by omega, by go_num, by go_num, Lib.hid (by rw [HS.out, HK.out]; omega), hb.trans (hb2.mono hz)⟩
      case measure => simp [intOf]; omega
    · have hge : k = n := by omega
      subst hge
      go_wp2
      go_ret
      have hle : ns.length = k := by rw [← HNS.out, List.length_map, HEL.out]
      exact ⟨ret_intR (by rw [HK.out]; unfold totS; rw [hle]), hb⟩
end Go.Proofs.Ytblenfhacaecmaa
