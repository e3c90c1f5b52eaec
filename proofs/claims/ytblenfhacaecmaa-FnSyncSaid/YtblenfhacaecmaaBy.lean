/- Slices of bytes of the call's own: toByteS, eqByteS, markByteS, heldByteS, szByteS, copyBytes. -/
import Derived.Test.YtblenfhacaecmaaOwn
import Derived.Deep.QuietTactic
import Derived.BigQuiet
namespace Go.Proofs.Ytblenfhacaecmaa
open Go.RowKit

theorem info_u8 : (Try.prog.info? 5).map (fun i => (i.zero, i.size, i.bytes)) = some (some (.int .u8 0), 1, 1) := by kernel_rfl

/-- A slice of bytes of the call's own. -/
def OwnB (w : World) (lo hi : Nat) (A : Option Addr) (n c : Nat) (l : List UInt8) : Prop := Own 5 1 w lo hi A n c (Lib.byteCells l)
theorem OwnB.len {w : World} {lo hi : Nat} {A : Option Addr} {n c : Nat} {l : List UInt8} (h : OwnB w lo hi A n c l) : l.length = n := by have := Own.len h; simpa [Lib.byteCells] using this

theorem OwnB.keep {w w' : World} {lo hi lo' hi' : Nat} {A : Option Addr} {n c : Nat} {l : List UInt8} (h : OwnB w lo hi A n c l) (he : Eff lo' hi' w w') (hd : hi ≤ lo' ∨ hi' ≤ lo ∨ hi' ≤ lo') : OwnB w' lo hi A n c l := Own.keep h he hd
theorem OwnB.rd {w : World} {lo hi B : Nat} {A : Option Addr} {n c : Nat} {l : List UInt8} (h : OwnB w lo hi A n c l) (hB : hi ≤ B) : Rd w B 1 A n (Lib.byteCells l) := Own.rd h hB
theorem OwnB.up {w : World} {lo hi : Nat} {A : Option Addr} {n c : Nat} {l : List UInt8} (h : OwnB w lo hi A n c l) : OwnB w lo w.heap.size A n c l := Own.up h
theorem OwnB.row_le {w : World} {lo hi : Nat} {A : Option Addr} {n c : Nat} {l : List UInt8} (h : OwnB w lo hi A n c l) : n ≤ c := (Own.caps h).1

/-- What a function that makes a slice of bytes leaves. -/
def MadeB (n : Nat) (l : List UInt8) (w : World) (e : Ending) (w' : World) : Prop :=
  ∃ A c, e = .returned (.slice A n c) ∧ OwnB w' w.heap.size w'.heap.size A n c l ∧ Below w.heap.size w w'

theorem len_of_rd {w : World} {B n : Nat} {A : Option Addr} {l : List UInt8} (h : Rd w B 1 A n (Lib.byteCells l)) : l.length = n := by have := h.1; simpa [Lib.byteCells] using this

set_option maxHeartbeats 400000 in
theorem toByteS_any (A : Option Addr) (n c : Nat) (l : List UInt8) (w : World) (hr : Rd w w.heap.size 1 A n (Lib.byteCells l)) (hn : n ≤ 1099511627776) :
    Calls Try.prog 21 #[.slice A n c] w (MadeB n l w) := by
  obtain ⟨i0, hi0, hz0, hz1, hz2⟩ := info_parts info_u8
  have hl := len_of_rd hr
  go_enter Try.func21, Try.ntmps21
  go_wp2_with (at_make; refine wpList_make_full _ rfl _ _ 27 rfl w.heap.size 5 i0 (.int .u8 0) 1 Try.underlying27 hi0 hz0 hz1 _ _ _ _ n rfl rfl rfl rfl (by rw [hz2]; omega) (by unfold maxLen; omega) (Nat.le_refl _) ?_; intro w1 hown1 hg1)
  have hb1 : Below w.heap.size w w1 := (Below.refl _ _).grown hg1 (Nat.le_refl _) (by simp)
  have hs1 : w.heap.size < w1.heap.size := (hown1.lt w.heap.size rfl).2
  clear hg1
  go_loopw [4] (fun vi wr => ∃ (k : Nat) (xs : List Value), k ≤ n ∧ vi = .int .i64 (k : Int) ∧ wr.ownsRow w.heap.size 5 1 (.slice (some ⟨w.heap.size, 0, none⟩) n n) n xs ∧ (∀ j, j < k → xs[j]? = (Lib.byteCells l)[j]?) ∧ Below w.heap.size w wr) (fun vi _ => n - (intOf vi).toNat)
  case atStart => exact ⟨0, _, Nat.zero_le _, rfl, hown1, fun j hj => absurd hj (by omega), hb1⟩
  case round =>
    obtain ⟨k, xs, hk, rfl, hown, hx, hb⟩ := hrel
    have HX := Lib.hid hx
    clear hx
    by_cases hlt : k < n
    · obtain ⟨b, off, hl', rfl, hbB, hc⟩ := hr.byte hlt
      have hc' := (hb.cell (p := ⟨b, off + k, none⟩) hbB).trans hc
      have hd : wr.cell? ⟨w.heap.size, k, none⟩ = some (xs[k]'(by have := hown.1; omega)) := by
        rw [hown.cellAt k (by omega), List.getElem?_eq_getElem]
      have hf := hown.frozenAt k
      obtain ⟨z, hz⟩ : ∃ z : Int, (l[k].toNat : Int) = z := ⟨_, rfl⟩
      rw [hz] at hc'
      have HZ := Lib.hid hz
      clear hz hc
      generalize xs[k]'(by have := hown.1; omega) = u0 at hd
      go_wp2
      go_roundw
      case rel =>
        refine ⟨k + 1, xs.set k (.int .u8 z), by omega, by go_num, (hown.stored k _).1, fun j hj => ?_, hb.setCell (Nat.le_refl _) _⟩
        by_cases hjk : j = k
        · subst hjk
          rw [List.getElem?_set_self (by have := hown.1; omega), byteCells_get l j (by omega), HZ.out]
        · rw [List.getElem?_set_ne (by omega)]
          exact HX.out j (by omega)
      case measure => simp [intOf]; omega
    · have hge : k = n := by omega
      subst hge
      go_wp2
      go_ret
      have hxs : xs = Lib.byteCells l := by
        apply List.ext_getElem?
        intro j
        by_cases hj : j < k
        · exact HX.out j hj
        · rw [List.getElem?_eq_none (by have := hown.1; omega), List.getElem?_eq_none (by simp [Lib.byteCells]; omega)]
      subst hxs
      exact ⟨_, _, rfl, ⟨hown, fun j hj => (hown.lt j hj).2, Nat.le_refl _⟩, hb⟩

theorem byteCells_one' (l : List UInt8) : ∀ v ∈ Lib.byteCells l, v.oneCell' = true := Lib.byteCells_one l

set_option maxHeartbeats 400000 in
theorem copyBytes_any (A : Option Addr) (n c : Nat) (l : List UInt8) (w : World) (hr : Rd w w.heap.size 1 A n (Lib.byteCells l)) (hn : n ≤ 1099511627776) :
    Calls Try.prog 61 #[.slice A n c] w (MadeB n l w) := by
  obtain ⟨i0, hi0, hz0, hz1, hz2⟩ := info_parts info_u8
  go_enter Try.func61, Try.ntmps61
  go_wp2_with (at_builtin; refine wpList_app _ rfl _ _ 27 rfl 5 i0 (.int .u8 0) 1 1 Try.underlying27 hi0 hz0 hz1 hz2 rfl (by omega) rfl (Own.nil _ _ _ w.heap.size w.heap.size (Nat.le_refl _)) c rfl hr (byteCells_one' l) (by unfold maxLen; omega) (by omega) (Nat.le_refl _) ?_; intro A2 c2 w1 hO hE hK)
  go_ret
  refine ⟨A2, c2, by simp, ?_, hE.below (Nat.le_refl _) (.inl (Nat.le_refl _))⟩
  unfold OwnB
  simpa using hO

theorem below_dr {B : Nat} {a w : World} (h : Below B a w) (n : Nat) : Below B a (w.drewN n) := ⟨h.os, h.tape, h.output, h.size, h.block⟩
theorem take_eq_succ {l l' : List UInt8} {k : Nat} (h1 : k < l.length) (h2 : k < l'.length) (h : l.take k = l'.take k) (hk : l[k] = l'[k]) : l.take (k + 1) = l'.take (k + 1) := by
  rw [List.take_succ_eq_append_getElem h1, List.take_succ_eq_append_getElem h2, h, hk]

/-- Are two lists of bytes one? -/
def eqL (l l' : List UInt8) : Bool := decide (l = l')
theorem eqL_true {l l' : List UInt8} (h : l = l') : eqL l l' = true := by simp [eqL, h]
theorem eqL_false {l l' : List UInt8} (h : l ≠ l') : eqL l l' = false := by simp [eqL, h]
theorem eqL_self (l : List UInt8) : eqL l l = true := by simp [eqL]

set_option maxHeartbeats 400000 in
theorem eqByteS_any (A : Option Addr) (n c : Nat) (l : List UInt8) (A' : Option Addr) (n' c' : Nat) (l' : List UInt8) (w : World) (hr : Rd w w.heap.size 1 A n (Lib.byteCells l)) (hr' : Rd w w.heap.size 1 A' n' (Lib.byteCells l')) (hn : n ≤ 1099511627776) (hn' : n' ≤ 1099511627776) :
    Calls Try.prog 15 #[.slice A n c, .slice A' n' c'] w fun e w' => e = .returned (.bool (eqL l l')) ∧ Below w.heap.size w w' := by
  have hl := len_of_rd hr
  have hl' := len_of_rd hr'
  by_cases hne : n = n'
  · subst hne
    obtain ⟨r, hR⟩ : ∃ r, eqL l l' = r := ⟨_, rfl⟩
    rw [hR]
    have HR := Lib.hid hR
    have HL := Lib.hid hl
    have HL' := Lib.hid hl'
    clear hR hl hl'
    go_enter Try.func15, Try.ntmps15
    go_wp2
    go_loopw [5] (fun vi wr => ∃ k : Nat, k ≤ n ∧ vi = .int .i64 (k : Int) ∧ Hid (l.take k = l'.take k) ∧ Below w.heap.size w wr) (fun vi _ => n - (intOf vi).toNat)
    case atStart => exact ⟨0, Nat.zero_le _, rfl, Lib.hid (by simp), Below.refl _ _⟩
    case round =>
      obtain ⟨k, hk, rfl, ht, hb⟩ := hrel
      by_cases hlt : k < n
      · obtain ⟨b, off, hl1, rfl, hbB, hc⟩ := (hr.below hb (Nat.le_refl _)).byte hlt
        obtain ⟨b', off', hl2, rfl, hbB', hc'⟩ := (hr'.below hb (Nat.le_refl _)).byte hlt
        obtain ⟨z, hz⟩ : ∃ z : Int, (l[k].toNat : Int) = z := ⟨_, rfl⟩
        obtain ⟨z', hz'⟩ : ∃ z' : Int, (l'[k].toNat : Int) = z' := ⟨_, rfl⟩
        rw [hz] at hc
        rw [hz'] at hc'
        have HZ := Lib.hid hz
        have HZ' := Lib.hid hz'
        clear hz hz'
        by_cases hzz : z = z'
        · subst hzz
          have hbyte : l[k] = l'[k] := UInt8.toNat_inj.1 (by have := HZ.out; have := HZ'.out; omega)
          have HT := Lib.hid (take_eq_succ hl1 hl2 ht.out hbyte)
          clear hbyte
          go_wp2
          go_quiet (fail)
          go_wp2
          go_roundw
          case rel => exact ⟨k + 1, by omega, by go_num, HT, below_dr hb _⟩
          case measure => simp [intOf]; omega
        · have hzb : (z != z') = true := by simp [hzz]
          have hno : l ≠ l' := fun e => by
            subst e
            exact hzz (by rw [← HZ.out, ← HZ'.out])
          have HF := Lib.hid (show false = r by rw [← HR.out, eqL_false hno])
          clear hno hzz
          go_wp2
          go_quiet (fail)
          go_wp2
          go_ret
          exact ⟨by rw [← HF.out]; rfl, below_dr hb _⟩
      · have hge : k = n := by omega
        subst hge
        have hyes : l = l' := by
          have := ht.out
          rwa [List.take_of_length_le (by rw [HL.out]; exact Nat.le_refl _), List.take_of_length_le (by rw [HL'.out]; exact Nat.le_refl _)] at this
        have HF := Lib.hid (show true = r by rw [← HR.out, eqL_true hyes])
        clear hyes hlt
        go_wp2
        go_ret
        exact ⟨by rw [← HF.out]; rfl, hb⟩
  · have hno : l ≠ l' := fun e => by subst e; omega
    rw [eqL_false hno]
    have hnb : ((n : Int) != (n' : Int)) = true := by simp; omega
    clear hno hne
    go_enter Try.func15, Try.ntmps15
    go_wp2
    go_ret
    exact ⟨rfl, Below.refl _ _⟩

/-- The marks from k on. -/
def marksB (k n : Nat) : List UInt8 := (List.range n).map fun i => UInt8.ofNat (k + i)
theorem marksB_len (k n : Nat) : (marksB k n).length = n := by simp [marksB]
theorem marksB_get (k n i : Nat) (h : i < n) : (Lib.byteCells (marksB k n))[i]? = some (.int .u8 (((k + i) % 256 : Nat) : Int)) := by
  simp [Lib.byteCells, marksB, h, UInt8.toNat_ofNat']
theorem u8wrap (k : Nat) : IntKind.u8.wrap (k : Int) = ((k % 256 : Nat) : Int) := by rw [IntKind.wrap_u8']; omega

/-- What markByteS leaves. -/
def MarkedB (A : Option Addr) (n c k lo hi : Nat) (w : World) (e : Ending) (w' : World) : Prop :=
  e = .returned (.int .i64 ((k + n : Nat) : Int)) ∧ OwnB w' lo hi A n c (marksB k n) ∧ Eff lo hi w w'

set_option maxHeartbeats 400000 in
theorem markByteS_any (A : Option Addr) (n c : Nat) (l : List UInt8) (lo hi k0 : Nat) (w : World) (ho : OwnB w lo hi A n c l) (hk0 : k0 ≤ 4611686018427387904) (hn : n ≤ 1099511627776) :
    Calls Try.prog 18 #[.slice A n c, .int .i64 (k0 : Int)] w (MarkedB A n c k0 lo hi w) := by
  have hl := ho.len
  go_enter Try.func18, Try.ntmps18
  go_wp2
  go_loopw [1, 5] (fun vk vi wr => ∃ (k : Nat) (xs : List Value), k ≤ n ∧ vk = .int .i64 ((k0 : Int) + (k : Int)) ∧ vi = .int .i64 (k : Int) ∧ Own 5 1 wr lo hi A n c xs ∧ (∀ j, j < k → xs[j]? = (Lib.byteCells (marksB k0 n))[j]?) ∧ Eff lo hi w wr) (fun _ vi _ => n - (intOf vi).toNat)
  case atStart => exact ⟨0, _, Nat.zero_le _, by go_num, rfl, ho, fun j hj => absurd hj (by omega), Eff.refl _ _ _⟩
  case round =>
    obtain ⟨k, xs, hk, rfl, rfl, hown, hx, he⟩ := hrel
    have HX := Lib.hid hx
    clear hx
    by_cases hlt : k < n
    · obtain ⟨g, rfl, hg1, hg2, hcell, hfr⟩ := hown.form (by omega)
      have hd : wr.cell? ⟨g, k, none⟩ = some (xs[k]'(by have := hown.len; omega)) := by
        rw [hcell k (by omega), List.getElem?_eq_getElem]
      have hf := hfr k
      clear hcell hfr
      generalize xs[k]'(by have := hown.len; omega) = u0 at hd
      obtain ⟨z, hz⟩ : ∃ z : Int, IntKind.u8.wrap ((k0 : Int) + (k : Int)) = z := ⟨_, rfl⟩
      have HZ := Lib.hid hz
      go_wp2
      go_roundw
      case rel =>
        obtain ⟨o1, o2⟩ := hown.stored k (.int .u8 z)
        refine ⟨k + 1, xs.set k (.int .u8 z), by omega, by go_num, by go_num, o1, fun j hj => ?_, he.trans o2⟩
        by_cases hjk : j = k
        · subst hjk
          have e1 : z = (((k0 + j) % 256 : Nat) : Int) := by rw [← HZ.out, ← Int.natCast_add, u8wrap]
          rw [List.getElem?_set_self (by have := hown.len; omega), marksB_get k0 n j (by omega), e1]
        · rw [List.getElem?_set_ne (by omega)]
          exact HX.out j (by omega)
      case measure => simp [intOf]; omega
    · have hge : k = n := by omega
      subst hge
      go_wp2
      go_ret
      have hxs : xs = Lib.byteCells (marksB k0 k) := by
        apply List.ext_getElem?
        intro j
        by_cases hj : j < k
        · exact HX.out j hj
        · rw [List.getElem?_eq_none (by have := hown.len; omega), List.getElem?_eq_none (by simp [Lib.byteCells, marksB]; omega)]
      subst hxs
      exact ⟨by simp, hown, he⟩

/-- What heldByteS gives. -/
def heldB (l : List UInt8) (k : Nat) : Int := if l = marksB k l.length then ((k + l.length : Nat) : Int) else -1
theorem heldB_marks (k n : Nat) : heldB (marksB k n) k = ((k + n : Nat) : Int) := by simp [heldB, marksB_len]

set_option maxHeartbeats 400000 in
theorem heldByteS_yes (A : Option Addr) (n c k0 : Nat) (w : World) (hr : Rd w w.heap.size 1 A n (Lib.byteCells (marksB k0 n))) (hk0 : k0 ≤ 4611686018427387904) (hn : n ≤ 1099511627776) :
    Calls Try.prog 19 #[.slice A n c, .int .i64 (k0 : Int)] w fun e w' => e = .returned (.int .i64 ((k0 + n : Nat) : Int)) ∧ Below w.heap.size w w' := by
  go_enter Try.func19, Try.ntmps19
  go_wp2
  go_loop [1, 5] (fun vk vi => ∃ (k : Nat), k ≤ n ∧ vk = .int .i64 ((k0 : Int) + (k : Int)) ∧ vi = .int .i64 (k : Int)) (fun _ vi => n - (intOf vi).toNat)
  case atStart => exact ⟨0, Nat.zero_le _, by go_num, rfl⟩
  case round =>
    obtain ⟨k, hk, rfl, rfl⟩ := hrel
    by_cases hlt : k < n
    · obtain ⟨b, off, hl1, rfl, hbB, hc⟩ := hr.byte hlt
      have e1 : IntKind.u8.wrap ((k0 : Int) + (k : Int)) = ((marksB k0 n)[k].toNat : Int) := by
        rw [← Int.natCast_add, u8wrap]
        simp [marksB, UInt8.toNat_ofNat']
      obtain ⟨z, hz⟩ : ∃ z : Int, ((marksB k0 n)[k].toNat : Int) = z := ⟨_, rfl⟩
      rw [hz] at hc e1
      clear hz
      go_wp2
      go_round
      case rel => exact ⟨k + 1, by omega, by go_num, by go_num⟩
      case measure => simp [intOf]; omega
    · have hge : k = n := by omega
      subst hge
      go_wp2
      go_ret
      exact ⟨by simp, Below.refl _ _⟩
theorem markByteS_1 (A : Option Addr) (n c : Nat) (l : List UInt8) (lo hi : Nat) (w : World) (ho : OwnB w lo hi A n c l) (hn : n ≤ 1099511627776) :
    Calls Try.prog 18 #[.slice A n c, .int .i64 1] w (MarkedB A n c 1 lo hi w) := markByteS_any A n c l lo hi 1 w ho (by omega) hn
theorem heldByteS_1 (A : Option Addr) (n c : Nat) (w : World) (hr : Rd w w.heap.size 1 A n (Lib.byteCells (marksB 1 n))) (hn : n ≤ 1099511627776) :
    Calls Try.prog 19 #[.slice A n c, .int .i64 1] w fun e w' => e = .returned (.int .i64 ((1 + n : Nat) : Int)) ∧ Below w.heap.size w w' := heldByteS_yes A n c 1 w hr (by omega) hn
theorem szByteS_any (A : Option Addr) (n c : Nat) (left : Int) (hn : n ≤ 9223372036854775807) (hl : -1 ≤ left ∧ left ≤ 4611686018427387904) (w : World) :
    Calls Try.prog 85 #[.slice A n c, .int .i64 left] w fun e w' => e = .returned (.int .i64 (if left - (n : Int) < 0 then -1 else left - (n : Int))) ∧ w = w' := by
  obtain ⟨hl1, hl2⟩ := hl
  by_cases h : left - (n : Int) < 0
  · rw [if_pos h]
    go_enter Try.func85, Try.ntmps85
    go_wp2
    go_ret
    exact ⟨rfl, rfl⟩
  · rw [if_neg h]
    have h' : 0 ≤ left - (n : Int) := by omega
    clear h
    go_enter Try.func85, Try.ntmps85
    go_wp2
    go_ret
    exact ⟨rfl, rfl⟩
end Go.Proofs.Ytblenfhacaecmaa
