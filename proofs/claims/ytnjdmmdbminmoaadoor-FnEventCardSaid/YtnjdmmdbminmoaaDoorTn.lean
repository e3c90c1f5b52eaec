/- TextNum, in the program and in the reference: both read the number that has this text. -/
import Derived.Test.YtnjdmmdbminmoaaDoorLib
import Derived.Lib.AtoiErrMem
namespace Go.Proofs.YtnjdmmdbminmoaaDoor
open Go.RowKit
theorem bstr_of (s : ByteArray) : bstr s.data.toList = s := rfl
theorem bstr_list (l : List UInt8) : (bstr l).data.toList = l := by simp [bstr]
/-- What TextNum answers. -/
def RdNum (l : List UInt8) (w : World) (e : Ending) (w' : World) : Prop := e = .returned (.tuple #[.int .i64 ((tNum l).getD 0), .bool (tNum l).isSome]) ∧ Below w.heap.size w w'
theorem rdNum_no {l : List UInt8} {w w' : World} (h : tNum l = none) (hb : Below w.heap.size w w') : RdNum l w (.returned (.tuple #[.int .i64 0, .bool false])) w' := by unfold RdNum; rw [h]; exact ⟨rfl, hb⟩
theorem rdNum_yes {l : List UInt8} {n : Int} {w w' : World} (h : tNum l = some n) (hb : Below w.heap.size w w') : RdNum l w (.returned (.tuple #[.int .i64 n, .bool true])) w' := by unfold RdNum; rw [h]; exact ⟨rfl, hb⟩
theorem cmp_same {x : List UInt8} {s : ByteArray} (h : x = s.data.toList) : (!(bstr x).toList == s.toList) = false := by
  subst h; rw [bstr_of]; simp
theorem cmp_other {x : List UInt8} {s : ByteArray} (h : x ≠ s.data.toList) : (!(bstr x).toList == s.toList) = true := by
  rw [ByteArray.toList_eq, ByteArray.toList_eq, bstr_list]
  simpa using h
theorem atoi_cases (l : List UInt8) : (∃ v, Lib.atoiAll l = .ok v) ∨ ∀ v, Lib.atoiAll l ≠ .ok v := by
  rcases h : Lib.atoiAll l with v | _ | _
  · exact .inl ⟨v, rfl⟩
  · exact .inr (fun v => by intro e; cases e)
  · exact .inr (fun v => by intro e; cases e)
theorem tNum_ok {l : List UInt8} {v : Int} (h : Lib.atoiAll l = .ok v) : tNum l = if nTx v = l then some v else none := by unfold tNum; rw [h]
theorem tNum_fail {l : List UInt8} (h : ∀ v, Lib.atoiAll l ≠ .ok v) : tNum l = none := by
  unfold tNum
  split
  · next v hv => exact absurd hv (h v)
  · rfl
/-- Atoi where no number is read: an error. -/
theorem atoi_fail (s : ByteArray) (hs : s.size ≤ 281474976710656) (h : ∀ v, Lib.atoiAll s.data.toList ≠ .ok v) (w : World) (hE : PErr w) :
    Calls Tryd.prog 54 #[.string s] w fun e w' => ∃ z N, e = .returned (.tuple #[.int .i64 z, .iface 106 (.pointer (some ⟨N, 0, none⟩))]) ∧ Below w.heap.size w w' := by
  obtain ⟨⟨t1, p1, h1⟩, t2, p2, h2⟩ := hE
  rcases hh : Lib.atoiAll s.data.toList with v | _ | _
  · exact absurd hh (h v)
  · refine (Any.strconv_Atoi_syntax Tryd.laysC172 s hs hh _ w h1 (.inr ⟨_, _, rfl⟩)).mono ?_
    rintro e w' ⟨N, rfl, -, -, hb⟩
    exact ⟨_, N, rfl, hb⟩
  · refine (Any.strconv_Atoi_range Tryd.laysC172 s hs hh _ w h2 (.inr ⟨_, _, rfl⟩)).mono ?_
    rintro e w' ⟨N, rfl, -, -, hb⟩
    exact ⟨_, N, rfl, hb⟩
set_option maxRecDepth 100000 in
theorem impl_TextNum (s : ByteArray) (hs : s.size ≤ 1099511627776) (w : World) (hT : PTab w) (hE : PErr w) : Calls Tryd.prog 29 #[.string s] w (RdNum s.data.toList w) := by
  rcases atoi_cases s.data.toList with ⟨v, hv⟩ | hno
  · have ht := tNum_ok hv
    by_cases hn : nTx v = s.data.toList
    · rw [if_pos hn] at ht
      have hc := cmp_same hn
      have HV := Lib.hid hv
      have HTn := Lib.hid ht
      clear hv hn ht hE
      go_enter Tryd.func29, Tryd.ntmps29
      go_wp2_with fail
      refine (Tryd.strconv_Atoi_ok s (by omega) v HV.out w).mono ?_
      rintro e w1 ⟨rfl, hw1⟩
      have hb1 : Below w.heap.size w w1 := by rcases hw1 with rfl | ⟨t, rfl⟩; exact Below.refl _ _; exact Lib.bytesWorld_below _ _ _
      clear hw1
      replace hT := hT.below hb1
      go_wp2_with fail
      refine (impl_NumText v w1 hT).mono ?_
      rintro e w2 ⟨rfl, hb2⟩
      go_wp2_with fail
      refine bodyPost_ret (v := .tuple #[.int .i64 v, .bool true]) (by simp [results, Tryd.results29, go_sem]) rfl ?_
      exact rdNum_yes HTn.out (hb1.trans (hb2.mono hb1.size))
    · rw [if_neg hn] at ht
      have hc := cmp_other hn
      have HV := Lib.hid hv
      have HTn := Lib.hid ht
      clear hv hn ht hE
      go_enter Tryd.func29, Tryd.ntmps29
      go_wp2_with fail
      refine (Tryd.strconv_Atoi_ok s (by omega) v HV.out w).mono ?_
      rintro e w1 ⟨rfl, hw1⟩
      have hb1 : Below w.heap.size w w1 := by rcases hw1 with rfl | ⟨t, rfl⟩; exact Below.refl _ _; exact Lib.bytesWorld_below _ _ _
      clear hw1
      replace hT := hT.below hb1
      go_wp2_with fail
      refine (impl_NumText v w1 hT).mono ?_
      rintro e w2 ⟨rfl, hb2⟩
      go_wp2_with fail
      refine bodyPost_ret (v := .tuple #[.int .i64 0, .bool false]) (by simp [results, Tryd.results29, go_sem]) rfl ?_
      exact rdNum_no HTn.out (hb1.trans (hb2.mono hb1.size))
  · have HTn := Lib.hid (tNum_fail hno)
    have HNO := Lib.hid hno
    clear hno hT
    go_enter Tryd.func29, Tryd.ntmps29
    go_wp2_with fail
    refine (atoi_fail s (by omega) HNO.out w hE).mono ?_
    rintro e w1 ⟨z, N, rfl, hb1⟩
    go_wp2_with fail
    refine bodyPost_ret (v := .tuple #[.int .i64 0, .bool false]) (by simp [results, Tryd.results29, go_sem]) rfl ?_
    exact rdNum_no HTn.out hb1
theorem head_is {s : ByteArray} (h : 0 < s.size) : s.data.toList.head? = some 45 ↔ s[0].toNat = 45 := by
  have e : s.data.toList[0]? = some s[0] := by
    rw [List.getElem?_eq_getElem (by simpa using h)]; rfl
  rw [List.head?_eq_getElem?, e]
  constructor
  · intro h; injection h with h; rw [h]; rfl
  · intro h; congr 1; exact UInt8.toNat_inj.1 h
theorem at_is {s : ByteArray} {k : Nat} (h : k < s.size) : s.data.toList[k]? = some s[k] := by
  rw [List.getElem?_eq_getElem (by simpa using h)]; rfl
set_option maxHeartbeats 2000000 in
set_option maxRecDepth 100000 in
theorem spec_TextNum (s : ByteArray) (hs : s.size ≤ 1099511627776) (w : World) : Calls Tryd.prog 28 #[.string s] w (RdNum s.data.toList w) := by
  have hsl : s.data.toList.length = s.size := by simp
  by_cases h1 : s.size < 1
  · have ht : tNum s.data.toList = none := by rw [List.length_eq_zero_iff.1 (by omega : s.data.toList.length = 0)]; exact tNum_empty
    have HTn := Lib.hid ht
    clear ht hsl
    go_enter Tryd.func28, Tryd.ntmps28
    go_wp2
    refine bodyPost_ret (v := .tuple #[.int .i64 0, .bool false]) (by simp [results, Tryd.results28, go_sem]) rfl ?_
    exact rdNum_no HTn.out (Below.refl _ _)
  by_cases h2 : 17 < s.size
  · have HTn := Lib.hid (tNum_long (l := s.data.toList) (by omega))
    clear hsl
    go_enter Tryd.func28, Tryd.ntmps28
    go_wp2
    refine bodyPost_ret (v := .tuple #[.int .i64 0, .bool false]) (by simp [results, Tryd.results28, go_sem]) rfl ?_
    exact rdNum_no HTn.out (Below.refl _ _)
  have h0 : 0 < s.size := by omega
  have hne : s.data.toList ≠ [] := fun e => by rw [e] at hsl; simp at hsl; omega
  have HNE := Lib.hid hne
  have HSL := Lib.hid hsl
  have HHD := Lib.hid (head_is h0)
  clear hne hsl
  go_enter Tryd.func28, Tryd.ntmps28
  go_wp2
  go_loopw [4, 5] (fun vn vi wr => ∃ k m : Nat, k ≤ s.size ∧ vi = .int .i64 (k : Int) ∧ vn = .int .i64 (m : Int) ∧ Hid (dT s.data.toList k = some m) ∧ Below w.heap.size w wr) (fun _ vi _ => s.size - (intOf vi).toNat)
  case atStart => exact ⟨0, 0, Nat.zero_le _, rfl, rfl, Lib.hid (dT_zero _), Below.refl _ _⟩
  case round =>
    obtain ⟨k, m, hk, rfl, rfl, HD, hb⟩ := hrel
    by_cases hlt : k < s.size
    · by_cases hskip : k = 0 ∧ s[0].toNat = 45
      · obtain ⟨rfl, h45⟩ := hskip
        have h45' : ((s[0].toNat : Int) == 45) = true := by simp; omega
        have hm : m = 0 := by have := HD.out; rw [dT_zero] at this; injection this with h; exact h.symm
        subst hm
        have HD1 := Lib.hid (dT_skip (HHD.out.2 h45))
        go_wp2
        go_roundw
        case rel => exact ⟨1, 0, by omega, rfl, rfl, HD1, hb⟩
        case measure => simp [intOf]; omega
      · have hns : ¬ (k = 0 ∧ s.data.toList.head? = some 45) := fun h => hskip ⟨h.1, HHD.out.1 h.2⟩
        have HNS := Lib.hid hns
        clear hns
        rcases Nat.eq_zero_or_pos k with hk0 | hk0
        · subst hk0
          have h45 : ((s[0].toNat : Int) == 45) = false := by simp only [beq_eq_false_iff_ne, ne_eq]; intro h; exact hskip ⟨rfl, by omega⟩
          obtain ⟨c, hc⟩ : ∃ c : Nat, s[0].toNat = c := ⟨_, rfl⟩
          have HAT := Lib.hid (at_is hlt)
          have HC := Lib.hid hc
          by_cases hlo : c < 48
          · skip
            have HB := Lib.hid (tNum_bad HAT.out HNS.out (by rw [HC.out]; omega))
            have hlo' : (c : Int) < 48 := by omega
            go_wp2
            refine bodyPost_ret (v := .tuple #[.int .i64 0, .bool false]) (by simp [results, Tryd.results28, go_sem]) rfl ?_
            exact rdNum_no HB.out hb
          by_cases hhi : 57 < c
          · skip
            have HB := Lib.hid (tNum_bad HAT.out HNS.out (by rw [HC.out]; omega))
            have hlo' : (57 : Int) < (c : Int) := by omega
            go_wp2
            refine bodyPost_ret (v := .tuple #[.int .i64 0, .bool false]) (by simp [results, Tryd.results28, go_sem]) rfl ?_
            exact rdNum_no HB.out hb
          obtain ⟨d, hd⟩ : ∃ d, c - 48 = d := ⟨_, rfl⟩
          obtain ⟨a, ha⟩ : ∃ a, m * 10 = a := ⟨_, rfl⟩
          obtain ⟨b, hbb⟩ : ∃ b, a + d = b := ⟨_, rfl⟩
          have hmlt := dT_lt HD.out (by omega)
          have w0 : IntKind.i64.wrap (d : Int) = (d : Int) := IntWalk.i64_in _ (by omega)
          have w1 : IntKind.u8.wrap ((c : Int) - 48) = (d : Int) := (IntWalk.u8_in _ (by omega)).trans (by omega)
          have w2 : IntKind.i64.wrap ((m : Int) * 10) = (a : Int) := (IntWalk.i64_in _ (by omega)).trans (by omega)
          have w3 : IntKind.i64.wrap ((a : Int) + (d : Int)) = (b : Int) := (IntWalk.i64_in _ (by omega)).trans (by omega)
          have hlo' : ¬ (c : Int) < 48 := by omega
          have hhi' : ¬ (57 : Int) < (c : Int) := by omega
          have HD1 := Lib.hid (dT_step HD.out HAT.out HNS.out (by rw [HC.out]; omega))
          have HD2 : Hid (dT s.data.toList (0 + 1) = some b) := Lib.hid (by rw [HD1.out, HC.out, hd, ha, hbb])
          clear HD1 hd ha hbb hmlt hlo hhi
          go_wp2
          go_roundw
          case rel => exact ⟨0 + 1, b, by omega, by go_num, rfl, HD2, hb⟩
          case measure => simp [intOf]; omega
        · have hkz : ((k : Int) == 0) = false := by simp; omega
          clear hskip
          obtain ⟨c, hc⟩ : ∃ c : Nat, s[k].toNat = c := ⟨_, rfl⟩
          have HAT := Lib.hid (at_is hlt)
          have HC := Lib.hid hc
          by_cases hlo : c < 48
          · skip
            have HB := Lib.hid (tNum_bad HAT.out HNS.out (by rw [HC.out]; omega))
            have hlo' : (c : Int) < 48 := by omega
            go_wp2
            refine bodyPost_ret (v := .tuple #[.int .i64 0, .bool false]) (by simp [results, Tryd.results28, go_sem]) rfl ?_
            exact rdNum_no HB.out hb
          by_cases hhi : 57 < c
          · skip
            have HB := Lib.hid (tNum_bad HAT.out HNS.out (by rw [HC.out]; omega))
            have hlo' : (57 : Int) < (c : Int) := by omega
            go_wp2
            refine bodyPost_ret (v := .tuple #[.int .i64 0, .bool false]) (by simp [results, Tryd.results28, go_sem]) rfl ?_
            exact rdNum_no HB.out hb
          obtain ⟨d, hd⟩ : ∃ d, c - 48 = d := ⟨_, rfl⟩
          obtain ⟨a, ha⟩ : ∃ a, m * 10 = a := ⟨_, rfl⟩
          obtain ⟨b, hbb⟩ : ∃ b, a + d = b := ⟨_, rfl⟩
          have hmlt := dT_lt HD.out (by omega)
          have w0 : IntKind.i64.wrap (d : Int) = (d : Int) := IntWalk.i64_in _ (by omega)
          have w1 : IntKind.u8.wrap ((c : Int) - 48) = (d : Int) := (IntWalk.u8_in _ (by omega)).trans (by omega)
          have w2 : IntKind.i64.wrap ((m : Int) * 10) = (a : Int) := (IntWalk.i64_in _ (by omega)).trans (by omega)
          have w3 : IntKind.i64.wrap ((a : Int) + (d : Int)) = (b : Int) := (IntWalk.i64_in _ (by omega)).trans (by omega)
          have hlo' : ¬ (c : Int) < 48 := by omega
          have hhi' : ¬ (57 : Int) < (c : Int) := by omega
          have HD1 := Lib.hid (dT_step HD.out HAT.out HNS.out (by rw [HC.out]; omega))
          have HD2 : Hid (dT s.data.toList (k + 1) = some b) := Lib.hid (by rw [HD1.out, HC.out, hd, ha, hbb])
          clear HD1 hd ha hbb hmlt hlo hhi
          go_wp2
          go_roundw
          case rel => exact ⟨k + 1, b, by omega, by go_num, rfl, HD2, hb⟩
          case measure => simp [intOf]; omega
    · obtain rfl : k = s.size := by omega
      have hmlt := dT_lt HD.out (by omega)
      have HD1 : Hid (dT s.data.toList s.data.toList.length = some m) := Lib.hid (by rw [HSL.out]; exact HD.out)
      rcases hneg : decide (s[0].toNat = 45) with _ | _
      · have h45 : ((s[0].toNat : Int) == 45) = false := by simp at hneg ⊢; omega
        have HT2 := Lib.hid (tNum_all (n := (m : Int)) HD1.out HNE.out (by rw [if_neg (fun h => by have := HHD.out.1 h; simp [this] at hneg)]))
        clear hneg hlt
        by_cases hq : nTx (m : Int) = s.data.toList
        · have hcm := cmp_same hq
          have HT3 := Lib.hid (HT2.out.trans (if_pos hq))
          clear hq
          go_wp2_with fail
          refine (spec_NumText (m : Int) _).mono ?_
          rintro e w2 ⟨rfl, hb2⟩
          go_wp2_with fail
          refine bodyPost_ret (v := .tuple #[.int .i64 (m : Int), .bool true]) (by simp [results, Tryd.results28, go_sem]) rfl ?_
          exact rdNum_yes HT3.out (hb.trans (hb2.mono hb.size))
        · have hcm := cmp_other hq
          have HT3 := Lib.hid (HT2.out.trans (if_neg hq))
          clear hq
          go_wp2_with fail
          refine (spec_NumText (m : Int) _).mono ?_
          rintro e w2 ⟨rfl, hb2⟩
          go_wp2_with fail
          refine bodyPost_ret (v := .tuple #[.int .i64 0, .bool false]) (by simp [results, Tryd.results28, go_sem]) rfl ?_
          exact rdNum_no HT3.out (hb.trans (hb2.mono hb.size))
      · have h45 : ((s[0].toNat : Int) == 45) = true := by simp at hneg ⊢; omega
        obtain ⟨z, hz⟩ : ∃ z : Int, -(m : Int) = z := ⟨_, rfl⟩
        have hng : IntKind.i64.wrap (-(m : Int)) = z := (IntWalk.i64_in _ (by omega)).trans hz
        have HT2 := Lib.hid (tNum_all (n := z) HD1.out HNE.out (by rw [if_pos (HHD.out.2 (by simpa using hneg)), hz]))
        clear hneg hlt hz
        by_cases hq : nTx z = s.data.toList
        · have hcm := cmp_same hq
          have HT3 := Lib.hid (HT2.out.trans (if_pos hq))
          clear hq
          go_wp2_with fail
          refine (spec_NumText z _).mono ?_
          rintro e w2 ⟨rfl, hb2⟩
          go_wp2_with fail
          refine bodyPost_ret (v := .tuple #[.int .i64 z, .bool true]) (by simp [results, Tryd.results28, go_sem]) rfl ?_
          exact rdNum_yes HT3.out (hb.trans (hb2.mono hb.size))
        · have hcm := cmp_other hq
          have HT3 := Lib.hid (HT2.out.trans (if_neg hq))
          clear hq
          go_wp2_with fail
          refine (spec_NumText z _).mono ?_
          rintro e w2 ⟨rfl, hb2⟩
          go_wp2_with fail
          refine bodyPost_ret (v := .tuple #[.int .i64 0, .bool false]) (by simp [results, Tryd.results28, go_sem]) rfl ?_
          exact rdNum_no HT3.out (hb.trans (hb2.mono hb.size))
end Go.Proofs.YtnjdmmdbminmoaaDoor
