/- AccText, in the program and in the reference. -/
import Derived.Test.YtnjdmmdbminmoaaDoorLib
import Derived.Test.YtnjdmmdbminmoaaDoorTxa
import Derived.Deep.RegionHeld3
namespace Go.Proofs.YtnjdmmdbminmoaaDoor
open Go.RowKit
theorem below_one (w : World) (o : Obj) : Below w.heap.size w (w.alloc o) := (Below.refl _ _).alloc (Nat.le_refl _) _
theorem str_size {a b : List UInt8} (h : a.length + b.length ≤ 9223372036854775807) : ¬ (9223372036854775807 < (bstr a).size + (bstr b).size) := by rw [bstr_size, bstr_size]; omega
theorem accW_len (k : Nat) (h : k < 9) : (accWs.getD k []).length ≤ 6 := by
  rcases k with _ | _ | _ | _ | _ | _ | _ | _ | _ | k <;> first | decide | omega
theorem acc_cells : (#[.string ⟨#[]⟩, .string ⟨#[119, 97, 108, 108, 101, 116]⟩, .string ⟨#[101, 113, 117, 105, 116, 121]⟩, .string ⟨#[105, 110, 99, 111, 109, 101]⟩, .string ⟨#[114, 101, 98, 97, 108]⟩, .string ⟨#[99, 104, 97, 105, 110]⟩, .string ⟨#[108, 111, 99, 97, 108]⟩, .string ⟨#[105, 110]⟩, .string ⟨#[111, 117, 116]⟩] : Array Value) = (accWs.map fun l => Value.string (bstr l)).toArray := rfl
theorem acc_split (w : World) (hM : PMax w) : Calls Tryd.prog 41 #[.string ⟨#[32, 119, 97, 108, 108, 101, 116, 32, 101, 113, 117, 105, 116, 121, 32, 105, 110, 99, 111, 109, 101, 32, 114, 101, 98, 97, 108, 32, 99, 104, 97, 105, 110, 32, 108, 111, 99, 97, 108, 32, 105, 110, 32, 111, 117, 116]⟩, .string ⟨#[32]⟩] w fun e w' => e = .returned (.slice (some ⟨w.heap.size, 0, none⟩) 9 9) ∧ w' = w.alloc (.cells #[.string ⟨#[]⟩, .string ⟨#[119, 97, 108, 108, 101, 116]⟩, .string ⟨#[101, 113, 117, 105, 116, 121]⟩, .string ⟨#[105, 110, 99, 111, 109, 101]⟩, .string ⟨#[114, 101, 98, 97, 108]⟩, .string ⟨#[99, 104, 97, 105, 110]⟩, .string ⟨#[108, 111, 99, 97, 108]⟩, .string ⟨#[105, 110]⟩, .string ⟨#[111, 117, 116]⟩] 9) := by
  obtain ⟨m, hm⟩ := hM
  refine (Tryd.strings_Split ⟨#[32, 119, 97, 108, 108, 101, 116, 32, 101, 113, 117, 105, 116, 121, 32, 105, 110, 99, 111, 109, 101, 32, 114, 101, 98, 97, 108, 32, 99, 104, 97, 105, 110, 32, 108, 111, 99, 97, 108, 32, 105, 110, 32, 111, 117, 116]⟩ ⟨#[32]⟩ m w (by decide) hm (by decide)).mono ?_
  rintro e w' ⟨rfl, rfl⟩
  have e1 : Lib.countB ⟨#[32, 119, 97, 108, 108, 101, 116, 32, 101, 113, 117, 105, 116, 121, 32, 105, 110, 99, 111, 109, 101, 32, 114, 101, 98, 97, 108, 32, 99, 104, 97, 105, 110, 32, 108, 111, 99, 97, 108, 32, 105, 110, 32, 111, 117, 116]⟩ ⟨#[32]⟩ = 8 := by kernel_rfl
  have e2 : Lib.splitB ⟨#[32]⟩ 0 8 ⟨#[32, 119, 97, 108, 108, 101, 116, 32, 101, 113, 117, 105, 116, 121, 32, 105, 110, 99, 111, 109, 101, 32, 114, 101, 98, 97, 108, 32, 99, 104, 97, 105, 110, 32, 108, 111, 99, 97, 108, 32, 105, 110, 32, 111, 117, 116]⟩ = [⟨#[]⟩, ⟨#[119, 97, 108, 108, 101, 116]⟩, ⟨#[101, 113, 117, 105, 116, 121]⟩, ⟨#[105, 110, 99, 111, 109, 101]⟩, ⟨#[114, 101, 98, 97, 108]⟩, ⟨#[99, 104, 97, 105, 110]⟩, ⟨#[108, 111, 99, 97, 108]⟩, ⟨#[105, 110]⟩, ⟨#[111, 117, 116]⟩] := by kernel_rfl
  rw [e1, e2]
  exact ⟨rfl, rfl⟩
theorem acc_at {j : Nat} (h : j < 9) (w : World) (t : TypeId) : (w.alloc (.cells #[.string ⟨#[]⟩, .string ⟨#[119, 97, 108, 108, 101, 116]⟩, .string ⟨#[101, 113, 117, 105, 116, 121]⟩, .string ⟨#[105, 110, 99, 111, 109, 101]⟩, .string ⟨#[114, 101, 98, 97, 108]⟩, .string ⟨#[99, 104, 97, 105, 110]⟩, .string ⟨#[108, 111, 99, 97, 108]⟩, .string ⟨#[105, 110]⟩, .string ⟨#[111, 117, 116]⟩] t)).cell? ⟨w.heap.size, j, none⟩ = some (.string (bstr (accWs.getD j []))) := by
  refine var_cell w _ t j _ ?_
  rw [acc_cells, List.getElem?_toArray, List.getElem?_map, List.getElem?_eq_getElem (show j < accWs.length from h), List.getD_eq_getElem?_getD, List.getElem?_eq_getElem (show j < accWs.length from h)]
  rfl
set_option maxHeartbeats 2000000 in
set_option maxRecDepth 100000 in
theorem impl_AccText (k c : Int) (w : World) (hT : PTab w) (hM : PMax w) : Calls Tryd.prog 13 #[.agg #[.int .i64 k, .int .i64 c]] w fun e w' => e = .returned (.string (bstr (accT k c))) ∧ Below w.heap.size w w' := by
  rcases hok : accOk k c with _ | _
  · rw [accT_no hok, bstr_nil]
    go_enter Tryd.func13, Tryd.ntmps13
    go_wp2_with fail
    have he1 : Below w.heap.size w (w.alloc (.cells #[.int .i64 k, .int .i64 c] 24)) := below_one _ _
    have a_0 : (w.alloc (.cells #[.int .i64 k, .int .i64 c] 24)).cell? ⟨w.heap.size, 0, none⟩ = some (.int .i64 k) := var_cell _ _ _ _ _ rfl
    have a_1 : (w.alloc (.cells #[.int .i64 k, .int .i64 c] 24)).cell? ⟨w.heap.size, 1, none⟩ = some (.int .i64 c) := var_cell _ _ _ _ _ rfl
    have hs1 : (w.alloc (.cells #[.int .i64 k, .int .i64 c] 24)).heap.size = w.heap.size + 1 := (by simp)
    generalize (w.alloc (.cells #[.int .i64 k, .int .i64 c] 24)) = w1 at *
    have hz1 : w.heap.size < w1.heap.size := by omega
    clear hs1
    replace hT := hT.below he1
    replace hM := hM.below he1
    refine (impl_AccOk k c w1).mono ?_
    rintro e w2 ⟨rfl, hb2⟩
    rw [hok]
    have b2 : Below w.heap.size w w2 := he1.trans (hb2.mono (by omega))
    have hz2 := hb2.size
    replace a_0 := (hb2.cell (p := ⟨w.heap.size, 0, none⟩) (by simp only; omega)).trans a_0
    replace a_1 := (hb2.cell (p := ⟨w.heap.size, 1, none⟩) (by simp only; omega)).trans a_1
    replace hT := hT.below hb2
    replace hM := hM.below hb2
    go_wp2_with fail
    go_ret
    exact ⟨rfl, b2⟩
  · skip
    obtain ⟨j, rfl⟩ : ∃ j : Nat, k = (j : Int) := ⟨k.toNat, by have := accOk_iff.1 hok; omega⟩
    have hj9 : j < 9 := by have := accOk_iff.1 hok; omega
    have i0 : (0 : Int) ≤ (j : Int) := by omega
    have i1 : (j : Int) < 9 := by omega
    have hwl := accW_len j hj9
    have hxl := nTx_len c
    have hWd : accW (j : Int) = accWs.getD j [] := by rw [accW, Int.toNat_natCast]
    obtain ⟨Wd, hWe⟩ : ∃ Wd, accWs.getD j [] = Wd := ⟨_, rfl⟩
    have HT1 : Hid (accT (j : Int) c = if 0 < c then Wd ++ nTx c else Wd) := Lib.hid (by rw [accT, hok, if_pos rfl, hWd, hWe])
    have hcell := fun (w : World) (t : TypeId) => (acc_at hj9 w t).trans (by rw [hWe] : _ = some (Value.string (bstr Wd)))
    rw [hWe] at hwl
    obtain ⟨X, hX⟩ : ∃ X, nTx c = X := ⟨_, rfl⟩
    rw [hX] at hxl
    have hsz := str_size (a := Wd) (b := X) (by omega)
    rw [hX] at HT1
    have HX := Lib.hid hX
    clear hWd hWe hX hwl hxl
    by_cases hc : 0 < c
    · rw [HT1.out, if_pos hc]
      have HOK := Lib.hid hok
      clear hok
      go_enter Tryd.func13, Tryd.ntmps13
      go_wp2_with fail
      have he1 : Below w.heap.size w (w.alloc (.cells #[.int .i64 (j : Int), .int .i64 c] 24)) := below_one _ _
      have a_0 : (w.alloc (.cells #[.int .i64 (j : Int), .int .i64 c] 24)).cell? ⟨w.heap.size, 0, none⟩ = some (.int .i64 (j : Int)) := var_cell _ _ _ _ _ rfl
      have a_1 : (w.alloc (.cells #[.int .i64 (j : Int), .int .i64 c] 24)).cell? ⟨w.heap.size, 1, none⟩ = some (.int .i64 c) := var_cell _ _ _ _ _ rfl
      have hs1 : (w.alloc (.cells #[.int .i64 (j : Int), .int .i64 c] 24)).heap.size = w.heap.size + 1 := (by simp)
      generalize (w.alloc (.cells #[.int .i64 (j : Int), .int .i64 c] 24)) = w1 at *
      have hz1 : w.heap.size < w1.heap.size := by omega
      clear hs1
      replace hT := hT.below he1
      replace hM := hM.below he1
      refine (impl_AccOk (j : Int) c w1).mono ?_
      rintro e w2 ⟨rfl, hb2⟩
      rw [HOK.out]
      have b2 : Below w.heap.size w w2 := he1.trans (hb2.mono (by omega))
      have hz2 := hb2.size
      replace a_0 := (hb2.cell (p := ⟨w.heap.size, 0, none⟩) (by simp only; omega)).trans a_0
      replace a_1 := (hb2.cell (p := ⟨w.heap.size, 1, none⟩) (by simp only; omega)).trans a_1
      replace hT := hT.below hb2
      replace hM := hM.below hb2
      go_wp2_with fail
      have b3 : Below w.heap.size w w2.drew := b2.drew
      have hd : Below w2.heap.size w2 w2.drew := (Below.refl _ _).drew
      replace hT := hT.below hd
      replace hM := hM.below hd
      replace a_0 : w2.drew.cell? ⟨w.heap.size, 0, none⟩ = _ := a_0
      replace a_1 : w2.drew.cell? ⟨w.heap.size, 1, none⟩ = _ := a_1
      have hzd : w.heap.size < w2.drew.heap.size := by have := hd.size; omega
      clear hd
      refine wp_region_held_drew (S := fun w' => w'.cell? ⟨w.heap.size, 0, none⟩ = some (.int .i64 (j : Int)) ∧ w'.cell? ⟨w.heap.size, 1, none⟩ = some (.int .i64 c)) (by kernel_rfl) ?rg1 (fun hHeld => ?_)
      case rg1 => ((try dsimp only); (go_split_ands; (repeat' apply And.intro) <;> (first | with_reducible assumption)))
      generalize w2.drew = v0 at *
      refine wpAnyH_take (i := 1) (oi := { dst := some 8, op := Go.Op.fieldAddr 24 (Go.Operand.tmp 1) 0, type := 0, pos := "l02_ledger.go:54", after := #[], guard := none }) (v := ?v2) rfl (by kernel_rfl) (by kernel_rfl) (by kernel_rfl) (fun _ _ _ h => h) (Or.inl ⟨by rfl, ?y2⟩) (by assumption) ?_
      case y2 => (intro w hSw; (try dsimp only at hSw); go_simp; first | done | with_reducible rfl)
      try simp only [Act.put, List.setIfInBounds_toArray, List.set_cons_zero, List.set_cons_succ]
      refine wpAnyH_take (i := 2) (oi := { dst := some 9, op := Go.Op.load 3 (Go.Operand.tmp 8), type := 3, pos := "l02_ledger.go:54", after := #[{ on := 1, ground := Go.Ground.data }], guard := none }) (v := ?v3) rfl (by kernel_rfl) (by kernel_rfl) (by kernel_rfl) (fun _ _ _ h => h) (Or.inl ⟨by rfl, ?y3⟩) (by assumption) ?_
      case y3 => (intro w hSw; (try dsimp only at hSw); go_simp; first | done | with_reducible rfl)
      try simp only [Act.put, List.setIfInBounds_toArray, List.set_cons_zero, List.set_cons_succ]
      refine wpAnyH_ready (rs := [0]) (by kernel_rfl) (by simp) ?_
      refine AllReadyH.cons (o := { dst := some 7, op := Go.Op.call { callee := Go.Callee.value (Go.Operand.func 41), args := #[Go.Operand.const (Go.Value.string { data := #[32, 119, 97, 108, 108, 101, 116, 32, 101, 113, 117, 105, 116, 121, 32, 105, 110, 99, 111, 109, 101, 32, 114, 101, 98, 97, 108, 32, 99, 104, 97, 105, 110, 32, 108, 111, 99, 97, 108, 32, 105, 110, 32, 111, 117, 116] }), Go.Operand.const (Go.Value.string { data := #[32] })], argTypes := #[9, 9] }, type := 61, pos := "l02_ledger.go:54", after := #[], guard := none }) rfl (fun K hK => ?k4) AllReadyH.nil
      go_simp
      go_at_call 41
      refine (acc_split v0 hM).mono ?_
      rintro e w3 ⟨rfl, rfl⟩
      have hc3 := hcell v0 9
      have b4 : Below w.heap.size w (v0.alloc (.cells #[.string ⟨#[]⟩, .string ⟨#[119, 97, 108, 108, 101, 116]⟩, .string ⟨#[101, 113, 117, 105, 116, 121]⟩, .string ⟨#[105, 110, 99, 111, 109, 101]⟩, .string ⟨#[114, 101, 98, 97, 108]⟩, .string ⟨#[99, 104, 97, 105, 110]⟩, .string ⟨#[108, 111, 99, 97, 108]⟩, .string ⟨#[105, 110]⟩, .string ⟨#[111, 117, 116]⟩] 9)) := b3.alloc b3.size _
      have hT3 := hT.below (below_one v0 (.cells #[.string ⟨#[]⟩, .string ⟨#[119, 97, 108, 108, 101, 116]⟩, .string ⟨#[101, 113, 117, 105, 116, 121]⟩, .string ⟨#[105, 110, 99, 111, 109, 101]⟩, .string ⟨#[114, 101, 98, 97, 108]⟩, .string ⟨#[99, 104, 97, 105, 110]⟩, .string ⟨#[108, 111, 99, 97, 108]⟩, .string ⟨#[105, 110]⟩, .string ⟨#[111, 117, 116]⟩] 9))
      replace a_0 := (below_one v0 (.cells #[.string ⟨#[]⟩, .string ⟨#[119, 97, 108, 108, 101, 116]⟩, .string ⟨#[101, 113, 117, 105, 116, 121]⟩, .string ⟨#[105, 110, 99, 111, 109, 101]⟩, .string ⟨#[114, 101, 98, 97, 108]⟩, .string ⟨#[99, 104, 97, 105, 110]⟩, .string ⟨#[108, 111, 99, 97, 108]⟩, .string ⟨#[105, 110]⟩, .string ⟨#[111, 117, 116]⟩] 9)).cell (p := ⟨w.heap.size, 0, none⟩) (by simp only; omega) |>.trans a_0
      replace a_1 := (below_one v0 (.cells #[.string ⟨#[]⟩, .string ⟨#[119, 97, 108, 108, 101, 116]⟩, .string ⟨#[101, 113, 117, 105, 116, 121]⟩, .string ⟨#[105, 110, 99, 111, 109, 101]⟩, .string ⟨#[114, 101, 98, 97, 108]⟩, .string ⟨#[99, 104, 97, 105, 110]⟩, .string ⟨#[108, 111, 99, 97, 108]⟩, .string ⟨#[105, 110]⟩, .string ⟨#[111, 117, 116]⟩] 9)).cell (p := ⟨w.heap.size, 1, none⟩) (by simp only; omega) |>.trans a_1
      generalize (v0.alloc (.cells #[.string ⟨#[]⟩, .string ⟨#[119, 97, 108, 108, 101, 116]⟩, .string ⟨#[101, 113, 117, 105, 116, 121]⟩, .string ⟨#[105, 110, 99, 111, 109, 101]⟩, .string ⟨#[114, 101, 98, 97, 108]⟩, .string ⟨#[99, 104, 97, 105, 110]⟩, .string ⟨#[108, 111, 99, 97, 108]⟩, .string ⟨#[105, 110]⟩, .string ⟨#[111, 117, 116]⟩] 9)) = w3 at *
      clear hcell hM hT
      have hT := hT3
      refine hK.out _ _ ?s4 (fun hHeld => ?_)
      case s4 => ((try dsimp only); (go_split_ands; (repeat' apply And.intro) <;> (first | with_reducible assumption)))
      clear hK K
      try simp only [Act.put, List.setIfInBounds_toArray, List.set_cons_zero, List.set_cons_succ]
      refine wpAnyH_ready (rs := [3]) (by kernel_rfl) (by simp) ?_
      refine AllReadyH.cons (o := { dst := some 10, op := Go.Op.indexAddr 61 (Go.Operand.tmp 7) (Go.Operand.tmp 9), type := 0, pos := "l02_ledger.go:54", after := #[{ on := 0, ground := Go.Ground.data }, { on := 2, ground := Go.Ground.data }], guard := none }) rfl (fun K hK => ?k5) AllReadyH.nil
      go_simp
      refine hK.out _ _ ?s5 (fun hHeld => ?_)
      case s5 => ((try dsimp only); (go_split_ands; (repeat' apply And.intro) <;> (first | with_reducible assumption)))
      clear hK K
      try simp only [Act.put, List.setIfInBounds_toArray, List.set_cons_zero, List.set_cons_succ]
      refine wpAnyH_ready (rs := [4]) (by kernel_rfl) (by simp) ?_
      refine AllReadyH.cons (o := { dst := some 11, op := Go.Op.load 9 (Go.Operand.tmp 10), type := 9, pos := "l02_ledger.go:54", after := #[{ on := 3, ground := Go.Ground.data }], guard := none }) rfl (fun K hK => ?k6) AllReadyH.nil
      go_simp
      refine hK.out _ _ ?s6 (fun hHeld => ?_)
      case s6 => ((try dsimp only); (go_split_ands; (repeat' apply And.intro) <;> (first | with_reducible assumption)))
      clear hK K
      try simp only [Act.put, List.setIfInBounds_toArray, List.set_cons_zero, List.set_cons_succ]
      refine wpAnyH_take (i := 5) (oi := { dst := some 3, op := Go.Op.assign (Go.Operand.tmp 11), type := 9, pos := "l02_ledger.go:54", after := #[{ on := 4, ground := Go.Ground.data }, { on := 0, ground := Go.Ground.chain }, { on := 0, ground := Go.Ground.phase }, { on := 1, ground := Go.Ground.phase }, { on := 2, ground := Go.Ground.phase }, { on := 3, ground := Go.Ground.phase }, { on := 4, ground := Go.Ground.phase }], guard := none }) (v := ?v7) rfl (by kernel_rfl) (by kernel_rfl) (by kernel_rfl) (fun _ _ _ h => h) (Or.inl ⟨by rfl, ?y7⟩) (by assumption) ?_
      case y7 => (intro w hSw; (try dsimp only at hSw); go_simp; first | done | with_reducible rfl)
      try simp only [Act.put, List.setIfInBounds_toArray, List.set_cons_zero, List.set_cons_succ]
      refine wpAnyH_done (by kernel_rfl) ?_ _
      go_wp2_with fail
      refine (impl_NumText c w3 hT).mono ?_
      rintro e w4 ⟨rfl, hb4⟩
      rw [HX.out]
      go_wp2_with fail
      go_ret
      exact ⟨congrArg (fun s => Ending.returned (Value.string s)) (bstr_app _ _), b4.trans (hb4.mono b4.size)⟩
    · rw [HT1.out, if_neg hc]
      have HOK := Lib.hid hok
      clear hok
      go_enter Tryd.func13, Tryd.ntmps13
      go_wp2_with fail
      have he1 : Below w.heap.size w (w.alloc (.cells #[.int .i64 (j : Int), .int .i64 c] 24)) := below_one _ _
      have a_0 : (w.alloc (.cells #[.int .i64 (j : Int), .int .i64 c] 24)).cell? ⟨w.heap.size, 0, none⟩ = some (.int .i64 (j : Int)) := var_cell _ _ _ _ _ rfl
      have a_1 : (w.alloc (.cells #[.int .i64 (j : Int), .int .i64 c] 24)).cell? ⟨w.heap.size, 1, none⟩ = some (.int .i64 c) := var_cell _ _ _ _ _ rfl
      have hs1 : (w.alloc (.cells #[.int .i64 (j : Int), .int .i64 c] 24)).heap.size = w.heap.size + 1 := (by simp)
      generalize (w.alloc (.cells #[.int .i64 (j : Int), .int .i64 c] 24)) = w1 at *
      have hz1 : w.heap.size < w1.heap.size := by omega
      clear hs1
      replace hT := hT.below he1
      replace hM := hM.below he1
      refine (impl_AccOk (j : Int) c w1).mono ?_
      rintro e w2 ⟨rfl, hb2⟩
      rw [HOK.out]
      have b2 : Below w.heap.size w w2 := he1.trans (hb2.mono (by omega))
      have hz2 := hb2.size
      replace a_0 := (hb2.cell (p := ⟨w.heap.size, 0, none⟩) (by simp only; omega)).trans a_0
      replace a_1 := (hb2.cell (p := ⟨w.heap.size, 1, none⟩) (by simp only; omega)).trans a_1
      replace hT := hT.below hb2
      replace hM := hM.below hb2
      go_wp2_with fail
      have b3 : Below w.heap.size w w2.drew := b2.drew
      have hd : Below w2.heap.size w2 w2.drew := (Below.refl _ _).drew
      replace hT := hT.below hd
      replace hM := hM.below hd
      replace a_0 : w2.drew.cell? ⟨w.heap.size, 0, none⟩ = _ := a_0
      replace a_1 : w2.drew.cell? ⟨w.heap.size, 1, none⟩ = _ := a_1
      have hzd : w.heap.size < w2.drew.heap.size := by have := hd.size; omega
      clear hd
      refine wp_region_held_drew (S := fun w' => w'.cell? ⟨w.heap.size, 0, none⟩ = some (.int .i64 (j : Int)) ∧ w'.cell? ⟨w.heap.size, 1, none⟩ = some (.int .i64 c)) (by kernel_rfl) ?rg8 (fun hHeld => ?_)
      case rg8 => ((try dsimp only); (go_split_ands; (repeat' apply And.intro) <;> (first | with_reducible assumption)))
      generalize w2.drew = v0 at *
      refine wpAnyH_take (i := 1) (oi := { dst := some 8, op := Go.Op.fieldAddr 24 (Go.Operand.tmp 1) 0, type := 0, pos := "l02_ledger.go:54", after := #[], guard := none }) (v := ?v9) rfl (by kernel_rfl) (by kernel_rfl) (by kernel_rfl) (fun _ _ _ h => h) (Or.inl ⟨by rfl, ?y9⟩) (by assumption) ?_
      case y9 => (intro w hSw; (try dsimp only at hSw); go_simp; first | done | with_reducible rfl)
      try simp only [Act.put, List.setIfInBounds_toArray, List.set_cons_zero, List.set_cons_succ]
      refine wpAnyH_take (i := 2) (oi := { dst := some 9, op := Go.Op.load 3 (Go.Operand.tmp 8), type := 3, pos := "l02_ledger.go:54", after := #[{ on := 1, ground := Go.Ground.data }], guard := none }) (v := ?v10) rfl (by kernel_rfl) (by kernel_rfl) (by kernel_rfl) (fun _ _ _ h => h) (Or.inl ⟨by rfl, ?y10⟩) (by assumption) ?_
      case y10 => (intro w hSw; (try dsimp only at hSw); go_simp; first | done | with_reducible rfl)
      try simp only [Act.put, List.setIfInBounds_toArray, List.set_cons_zero, List.set_cons_succ]
      refine wpAnyH_ready (rs := [0]) (by kernel_rfl) (by simp) ?_
      refine AllReadyH.cons (o := { dst := some 7, op := Go.Op.call { callee := Go.Callee.value (Go.Operand.func 41), args := #[Go.Operand.const (Go.Value.string { data := #[32, 119, 97, 108, 108, 101, 116, 32, 101, 113, 117, 105, 116, 121, 32, 105, 110, 99, 111, 109, 101, 32, 114, 101, 98, 97, 108, 32, 99, 104, 97, 105, 110, 32, 108, 111, 99, 97, 108, 32, 105, 110, 32, 111, 117, 116] }), Go.Operand.const (Go.Value.string { data := #[32] })], argTypes := #[9, 9] }, type := 61, pos := "l02_ledger.go:54", after := #[], guard := none }) rfl (fun K hK => ?k11) AllReadyH.nil
      go_simp
      go_at_call 41
      refine (acc_split v0 hM).mono ?_
      rintro e w3 ⟨rfl, rfl⟩
      have hc3 := hcell v0 9
      have b4 : Below w.heap.size w (v0.alloc (.cells #[.string ⟨#[]⟩, .string ⟨#[119, 97, 108, 108, 101, 116]⟩, .string ⟨#[101, 113, 117, 105, 116, 121]⟩, .string ⟨#[105, 110, 99, 111, 109, 101]⟩, .string ⟨#[114, 101, 98, 97, 108]⟩, .string ⟨#[99, 104, 97, 105, 110]⟩, .string ⟨#[108, 111, 99, 97, 108]⟩, .string ⟨#[105, 110]⟩, .string ⟨#[111, 117, 116]⟩] 9)) := b3.alloc b3.size _
      have hT3 := hT.below (below_one v0 (.cells #[.string ⟨#[]⟩, .string ⟨#[119, 97, 108, 108, 101, 116]⟩, .string ⟨#[101, 113, 117, 105, 116, 121]⟩, .string ⟨#[105, 110, 99, 111, 109, 101]⟩, .string ⟨#[114, 101, 98, 97, 108]⟩, .string ⟨#[99, 104, 97, 105, 110]⟩, .string ⟨#[108, 111, 99, 97, 108]⟩, .string ⟨#[105, 110]⟩, .string ⟨#[111, 117, 116]⟩] 9))
      replace a_0 := (below_one v0 (.cells #[.string ⟨#[]⟩, .string ⟨#[119, 97, 108, 108, 101, 116]⟩, .string ⟨#[101, 113, 117, 105, 116, 121]⟩, .string ⟨#[105, 110, 99, 111, 109, 101]⟩, .string ⟨#[114, 101, 98, 97, 108]⟩, .string ⟨#[99, 104, 97, 105, 110]⟩, .string ⟨#[108, 111, 99, 97, 108]⟩, .string ⟨#[105, 110]⟩, .string ⟨#[111, 117, 116]⟩] 9)).cell (p := ⟨w.heap.size, 0, none⟩) (by simp only; omega) |>.trans a_0
      replace a_1 := (below_one v0 (.cells #[.string ⟨#[]⟩, .string ⟨#[119, 97, 108, 108, 101, 116]⟩, .string ⟨#[101, 113, 117, 105, 116, 121]⟩, .string ⟨#[105, 110, 99, 111, 109, 101]⟩, .string ⟨#[114, 101, 98, 97, 108]⟩, .string ⟨#[99, 104, 97, 105, 110]⟩, .string ⟨#[108, 111, 99, 97, 108]⟩, .string ⟨#[105, 110]⟩, .string ⟨#[111, 117, 116]⟩] 9)).cell (p := ⟨w.heap.size, 1, none⟩) (by simp only; omega) |>.trans a_1
      generalize (v0.alloc (.cells #[.string ⟨#[]⟩, .string ⟨#[119, 97, 108, 108, 101, 116]⟩, .string ⟨#[101, 113, 117, 105, 116, 121]⟩, .string ⟨#[105, 110, 99, 111, 109, 101]⟩, .string ⟨#[114, 101, 98, 97, 108]⟩, .string ⟨#[99, 104, 97, 105, 110]⟩, .string ⟨#[108, 111, 99, 97, 108]⟩, .string ⟨#[105, 110]⟩, .string ⟨#[111, 117, 116]⟩] 9)) = w3 at *
      clear hcell hM hT
      have hT := hT3
      refine hK.out _ _ ?s11 (fun hHeld => ?_)
      case s11 => ((try dsimp only); (go_split_ands; (repeat' apply And.intro) <;> (first | with_reducible assumption)))
      clear hK K
      try simp only [Act.put, List.setIfInBounds_toArray, List.set_cons_zero, List.set_cons_succ]
      refine wpAnyH_ready (rs := [3]) (by kernel_rfl) (by simp) ?_
      refine AllReadyH.cons (o := { dst := some 10, op := Go.Op.indexAddr 61 (Go.Operand.tmp 7) (Go.Operand.tmp 9), type := 0, pos := "l02_ledger.go:54", after := #[{ on := 0, ground := Go.Ground.data }, { on := 2, ground := Go.Ground.data }], guard := none }) rfl (fun K hK => ?k12) AllReadyH.nil
      go_simp
      refine hK.out _ _ ?s12 (fun hHeld => ?_)
      case s12 => ((try dsimp only); (go_split_ands; (repeat' apply And.intro) <;> (first | with_reducible assumption)))
      clear hK K
      try simp only [Act.put, List.setIfInBounds_toArray, List.set_cons_zero, List.set_cons_succ]
      refine wpAnyH_ready (rs := [4]) (by kernel_rfl) (by simp) ?_
      refine AllReadyH.cons (o := { dst := some 11, op := Go.Op.load 9 (Go.Operand.tmp 10), type := 9, pos := "l02_ledger.go:54", after := #[{ on := 3, ground := Go.Ground.data }], guard := none }) rfl (fun K hK => ?k13) AllReadyH.nil
      go_simp
      refine hK.out _ _ ?s13 (fun hHeld => ?_)
      case s13 => ((try dsimp only); (go_split_ands; (repeat' apply And.intro) <;> (first | with_reducible assumption)))
      clear hK K
      try simp only [Act.put, List.setIfInBounds_toArray, List.set_cons_zero, List.set_cons_succ]
      refine wpAnyH_take (i := 5) (oi := { dst := some 3, op := Go.Op.assign (Go.Operand.tmp 11), type := 9, pos := "l02_ledger.go:54", after := #[{ on := 4, ground := Go.Ground.data }, { on := 0, ground := Go.Ground.chain }, { on := 0, ground := Go.Ground.phase }, { on := 1, ground := Go.Ground.phase }, { on := 2, ground := Go.Ground.phase }, { on := 3, ground := Go.Ground.phase }, { on := 4, ground := Go.Ground.phase }], guard := none }) (v := ?v14) rfl (by kernel_rfl) (by kernel_rfl) (by kernel_rfl) (fun _ _ _ h => h) (Or.inl ⟨by rfl, ?y14⟩) (by assumption) ?_
      case y14 => (intro w hSw; (try dsimp only at hSw); go_simp; first | done | with_reducible rfl)
      try simp only [Act.put, List.setIfInBounds_toArray, List.set_cons_zero, List.set_cons_succ]
      refine wpAnyH_done (by kernel_rfl) ?_ _
      go_wp2_with fail
      go_ret
      exact ⟨rfl, b4⟩
set_option maxHeartbeats 2000000 in
set_option maxRecDepth 100000 in
theorem spec_AccText (k c : Int) (w : World) : Calls Tryd.prog 26 #[.agg #[.int .i64 k, .int .i64 c]] w fun e w' => e = .returned (.string (bstr (accT k c))) ∧ Below w.heap.size w w' := by
  rcases hok : accOk k c with _ | _
  · rw [accT_no hok, bstr_nil]
    go_enter Tryd.func26, Tryd.ntmps26
    go_wp2_with fail
    have he1 : Below w.heap.size w (w.alloc (.cells #[.int .i64 k, .int .i64 c] 24)) := below_one _ _
    have a_0 : (w.alloc (.cells #[.int .i64 k, .int .i64 c] 24)).cell? ⟨w.heap.size, 0, none⟩ = some (.int .i64 k) := var_cell _ _ _ _ _ rfl
    have a_1 : (w.alloc (.cells #[.int .i64 k, .int .i64 c] 24)).cell? ⟨w.heap.size, 1, none⟩ = some (.int .i64 c) := var_cell _ _ _ _ _ rfl
    have hs1 : (w.alloc (.cells #[.int .i64 k, .int .i64 c] 24)).heap.size = w.heap.size + 1 := (by simp)
    generalize (w.alloc (.cells #[.int .i64 k, .int .i64 c] 24)) = w1 at *
    have hz1 : w.heap.size < w1.heap.size := by omega
    clear hs1
    refine (spec_AccOk k c w1).mono ?_
    rintro e w2 ⟨rfl, hb2⟩
    rw [hok]
    have b2 : Below w.heap.size w w2 := he1.trans (hb2.mono (by omega))
    have hz2 := hb2.size
    replace a_0 := (hb2.cell (p := ⟨w.heap.size, 0, none⟩) (by simp only; omega)).trans a_0
    replace a_1 := (hb2.cell (p := ⟨w.heap.size, 1, none⟩) (by simp only; omega)).trans a_1
    go_wp2_with fail
    go_ret
    exact ⟨rfl, b2⟩
  · skip
    obtain ⟨j, rfl⟩ : ∃ j : Nat, k = (j : Int) := ⟨k.toNat, by have := accOk_iff.1 hok; omega⟩
    have hj9 : j < 9 := by have := accOk_iff.1 hok; omega
    have i0 : (0 : Int) ≤ (j : Int) := by omega
    have i1 : (j : Int) < 9 := by omega
    have hwl := accW_len j hj9
    have hxl := nTx_len c
    have hWd : accW (j : Int) = accWs.getD j [] := by rw [accW, Int.toNat_natCast]
    obtain ⟨Wd, hWe⟩ : ∃ Wd, accWs.getD j [] = Wd := ⟨_, rfl⟩
    have HT1 : Hid (accT (j : Int) c = if 0 < c then Wd ++ nTx c else Wd) := Lib.hid (by rw [accT, hok, if_pos rfl, hWd, hWe])
    have hcell := fun (w : World) (t : TypeId) => (acc_at hj9 w t).trans (by rw [hWe] : _ = some (Value.string (bstr Wd)))
    rw [hWe] at hwl
    obtain ⟨X, hX⟩ : ∃ X, nTx c = X := ⟨_, rfl⟩
    rw [hX] at hxl
    have hsz := str_size (a := Wd) (b := X) (by omega)
    rw [hX] at HT1
    have HX := Lib.hid hX
    clear hWd hWe hX hwl hxl
    by_cases hc : 0 < c
    · rw [HT1.out, if_pos hc]
      have HOK := Lib.hid hok
      clear hok
      go_enter Tryd.func26, Tryd.ntmps26
      go_wp2_with fail
      have he1 : Below w.heap.size w (w.alloc (.cells #[.int .i64 (j : Int), .int .i64 c] 24)) := below_one _ _
      have a_0 : (w.alloc (.cells #[.int .i64 (j : Int), .int .i64 c] 24)).cell? ⟨w.heap.size, 0, none⟩ = some (.int .i64 (j : Int)) := var_cell _ _ _ _ _ rfl
      have a_1 : (w.alloc (.cells #[.int .i64 (j : Int), .int .i64 c] 24)).cell? ⟨w.heap.size, 1, none⟩ = some (.int .i64 c) := var_cell _ _ _ _ _ rfl
      have hs1 : (w.alloc (.cells #[.int .i64 (j : Int), .int .i64 c] 24)).heap.size = w.heap.size + 1 := (by simp)
      generalize (w.alloc (.cells #[.int .i64 (j : Int), .int .i64 c] 24)) = w1 at *
      have hz1 : w.heap.size < w1.heap.size := by omega
      clear hs1
      refine (spec_AccOk (j : Int) c w1).mono ?_
      rintro e w2 ⟨rfl, hb2⟩
      rw [HOK.out]
      have b2 : Below w.heap.size w w2 := he1.trans (hb2.mono (by omega))
      have hz2 := hb2.size
      replace a_0 := (hb2.cell (p := ⟨w.heap.size, 0, none⟩) (by simp only; omega)).trans a_0
      replace a_1 := (hb2.cell (p := ⟨w.heap.size, 1, none⟩) (by simp only; omega)).trans a_1
      have b3 : Below w.heap.size w (w2.alloc (.cells #[.string ⟨#[]⟩, .string ⟨#[119, 97, 108, 108, 101, 116]⟩, .string ⟨#[101, 113, 117, 105, 116, 121]⟩, .string ⟨#[105, 110, 99, 111, 109, 101]⟩, .string ⟨#[114, 101, 98, 97, 108]⟩, .string ⟨#[99, 104, 97, 105, 110]⟩, .string ⟨#[108, 111, 99, 97, 108]⟩, .string ⟨#[105, 110]⟩, .string ⟨#[111, 117, 116]⟩] 9)) := b2.alloc b2.size _
      have hc3 := hcell w2 9
      replace a_0 : (w2.alloc (.cells #[.string ⟨#[]⟩, .string ⟨#[119, 97, 108, 108, 101, 116]⟩, .string ⟨#[101, 113, 117, 105, 116, 121]⟩, .string ⟨#[105, 110, 99, 111, 109, 101]⟩, .string ⟨#[114, 101, 98, 97, 108]⟩, .string ⟨#[99, 104, 97, 105, 110]⟩, .string ⟨#[108, 111, 99, 97, 108]⟩, .string ⟨#[105, 110]⟩, .string ⟨#[111, 117, 116]⟩] 9)).cell? ⟨w.heap.size, 0, none⟩ = some (.int .i64 (j : Int)) := ((below_one w2 (.cells #[.string ⟨#[]⟩, .string ⟨#[119, 97, 108, 108, 101, 116]⟩, .string ⟨#[101, 113, 117, 105, 116, 121]⟩, .string ⟨#[105, 110, 99, 111, 109, 101]⟩, .string ⟨#[114, 101, 98, 97, 108]⟩, .string ⟨#[99, 104, 97, 105, 110]⟩, .string ⟨#[108, 111, 99, 97, 108]⟩, .string ⟨#[105, 110]⟩, .string ⟨#[111, 117, 116]⟩] 9)).cell (p := ⟨w.heap.size, 0, none⟩) (by simp only; omega)).trans a_0
      replace a_1 : (w2.alloc (.cells #[.string ⟨#[]⟩, .string ⟨#[119, 97, 108, 108, 101, 116]⟩, .string ⟨#[101, 113, 117, 105, 116, 121]⟩, .string ⟨#[105, 110, 99, 111, 109, 101]⟩, .string ⟨#[114, 101, 98, 97, 108]⟩, .string ⟨#[99, 104, 97, 105, 110]⟩, .string ⟨#[108, 111, 99, 97, 108]⟩, .string ⟨#[105, 110]⟩, .string ⟨#[111, 117, 116]⟩] 9)).cell? ⟨w.heap.size, 1, none⟩ = some (.int .i64 c) := ((below_one w2 (.cells #[.string ⟨#[]⟩, .string ⟨#[119, 97, 108, 108, 101, 116]⟩, .string ⟨#[101, 113, 117, 105, 116, 121]⟩, .string ⟨#[105, 110, 99, 111, 109, 101]⟩, .string ⟨#[114, 101, 98, 97, 108]⟩, .string ⟨#[99, 104, 97, 105, 110]⟩, .string ⟨#[108, 111, 99, 97, 108]⟩, .string ⟨#[105, 110]⟩, .string ⟨#[111, 117, 116]⟩] 9)).cell (p := ⟨w.heap.size, 1, none⟩) (by simp only; omega)).trans a_1
      clear hcell
      go_wp2_with fail
      generalize (w2.alloc (.cells #[.string ⟨#[]⟩, .string ⟨#[119, 97, 108, 108, 101, 116]⟩, .string ⟨#[101, 113, 117, 105, 116, 121]⟩, .string ⟨#[105, 110, 99, 111, 109, 101]⟩, .string ⟨#[114, 101, 98, 97, 108]⟩, .string ⟨#[99, 104, 97, 105, 110]⟩, .string ⟨#[108, 111, 99, 97, 108]⟩, .string ⟨#[105, 110]⟩, .string ⟨#[111, 117, 116]⟩] 9)) = w3 at *
      refine (spec_NumText c w3).mono ?_
      rintro e w4 ⟨rfl, hb4⟩
      rw [HX.out]
      go_wp2_with fail
      go_ret
      exact ⟨congrArg (fun s => Ending.returned (Value.string s)) (bstr_app _ _), b3.trans (hb4.mono b3.size)⟩
    · rw [HT1.out, if_neg hc]
      have HOK := Lib.hid hok
      clear hok
      go_enter Tryd.func26, Tryd.ntmps26
      go_wp2_with fail
      have he1 : Below w.heap.size w (w.alloc (.cells #[.int .i64 (j : Int), .int .i64 c] 24)) := below_one _ _
      have a_0 : (w.alloc (.cells #[.int .i64 (j : Int), .int .i64 c] 24)).cell? ⟨w.heap.size, 0, none⟩ = some (.int .i64 (j : Int)) := var_cell _ _ _ _ _ rfl
      have a_1 : (w.alloc (.cells #[.int .i64 (j : Int), .int .i64 c] 24)).cell? ⟨w.heap.size, 1, none⟩ = some (.int .i64 c) := var_cell _ _ _ _ _ rfl
      have hs1 : (w.alloc (.cells #[.int .i64 (j : Int), .int .i64 c] 24)).heap.size = w.heap.size + 1 := (by simp)
      generalize (w.alloc (.cells #[.int .i64 (j : Int), .int .i64 c] 24)) = w1 at *
      have hz1 : w.heap.size < w1.heap.size := by omega
      clear hs1
      refine (spec_AccOk (j : Int) c w1).mono ?_
      rintro e w2 ⟨rfl, hb2⟩
      rw [HOK.out]
      have b2 : Below w.heap.size w w2 := he1.trans (hb2.mono (by omega))
      have hz2 := hb2.size
      replace a_0 := (hb2.cell (p := ⟨w.heap.size, 0, none⟩) (by simp only; omega)).trans a_0
      replace a_1 := (hb2.cell (p := ⟨w.heap.size, 1, none⟩) (by simp only; omega)).trans a_1
      have b3 : Below w.heap.size w (w2.alloc (.cells #[.string ⟨#[]⟩, .string ⟨#[119, 97, 108, 108, 101, 116]⟩, .string ⟨#[101, 113, 117, 105, 116, 121]⟩, .string ⟨#[105, 110, 99, 111, 109, 101]⟩, .string ⟨#[114, 101, 98, 97, 108]⟩, .string ⟨#[99, 104, 97, 105, 110]⟩, .string ⟨#[108, 111, 99, 97, 108]⟩, .string ⟨#[105, 110]⟩, .string ⟨#[111, 117, 116]⟩] 9)) := b2.alloc b2.size _
      have hc3 := hcell w2 9
      replace a_0 : (w2.alloc (.cells #[.string ⟨#[]⟩, .string ⟨#[119, 97, 108, 108, 101, 116]⟩, .string ⟨#[101, 113, 117, 105, 116, 121]⟩, .string ⟨#[105, 110, 99, 111, 109, 101]⟩, .string ⟨#[114, 101, 98, 97, 108]⟩, .string ⟨#[99, 104, 97, 105, 110]⟩, .string ⟨#[108, 111, 99, 97, 108]⟩, .string ⟨#[105, 110]⟩, .string ⟨#[111, 117, 116]⟩] 9)).cell? ⟨w.heap.size, 0, none⟩ = some (.int .i64 (j : Int)) := ((below_one w2 (.cells #[.string ⟨#[]⟩, .string ⟨#[119, 97, 108, 108, 101, 116]⟩, .string ⟨#[101, 113, 117, 105, 116, 121]⟩, .string ⟨#[105, 110, 99, 111, 109, 101]⟩, .string ⟨#[114, 101, 98, 97, 108]⟩, .string ⟨#[99, 104, 97, 105, 110]⟩, .string ⟨#[108, 111, 99, 97, 108]⟩, .string ⟨#[105, 110]⟩, .string ⟨#[111, 117, 116]⟩] 9)).cell (p := ⟨w.heap.size, 0, none⟩) (by simp only; omega)).trans a_0
      replace a_1 : (w2.alloc (.cells #[.string ⟨#[]⟩, .string ⟨#[119, 97, 108, 108, 101, 116]⟩, .string ⟨#[101, 113, 117, 105, 116, 121]⟩, .string ⟨#[105, 110, 99, 111, 109, 101]⟩, .string ⟨#[114, 101, 98, 97, 108]⟩, .string ⟨#[99, 104, 97, 105, 110]⟩, .string ⟨#[108, 111, 99, 97, 108]⟩, .string ⟨#[105, 110]⟩, .string ⟨#[111, 117, 116]⟩] 9)).cell? ⟨w.heap.size, 1, none⟩ = some (.int .i64 c) := ((below_one w2 (.cells #[.string ⟨#[]⟩, .string ⟨#[119, 97, 108, 108, 101, 116]⟩, .string ⟨#[101, 113, 117, 105, 116, 121]⟩, .string ⟨#[105, 110, 99, 111, 109, 101]⟩, .string ⟨#[114, 101, 98, 97, 108]⟩, .string ⟨#[99, 104, 97, 105, 110]⟩, .string ⟨#[108, 111, 99, 97, 108]⟩, .string ⟨#[105, 110]⟩, .string ⟨#[111, 117, 116]⟩] 9)).cell (p := ⟨w.heap.size, 1, none⟩) (by simp only; omega)).trans a_1
      clear hcell
      go_wp2_with fail
      generalize (w2.alloc (.cells #[.string ⟨#[]⟩, .string ⟨#[119, 97, 108, 108, 101, 116]⟩, .string ⟨#[101, 113, 117, 105, 116, 121]⟩, .string ⟨#[105, 110, 99, 111, 109, 101]⟩, .string ⟨#[114, 101, 98, 97, 108]⟩, .string ⟨#[99, 104, 97, 105, 110]⟩, .string ⟨#[108, 111, 99, 97, 108]⟩, .string ⟨#[105, 110]⟩, .string ⟨#[111, 117, 116]⟩] 9)) = w3 at *
      go_wp2_with fail
      go_ret
      exact ⟨rfl, b3⟩
end Go.Proofs.YtnjdmmdbminmoaaDoor
