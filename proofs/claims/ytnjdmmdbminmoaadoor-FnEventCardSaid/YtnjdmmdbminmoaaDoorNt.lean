/- NumText, in the reference: the decimal digits. -/
import Derived.Test.YtnjdmmdbminmoaaDoorTxt
import Derived.Test.YtnjdmmdbminmoaaDoorStr
import Derived.Test.YtnjdmmdbminmoaaDoorVar
import Derived.Deep.RegionHeld3
import Derived.IntWalk
namespace Go.Proofs.YtnjdmmdbminmoaaDoor
open Go.RowKit Go.Lib
theorem step_conv {P : Program} {w : World} {ops : Array Oper} {o : Oper} {a : Act} {K : Act → World → Prop} {Q : Exit → Act → World → Prop} {E : Prop} (hgd : o.guard = none) (src dst : TypeId) (x : Operand) (ho : o.op = .convert src dst x) {v u : Value} (hx : a.eval x = v) (hr : (convert src dst v).run P w = .ok u w) (h : K (a.put o.dst u) w) :
    if Region.wanted o (yielded ops a.tmps) = true then Oper.wp P o a w K Q else E := by
  have hw : Region.wanted o (yielded ops a.tmps) = true := by simp [Region.wanted, hgd]
  rw [if_pos hw]
  unfold Oper.wp execOp
  simp only [ho, hx, Sem.run_bind, Sem.run_pure, Result.andThen_ok, hr]
  exact h
theorem u8_cell {u : Nat} (h : u < 10) : Lib.byteCells [UInt8.ofNat (48 + u)] = [.int .u8 (48 + (u : Int))] := by
  simp only [Lib.byteCells, List.map_cons, List.map_nil, digit_val h]
  congr 2
theorem rd_u8 {u : Nat} (h : u < 10) (w : World) (t : TypeId) : Rd (w.alloc (.cells #[.int .u8 (48 + (u : Int))] t)) (w.heap.size + 1) 1 (some ⟨w.heap.size, 0, none⟩) 1 (Lib.byteCells [UInt8.ofNat (48 + u)]) := by
  rw [u8_cell h]
  refine ⟨by simp, .inr ⟨w.heap.size, 0, rfl, by omega, fun j v hv => ?_⟩⟩
  rw [cell_of_row _ w.heap.size _ _ _ _ (heap_alloc_new w _)]
  simpa using hv
theorem bstr_app (a b : List UInt8) : bstr a ++ bstr b = bstr (a ++ b) := by
  apply ByteArray.ext
  simp [bstr]
theorem dec_len (u : Nat) : (decDigits u).length ≤ u + 1 := by
  induction u using Nat.strongRecOn with
  | _ u ih =>
    by_cases h : u < 10
    · rw [decDigits_one h]; simp
    · rw [decDigits, dif_neg h, List.length_append]
      have := ih (u / 10) (by omega)
      simp only [List.length_cons, List.length_nil]
      omega
set_option maxHeartbeats 2000000 in
set_option maxRecDepth 100000 in
theorem spec_dec (u : Nat) : u ≤ 1125899906842624 → ∀ w : World, Calls Tryd.prog 24 #[.int .i64 (u : Int)] w fun e w' => e = .returned (.string (bstr (decDigits u))) ∧ Below w.heap.size w w' := by
  induction u using Nat.strongRecOn with
  | _ u ih =>
  intro hu w
  by_cases h : u < 10
  · rw [decDigits_one h]
    have c1 : IntKind.i64.wrap (48 + (u : Int)) = 48 + (u : Int) := IntWalk.i64_in _ (by omega)
    have c2 : IntKind.u8.wrap (48 + (u : Int)) = 48 + (u : Int) := IntWalk.u8_in _ (by omega)
    obtain ⟨d, hd⟩ : ∃ d, UInt8.ofNat (48 + u) = d := ⟨_, rfl⟩
    have hcv : ∀ w : World, (convert 22 9 (.slice (some ⟨w.heap.size, 0, none⟩) 1 1)).run Tryd.prog (w.alloc (.cells #[.int .u8 (48 + (u : Int))] 5)) = .ok (.string (bstr [d])) (w.alloc (.cells #[.int .u8 (48 + (u : Int))] 5)) := fun w => hd ▸ (rd_u8 h w 5).str 22 5 1 Tryd.underlying22 Tryd.underlying5 9 Tryd.underlying9
    rw [hd]
    clear ih hd
    go_enter Tryd.func24, Tryd.ntmps24
    go_wp2
    go_ret
    exact ⟨rfl, (Below.refl _ _).alloc (Nat.le_refl _) _⟩
  · obtain ⟨a, ha⟩ : ∃ a, u / 10 = a := ⟨_, rfl⟩
    obtain ⟨b, hbb⟩ : ∃ b, u % 10 = b := ⟨_, rfl⟩
    have hb10 : b < 10 := by omega
    have hau : a < u := by omega
    have haM : a ≤ 1125899906842624 := by omega
    have hdec : decDigits u = decDigits a ++ [UInt8.ofNat (48 + b)] := by rw [← ha, ← hbb, decDigits, dif_neg (by omega)]
    have c1 : IntKind.i64.wrap (48 + (b : Int)) = 48 + (b : Int) := IntWalk.i64_in _ (by omega)
    have c2 : IntKind.u8.wrap (48 + (b : Int)) = 48 + (b : Int) := IntWalk.u8_in _ (by omega)
    have q1 : IntKind.i64.wrap ((u : Int) / 10) = (a : Int) := by rw [IntWalk.i64_in _ (by omega)]; omega
    have q2 : (u : Int).tmod 10 = (b : Int) := (IntWalk.rem_in _ _ (by omega)).trans (by omega)
    have hsz : ¬ (9223372036854775807 < (bstr (decDigits a)).size + (bstr [UInt8.ofNat (48 + b)]).size) := by rw [bstr_size, bstr_size]; have := dec_len a; simp only [List.length_cons, List.length_nil]; omega
    have u10 : decide ((u : Int) < 10) = false := by simp; omega
    obtain ⟨d, hd⟩ : ∃ d, UInt8.ofNat (48 + b) = d := ⟨_, rfl⟩
    have hrd := fun (w : World) (t : TypeId) => hd ▸ rd_u8 hb10 w t
    rw [hd] at hdec hsz
    have HDEC := Lib.hid hdec
    have HRD := Lib.hid hrd
    clear ha hbb hdec hd hrd
    go_enter Tryd.func24, Tryd.ntmps24
    go_wp2_with fail
    refine wp_region_held_drew (S := fun w' => True) (by kernel_rfl) ?rg1 (fun hHeld => ?_)
    case rg1 => ((try dsimp only); (try trivial))
    have B0 : Below w.heap.size w w.drew := (Below.refl _ _).drew
    generalize w.drew = v0 at *
    refine wpAnyH_take (i := 0) (oi := { dst := some 22, op := Go.Op.move (Go.Operand.tmp 0), type := 3, pos := "l01_amt.go:87", after := #[], guard := none }) (v := ?v2) rfl (by kernel_rfl) (by kernel_rfl) (by kernel_rfl) (fun _ _ _ h => h) (Or.inl ⟨by rfl, ?y2⟩) (by assumption) ?_
    case y2 => (intro w hSw; (try dsimp only at hSw); go_simp; first | done | with_reducible rfl)
    try simp only [Act.put, List.setIfInBounds_toArray, List.set_cons_zero, List.set_cons_succ]
    refine wpAnyH_take (i := 1) (oi := { dst := some 23, op := Go.Op.binOp Go.BinOp.quo 3 (Go.Operand.tmp 22) (Go.Operand.const (Go.Value.int Go.IntKind.i64 10)) 3, type := 3, pos := "l01_amt.go:87", after := #[{ on := 0, ground := Go.Ground.data }], guard := none }) (v := ?v3) rfl (by kernel_rfl) (by kernel_rfl) (by kernel_rfl) (fun _ _ _ h => h) (Or.inl ⟨by rfl, ?y3⟩) (by assumption) ?_
    case y3 => (intro w hSw; (try dsimp only at hSw); go_simp; first | done | with_reducible rfl)
    try simp only [Act.put, List.setIfInBounds_toArray, List.set_cons_zero, List.set_cons_succ]
    refine wpAnyH_take (i := 3) (oi := { dst := some 25, op := Go.Op.move (Go.Operand.tmp 0), type := 3, pos := "l01_amt.go:87", after := #[], guard := none }) (v := ?v4) rfl (by kernel_rfl) (by kernel_rfl) (by kernel_rfl) (fun _ _ _ h => h) (Or.inl ⟨by rfl, ?y4⟩) (by assumption) ?_
    case y4 => (intro w hSw; (try dsimp only at hSw); go_simp; first | done | with_reducible rfl)
    try simp only [Act.put, List.setIfInBounds_toArray, List.set_cons_zero, List.set_cons_succ]
    refine wpAnyH_take (i := 4) (oi := { dst := some 26, op := Go.Op.binOp Go.BinOp.rem 3 (Go.Operand.tmp 25) (Go.Operand.const (Go.Value.int Go.IntKind.i64 10)) 3, type := 3, pos := "l01_amt.go:87", after := #[{ on := 3, ground := Go.Ground.data }], guard := none }) (v := ?v5) rfl (by kernel_rfl) (by kernel_rfl) (by kernel_rfl) (fun _ _ _ h => h) (Or.inl ⟨by rfl, ?y5⟩) (by assumption) ?_
    case y5 => (intro w hSw; (try dsimp only at hSw); go_simp; first | done | with_reducible rfl)
    try simp only [Act.put, List.setIfInBounds_toArray, List.set_cons_zero, List.set_cons_succ]
    refine wpAnyH_take (i := 5) (oi := { dst := some 27, op := Go.Op.binOp Go.BinOp.add 3 (Go.Operand.const (Go.Value.int Go.IntKind.i64 48)) (Go.Operand.tmp 26) 3, type := 3, pos := "l01_amt.go:87", after := #[{ on := 4, ground := Go.Ground.data }], guard := none }) (v := ?v6) rfl (by kernel_rfl) (by kernel_rfl) (by kernel_rfl) (fun _ _ _ h => h) (Or.inl ⟨by rfl, ?y6⟩) (by assumption) ?_
    case y6 => (intro w hSw; (try dsimp only at hSw); go_simp; first | done | with_reducible rfl)
    try simp only [Act.put, List.setIfInBounds_toArray, List.set_cons_zero, List.set_cons_succ]
    refine wpAnyH_take (i := 6) (oi := { dst := some 28, op := Go.Op.convert 3 5 (Go.Operand.tmp 27), type := 5, pos := "l01_amt.go:87", after := #[{ on := 5, ground := Go.Ground.data }], guard := none }) (v := ?v7) rfl (by kernel_rfl) (by kernel_rfl) (by kernel_rfl) (fun _ _ _ h => h) (Or.inl ⟨by rfl, ?y7⟩) (by assumption) ?_
    case y7 => (intro w hSw; (try dsimp only at hSw); go_simp; first | done | with_reducible rfl)
    try simp only [Act.put, List.setIfInBounds_toArray, List.set_cons_zero, List.set_cons_succ]
    refine wpAnyH_ready (rs := [2, 7]) (by kernel_rfl) (by simp) ?_
    refine AllReadyH.cons (o := { dst := some 24, op := Go.Op.call { callee := Go.Callee.value (Go.Operand.func 24), args := #[Go.Operand.tmp 23], argTypes := #[3] }, type := 9, pos := "l01_amt.go:87", after := #[{ on := 1, ground := Go.Ground.data }], guard := none }) rfl (fun K hK => ?k8) ?m8
    case k8 =>
      go_simp
      go_at_call 24
      refine (ih a hau haM v0).mono ?_
      rintro e v1 ⟨rfl, hb⟩
      have hz1 : v0.heap.size ≤ v1.heap.size := hb.size
      have B1 : Below w.heap.size w v1 := B0.trans (hb.mono B0.size)
      refine hK.out _ _ ?s8 (fun hHeld => ?_)
      case s8 => ((try dsimp only); (try trivial))
      clear hK K
      try simp only [Act.put, List.setIfInBounds_toArray, List.set_cons_zero, List.set_cons_succ]
      refine wpAnyH_ready (rs := [7]) (by kernel_rfl) (by simp) ?_
      refine AllReadyH.cons (o := { dst := some 29, op := Go.Op.buildSlice 22 1 #[(0, Go.Operand.tmp 28)], type := 22, pos := "l01_amt.go:87", after := #[{ on := 6, ground := Go.Ground.data }], guard := none }) rfl (fun K hK => ?k9) AllReadyH.nil
      go_simp
      have hr := HRD.out v1 5
      have hs : (v1.alloc (.cells #[.int .u8 (48 + (b : Int))] 5)).heap.size = v1.heap.size + 1 := by simp
      have B2 : Below w.heap.size w (v1.alloc (.cells #[.int .u8 (48 + (b : Int))] 5)) := B1.alloc B1.size _
      generalize (v1.alloc (.cells #[.int .u8 (48 + (b : Int))] 5)) = v2 at *
      replace hr : Rd v2 v2.heap.size 1 (some ⟨v1.heap.size, 0, none⟩) 1 _ := hs ▸ hr
      obtain ⟨q, hq⟩ : ∃ q, q = v1.heap.size := ⟨_, rfl⟩
      rw [← hq] at hr ⊢
      clear hs hq
      refine hK.out _ _ ?s9 (fun hHeld => ?_)
      case s9 => ((try dsimp only); (try trivial))
      clear hK K
      try simp only [Act.put, List.setIfInBounds_toArray, List.set_cons_zero, List.set_cons_succ]
      refine wpAnyH_ready (rs := [8]) (by kernel_rfl) (by simp) ?_
      refine AllReadyH.cons (o := { dst := some 30, op := Go.Op.convert 22 9 (Go.Operand.tmp 29), type := 9, pos := "l01_amt.go:87", after := #[{ on := 7, ground := Go.Ground.data }], guard := none }) rfl (fun K hK => ?k10) AllReadyH.nil
      refine step_conv (by rfl) _ _ _ (by rfl) (by rfl) (hr.str 22 5 _ Tryd.underlying22 Tryd.underlying5 9 Tryd.underlying9) ?_
      have B3 := B2
      generalize v2 = v3 at *
      refine hK.out _ _ ?s10 (fun hHeld => ?_)
      case s10 => ((try dsimp only); (try trivial))
      clear hK K
      try simp only [Act.put, List.setIfInBounds_toArray, List.set_cons_zero, List.set_cons_succ]
      refine wpAnyH_take (i := 9) (oi := { dst := some 31, op := Go.Op.binOp Go.BinOp.add 9 (Go.Operand.tmp 24) (Go.Operand.tmp 30) 9, type := 9, pos := "l01_amt.go:87", after := #[{ on := 2, ground := Go.Ground.data }, { on := 8, ground := Go.Ground.data }], guard := none }) (v := ?v11) rfl (by kernel_rfl) (by kernel_rfl) (by kernel_rfl) (fun _ _ _ h => h) (Or.inl ⟨by rfl, ?y11⟩) (by assumption) ?_
      case y11 => (intro w hSw; (try dsimp only at hSw); go_simp; first | done | with_reducible rfl)
      try simp only [Act.put, List.setIfInBounds_toArray, List.set_cons_zero, List.set_cons_succ]
      refine wpAnyH_take (i := 10) (oi := { dst := some 2, op := Go.Op.assign (Go.Operand.tmp 31), type := 9, pos := "l01_amt.go:87", after := #[{ on := 9, ground := Go.Ground.data }, { on := 2, ground := Go.Ground.chain }, { on := 0, ground := Go.Ground.phase }, { on := 1, ground := Go.Ground.phase }, { on := 2, ground := Go.Ground.phase }, { on := 3, ground := Go.Ground.phase }, { on := 4, ground := Go.Ground.phase }, { on := 5, ground := Go.Ground.phase }, { on := 6, ground := Go.Ground.phase }, { on := 7, ground := Go.Ground.phase }, { on := 8, ground := Go.Ground.phase }, { on := 9, ground := Go.Ground.phase }], guard := none }) (v := ?v12) rfl (by kernel_rfl) (by kernel_rfl) (by kernel_rfl) (fun _ _ _ h => h) (Or.inl ⟨by rfl, ?y12⟩) (by assumption) ?_
      case y12 => (intro w hSw; (try dsimp only at hSw); go_simp; first | done | with_reducible rfl)
      try simp only [Act.put, List.setIfInBounds_toArray, List.set_cons_zero, List.set_cons_succ]
      refine wpAnyH_done (by kernel_rfl) ?_ _
      go_wp2_with fail
      go_ret
      exact ⟨by rw [HDEC.out]; exact congrArg (fun s => Ending.returned (Value.string s)) (bstr_app _ _), B3⟩
    case m8 =>
      refine AllReadyH.cons (o := { dst := some 29, op := Go.Op.buildSlice 22 1 #[(0, Go.Operand.tmp 28)], type := 22, pos := "l01_amt.go:87", after := #[{ on := 6, ground := Go.Ground.data }], guard := none }) rfl (fun K hK => ?k13) AllReadyH.nil
      case k13 =>
        go_simp
        have hr := HRD.out v0 5
        have hs : (v0.alloc (.cells #[.int .u8 (48 + (b : Int))] 5)).heap.size = v0.heap.size + 1 := by simp
        have B1 : Below w.heap.size w (v0.alloc (.cells #[.int .u8 (48 + (b : Int))] 5)) := B0.alloc B0.size _
        generalize (v0.alloc (.cells #[.int .u8 (48 + (b : Int))] 5)) = v1 at *
        replace hr : Rd v1 v1.heap.size 1 (some ⟨v0.heap.size, 0, none⟩) 1 _ := hs ▸ hr
        obtain ⟨q, hq⟩ : ∃ q, q = v0.heap.size := ⟨_, rfl⟩
        rw [← hq] at hr ⊢
        clear hs hq
        refine hK.out _ _ ?s13 (fun hHeld => ?_)
        case s13 => ((try dsimp only); (try trivial))
        clear hK K
        try simp only [Act.put, List.setIfInBounds_toArray, List.set_cons_zero, List.set_cons_succ]
        refine wpAnyH_ready (rs := [2, 8]) (by kernel_rfl) (by simp) ?_
        refine AllReadyH.cons (o := { dst := some 24, op := Go.Op.call { callee := Go.Callee.value (Go.Operand.func 24), args := #[Go.Operand.tmp 23], argTypes := #[3] }, type := 9, pos := "l01_amt.go:87", after := #[{ on := 1, ground := Go.Ground.data }], guard := none }) rfl (fun K hK => ?k14) ?m14
        case k14 =>
          go_simp
          go_at_call 24
          refine (ih a hau haM v1).mono ?_
          rintro e v2 ⟨rfl, hb⟩
          have hz2 : v1.heap.size ≤ v2.heap.size := hb.size
          have B2 : Below w.heap.size w v2 := B1.trans (hb.mono B1.size)
          replace hr := hr.below hb (by omega)
          refine hK.out _ _ ?s14 (fun hHeld => ?_)
          case s14 => ((try dsimp only); (try trivial))
          clear hK K
          try simp only [Act.put, List.setIfInBounds_toArray, List.set_cons_zero, List.set_cons_succ]
          refine wpAnyH_ready (rs := [8]) (by kernel_rfl) (by simp) ?_
          refine AllReadyH.cons (o := { dst := some 30, op := Go.Op.convert 22 9 (Go.Operand.tmp 29), type := 9, pos := "l01_amt.go:87", after := #[{ on := 7, ground := Go.Ground.data }], guard := none }) rfl (fun K hK => ?k15) AllReadyH.nil
          refine step_conv (by rfl) _ _ _ (by rfl) (by rfl) (hr.str 22 5 _ Tryd.underlying22 Tryd.underlying5 9 Tryd.underlying9) ?_
          have B3 := B2
          generalize v2 = v3 at *
          refine hK.out _ _ ?s15 (fun hHeld => ?_)
          case s15 => ((try dsimp only); (try trivial))
          clear hK K
          try simp only [Act.put, List.setIfInBounds_toArray, List.set_cons_zero, List.set_cons_succ]
          refine wpAnyH_take (i := 9) (oi := { dst := some 31, op := Go.Op.binOp Go.BinOp.add 9 (Go.Operand.tmp 24) (Go.Operand.tmp 30) 9, type := 9, pos := "l01_amt.go:87", after := #[{ on := 2, ground := Go.Ground.data }, { on := 8, ground := Go.Ground.data }], guard := none }) (v := ?v16) rfl (by kernel_rfl) (by kernel_rfl) (by kernel_rfl) (fun _ _ _ h => h) (Or.inl ⟨by rfl, ?y16⟩) (by assumption) ?_
          case y16 => (intro w hSw; (try dsimp only at hSw); go_simp; first | done | with_reducible rfl)
          try simp only [Act.put, List.setIfInBounds_toArray, List.set_cons_zero, List.set_cons_succ]
          refine wpAnyH_take (i := 10) (oi := { dst := some 2, op := Go.Op.assign (Go.Operand.tmp 31), type := 9, pos := "l01_amt.go:87", after := #[{ on := 9, ground := Go.Ground.data }, { on := 2, ground := Go.Ground.chain }, { on := 0, ground := Go.Ground.phase }, { on := 1, ground := Go.Ground.phase }, { on := 2, ground := Go.Ground.phase }, { on := 3, ground := Go.Ground.phase }, { on := 4, ground := Go.Ground.phase }, { on := 5, ground := Go.Ground.phase }, { on := 6, ground := Go.Ground.phase }, { on := 7, ground := Go.Ground.phase }, { on := 8, ground := Go.Ground.phase }, { on := 9, ground := Go.Ground.phase }], guard := none }) (v := ?v17) rfl (by kernel_rfl) (by kernel_rfl) (by kernel_rfl) (fun _ _ _ h => h) (Or.inl ⟨by rfl, ?y17⟩) (by assumption) ?_
          case y17 => (intro w hSw; (try dsimp only at hSw); go_simp; first | done | with_reducible rfl)
          try simp only [Act.put, List.setIfInBounds_toArray, List.set_cons_zero, List.set_cons_succ]
          refine wpAnyH_done (by kernel_rfl) ?_ _
          go_wp2_with fail
          go_ret
          exact ⟨by rw [HDEC.out]; exact congrArg (fun s => Ending.returned (Value.string s)) (bstr_app _ _), B3⟩
        case m14 =>
          refine AllReadyH.cons (o := { dst := some 30, op := Go.Op.convert 22 9 (Go.Operand.tmp 29), type := 9, pos := "l01_amt.go:87", after := #[{ on := 7, ground := Go.Ground.data }], guard := none }) rfl (fun K hK => ?k18) AllReadyH.nil
          case k18 =>
            refine step_conv (by rfl) _ _ _ (by rfl) (by rfl) (hr.str 22 5 _ Tryd.underlying22 Tryd.underlying5 9 Tryd.underlying9) ?_
            have B2 := B1
            generalize v1 = v2 at *
            refine hK.out _ _ ?s18 (fun hHeld => ?_)
            case s18 => ((try dsimp only); (try trivial))
            clear hK K
            try simp only [Act.put, List.setIfInBounds_toArray, List.set_cons_zero, List.set_cons_succ]
            refine wpAnyH_ready (rs := [2]) (by kernel_rfl) (by simp) ?_
            refine AllReadyH.cons (o := { dst := some 24, op := Go.Op.call { callee := Go.Callee.value (Go.Operand.func 24), args := #[Go.Operand.tmp 23], argTypes := #[3] }, type := 9, pos := "l01_amt.go:87", after := #[{ on := 1, ground := Go.Ground.data }], guard := none }) rfl (fun K hK => ?k19) AllReadyH.nil
            go_simp
            go_at_call 24
            refine (ih a hau haM v2).mono ?_
            rintro e v3 ⟨rfl, hb⟩
            have hz3 : v2.heap.size ≤ v3.heap.size := hb.size
            have B3 : Below w.heap.size w v3 := B2.trans (hb.mono B2.size)
            refine hK.out _ _ ?s19 (fun hHeld => ?_)
            case s19 => ((try dsimp only); (try trivial))
            clear hK K
            try simp only [Act.put, List.setIfInBounds_toArray, List.set_cons_zero, List.set_cons_succ]
            refine wpAnyH_take (i := 9) (oi := { dst := some 31, op := Go.Op.binOp Go.BinOp.add 9 (Go.Operand.tmp 24) (Go.Operand.tmp 30) 9, type := 9, pos := "l01_amt.go:87", after := #[{ on := 2, ground := Go.Ground.data }, { on := 8, ground := Go.Ground.data }], guard := none }) (v := ?v20) rfl (by kernel_rfl) (by kernel_rfl) (by kernel_rfl) (fun _ _ _ h => h) (Or.inl ⟨by rfl, ?y20⟩) (by assumption) ?_
            case y20 => (intro w hSw; (try dsimp only at hSw); go_simp; first | done | with_reducible rfl)
            try simp only [Act.put, List.setIfInBounds_toArray, List.set_cons_zero, List.set_cons_succ]
            refine wpAnyH_take (i := 10) (oi := { dst := some 2, op := Go.Op.assign (Go.Operand.tmp 31), type := 9, pos := "l01_amt.go:87", after := #[{ on := 9, ground := Go.Ground.data }, { on := 2, ground := Go.Ground.chain }, { on := 0, ground := Go.Ground.phase }, { on := 1, ground := Go.Ground.phase }, { on := 2, ground := Go.Ground.phase }, { on := 3, ground := Go.Ground.phase }, { on := 4, ground := Go.Ground.phase }, { on := 5, ground := Go.Ground.phase }, { on := 6, ground := Go.Ground.phase }, { on := 7, ground := Go.Ground.phase }, { on := 8, ground := Go.Ground.phase }, { on := 9, ground := Go.Ground.phase }], guard := none }) (v := ?v21) rfl (by kernel_rfl) (by kernel_rfl) (by kernel_rfl) (fun _ _ _ h => h) (Or.inl ⟨by rfl, ?y21⟩) (by assumption) ?_
            case y21 => (intro w hSw; (try dsimp only at hSw); go_simp; first | done | with_reducible rfl)
            try simp only [Act.put, List.setIfInBounds_toArray, List.set_cons_zero, List.set_cons_succ]
            refine wpAnyH_done (by kernel_rfl) ?_ _
            go_wp2_with fail
            go_ret
            exact ⟨by rw [HDEC.out]; exact congrArg (fun s => Ending.returned (Value.string s)) (bstr_app _ _), B3⟩
end Go.Proofs.YtnjdmmdbminmoaaDoor
