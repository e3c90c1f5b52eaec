/- EventText of the reference. -/
import Derived.Test.YtnjdmmdbminmoaaDoorEt
import Derived.Test.YtnjdmmdbminmoaaDoorEvS
namespace Go.Proofs.YtnjdmmdbminmoaaDoor
open Go.RowKit
theorem ev_words (w : World) : Calls Tryd.prog 44 #[] w fun e w' => e = .returned (.slice (some ⟨w.heap.size, 0, none⟩) 12 12) ∧ w' = w.alloc (.cells #[.string ⟨#[]⟩, .string ⟨#[100, 101, 112, 111, 115, 105, 116]⟩, .string ⟨#[111, 112, 101, 110]⟩, .string ⟨#[99, 108, 111, 115, 101]⟩, .string ⟨#[112, 114, 105, 99, 101]⟩, .string ⟨#[97, 100, 109, 105, 116]⟩, .string ⟨#[102, 117, 108, 102, 105, 108, 108]⟩, .string ⟨#[102, 97, 105, 108]⟩, .string ⟨#[116, 105, 99, 107]⟩, .string ⟨#[108, 97, 117, 110, 99, 104]⟩, .string ⟨#[97, 114, 114, 105, 118, 101]⟩, .string ⟨#[108, 111, 115, 116]⟩] 9) := by
  go_enter Tryd.func44, Tryd.ntmps44
  go_wp2
  go_ret
  exact ⟨rfl, rfl⟩
/-- Has a kind field i? -/
def hasB (k : Int) (i : Nat) : Bool := match i with | 0 => (evH k).1 | 1 => (evH k).2.1 | 2 => (evH k).2.2.1 | 3 => (evH k).2.2.2.1 | 4 => (evH k).2.2.2.2.1 | _ => (evH k).2.2.2.2.2
def valI (key ch to amt fee : Int) (i : Nat) : Int := match i with | 0 => key | 1 => ch | 2 => to | 3 => amt | _ => fee
/-- What stands behind the first i fields. -/
def outS (Wd : List UInt8) (k key ch to amt fee : Int) : Nat → List UInt8
  | 0 => Wd
  | i + 1 => outS Wd k key ch to amt fee i ++ (if hasB k i then 32 :: nTx (valI key ch to amt fee i) else [])
theorem evT_out {k key ch to amt fee : Int} {y : Bool} (h1 : 1 ≤ k) (h2 : k ≤ 11) (hok : evOk k key ch to amt fee y = true) :
    evT k key ch to amt fee y = outS (evW k) k key ch to amt fee 5 ++ (if k = 5 then (if y then 32 :: yesW else 32 :: noW) else []) := by
  rw [evT_yes hok]
  clear hok
  rcases ev_cases h1 h2 with rfl | rfl | rfl | rfl | rfl | rfl | rfl | rfl | rfl | rfl | rfl <;> (first | (cases y <;> simp [outS, hasB, evH, evL, evNums, ynL, valI, Lib.join_cons, Lib.joinTail, yesW, noW]; done) | (simp [outS, hasB, evH, evL, evNums, ynL, valI, Lib.join_cons, Lib.joinTail]; done))
theorem has5 {k : Int} (h1 : 1 ≤ k) (h2 : k ≤ 11) : (evH k).2.2.2.2.2 = decide (k = 5) := by
  rcases ev_cases h1 h2 with rfl | rfl | rfl | rfl | rfl | rfl | rfl | rfl | rfl | rfl | rfl <;> rfl
theorem str_sizeE {a b : List UInt8} (h : a.length + b.length ≤ 9223372036854775807) : ¬ (9223372036854775807 < (bstr a).size + (bstr b).size) := by rw [bstr_size, bstr_size]; omega
set_option maxHeartbeats 4000000 in
set_option maxRecDepth 100000 in
theorem spec_EventText (k key ch to amt fee : Int) (y : Bool) (W : World) : Calls Tryd.prog 34 #[.agg #[.int .i64 k, .int .i64 key, .int .i64 ch, .int .i64 to, .int .i64 amt, .int .i64 fee, .bool y]] W fun e w' => e = .returned (.string (bstr (evT k key ch to amt fee y))) ∧ Below W.heap.size W w' := by
  rcases hok : evOk k key ch to amt fee y with _ | _
  · rw [evT_no hok, bstr_nil]
    have HOK := Lib.hid hok
    clear hok
    go_enter Tryd.func34, Tryd.ntmps34
    go_wp2_with fail
    have he1 : Eff 0 0 W (W.alloc (.cells #[.int .i64 k, .int .i64 key, .int .i64 ch, .int .i64 to, .int .i64 amt, .int .i64 fee, .bool y] 32)) := Eff.alloc _ _
    have hs1 : (W.alloc (.cells #[.int .i64 k, .int .i64 key, .int .i64 ch, .int .i64 to, .int .i64 amt, .int .i64 fee, .bool y] 32)).heap.size = W.heap.size + 1 := (by simp)
    have e_0 : (W.alloc (.cells #[.int .i64 k, .int .i64 key, .int .i64 ch, .int .i64 to, .int .i64 amt, .int .i64 fee, .bool y] 32)).cell? ⟨W.heap.size, 0, none⟩ = some (.int .i64 k) := var_cell _ _ _ _ _ rfl
    have e_1 : (W.alloc (.cells #[.int .i64 k, .int .i64 key, .int .i64 ch, .int .i64 to, .int .i64 amt, .int .i64 fee, .bool y] 32)).cell? ⟨W.heap.size, 1, none⟩ = some (.int .i64 key) := var_cell _ _ _ _ _ rfl
    have e_2 : (W.alloc (.cells #[.int .i64 k, .int .i64 key, .int .i64 ch, .int .i64 to, .int .i64 amt, .int .i64 fee, .bool y] 32)).cell? ⟨W.heap.size, 2, none⟩ = some (.int .i64 ch) := var_cell _ _ _ _ _ rfl
    have e_3 : (W.alloc (.cells #[.int .i64 k, .int .i64 key, .int .i64 ch, .int .i64 to, .int .i64 amt, .int .i64 fee, .bool y] 32)).cell? ⟨W.heap.size, 3, none⟩ = some (.int .i64 to) := var_cell _ _ _ _ _ rfl
    have e_4 : (W.alloc (.cells #[.int .i64 k, .int .i64 key, .int .i64 ch, .int .i64 to, .int .i64 amt, .int .i64 fee, .bool y] 32)).cell? ⟨W.heap.size, 4, none⟩ = some (.int .i64 amt) := var_cell _ _ _ _ _ rfl
    have e_5 : (W.alloc (.cells #[.int .i64 k, .int .i64 key, .int .i64 ch, .int .i64 to, .int .i64 amt, .int .i64 fee, .bool y] 32)).cell? ⟨W.heap.size, 5, none⟩ = some (.int .i64 fee) := var_cell _ _ _ _ _ rfl
    have e_6 : (W.alloc (.cells #[.int .i64 k, .int .i64 key, .int .i64 ch, .int .i64 to, .int .i64 amt, .int .i64 fee, .bool y] 32)).cell? ⟨W.heap.size, 6, none⟩ = some (.bool y) := var_cell _ _ _ _ _ rfl
    generalize (W.alloc (.cells #[.int .i64 k, .int .i64 key, .int .i64 ch, .int .i64 to, .int .i64 amt, .int .i64 fee, .bool y] 32)) = w1 at *
    have hz1 : W.heap.size ≤ w1.heap.size := he1.size
    have b1 : Below W.heap.size W w1 := he1.below (Nat.le_refl _) (by omega)
    have e_l : W.heap.size < w1.heap.size := (by omega)
    refine (spec_EventOk k key ch to amt fee y w1).mono ?_
    rintro e w2 ⟨rfl, hb⟩
    have he2 : Eff 0 0 w1 w2 := Eff.of hb
    have hz2 : w1.heap.size ≤ w2.heap.size := he2.size
    have b2 : Below W.heap.size W w2 := b1.trans (he2.below b1.size (by omega))
    replace e_0 := he2.cell e_0 (by simp only; omega)
    replace e_1 := he2.cell e_1 (by simp only; omega)
    replace e_2 := he2.cell e_2 (by simp only; omega)
    replace e_3 := he2.cell e_3 (by simp only; omega)
    replace e_4 := he2.cell e_4 (by simp only; omega)
    replace e_5 := he2.cell e_5 (by simp only; omega)
    replace e_6 := he2.cell e_6 (by simp only; omega)
    replace e_l := Nat.lt_of_lt_of_le e_l hz2
    clear hb
    rw [HOK.out]
    go_wp2_with fail
    go_ret
    exact ⟨rfl, b2⟩
  · skip
    obtain ⟨hk1, hk11⟩ := ok_kind hok
    obtain ⟨j, rfl⟩ : ∃ j : Nat, k = (j : Int) := ⟨k.toNat, by omega⟩
    have hj12 : j < 12 := by omega
    have q0 : (0 : Int) ≤ (j : Int) := by omega
    have q1 : (j : Int) < 12 := by omega
    have hT1 := evT_out hk1 hk11 hok
    have h5 := has5 hk1 hk11
    obtain ⟨Wd, hWe⟩ : ∃ Wd, evWs.getD j [] = Wd := ⟨_, rfl⟩
    have hWk : evW (j : Int) = Wd := by rw [evW, Int.toNat_natCast, hWe]
    rw [hWk] at hT1
    have hWl : Wd.length ≤ 7 := by rw [← hWe]; exact evW_len hj12
    have hcell := fun (w : World) (t : TypeId) => (ev_at hj12 w t).trans (by rw [hWe] : _ = some (Value.string (bstr Wd)))
    have HCELL := Lib.hid hcell
    have HT1 := Lib.hid hT1
    have HOK := Lib.hid hok
    have H5 := Lib.hid h5
    clear hok hWe hWk hcell hT1 h5
    go_enter Tryd.func34, Tryd.ntmps34
    go_wp2_with fail
    have he1 : Eff 0 0 W (W.alloc (.cells #[.int .i64 (j : Int), .int .i64 key, .int .i64 ch, .int .i64 to, .int .i64 amt, .int .i64 fee, .bool y] 32)) := Eff.alloc _ _
    have hs1 : (W.alloc (.cells #[.int .i64 (j : Int), .int .i64 key, .int .i64 ch, .int .i64 to, .int .i64 amt, .int .i64 fee, .bool y] 32)).heap.size = W.heap.size + 1 := (by simp)
    have e_0 : (W.alloc (.cells #[.int .i64 (j : Int), .int .i64 key, .int .i64 ch, .int .i64 to, .int .i64 amt, .int .i64 fee, .bool y] 32)).cell? ⟨W.heap.size, 0, none⟩ = some (.int .i64 (j : Int)) := var_cell _ _ _ _ _ rfl
    have e_1 : (W.alloc (.cells #[.int .i64 (j : Int), .int .i64 key, .int .i64 ch, .int .i64 to, .int .i64 amt, .int .i64 fee, .bool y] 32)).cell? ⟨W.heap.size, 1, none⟩ = some (.int .i64 key) := var_cell _ _ _ _ _ rfl
    have e_2 : (W.alloc (.cells #[.int .i64 (j : Int), .int .i64 key, .int .i64 ch, .int .i64 to, .int .i64 amt, .int .i64 fee, .bool y] 32)).cell? ⟨W.heap.size, 2, none⟩ = some (.int .i64 ch) := var_cell _ _ _ _ _ rfl
    have e_3 : (W.alloc (.cells #[.int .i64 (j : Int), .int .i64 key, .int .i64 ch, .int .i64 to, .int .i64 amt, .int .i64 fee, .bool y] 32)).cell? ⟨W.heap.size, 3, none⟩ = some (.int .i64 to) := var_cell _ _ _ _ _ rfl
    have e_4 : (W.alloc (.cells #[.int .i64 (j : Int), .int .i64 key, .int .i64 ch, .int .i64 to, .int .i64 amt, .int .i64 fee, .bool y] 32)).cell? ⟨W.heap.size, 4, none⟩ = some (.int .i64 amt) := var_cell _ _ _ _ _ rfl
    have e_5 : (W.alloc (.cells #[.int .i64 (j : Int), .int .i64 key, .int .i64 ch, .int .i64 to, .int .i64 amt, .int .i64 fee, .bool y] 32)).cell? ⟨W.heap.size, 5, none⟩ = some (.int .i64 fee) := var_cell _ _ _ _ _ rfl
    have e_6 : (W.alloc (.cells #[.int .i64 (j : Int), .int .i64 key, .int .i64 ch, .int .i64 to, .int .i64 amt, .int .i64 fee, .bool y] 32)).cell? ⟨W.heap.size, 6, none⟩ = some (.bool y) := var_cell _ _ _ _ _ rfl
    generalize (W.alloc (.cells #[.int .i64 (j : Int), .int .i64 key, .int .i64 ch, .int .i64 to, .int .i64 amt, .int .i64 fee, .bool y] 32)) = w1 at *
    have hz1 : W.heap.size ≤ w1.heap.size := he1.size
    have b1 : Below W.heap.size W w1 := he1.below (Nat.le_refl _) (by omega)
    have e_l : W.heap.size < w1.heap.size := (by omega)
    refine (spec_EventOk (j : Int) key ch to amt fee y w1).mono ?_
    rintro e w2 ⟨rfl, hb⟩
    have he2 : Eff 0 0 w1 w2 := Eff.of hb
    have hz2 : w1.heap.size ≤ w2.heap.size := he2.size
    have b2 : Below W.heap.size W w2 := b1.trans (he2.below b1.size (by omega))
    replace e_0 := he2.cell e_0 (by simp only; omega)
    replace e_1 := he2.cell e_1 (by simp only; omega)
    replace e_2 := he2.cell e_2 (by simp only; omega)
    replace e_3 := he2.cell e_3 (by simp only; omega)
    replace e_4 := he2.cell e_4 (by simp only; omega)
    replace e_5 := he2.cell e_5 (by simp only; omega)
    replace e_6 := he2.cell e_6 (by simp only; omega)
    replace e_l := Nat.lt_of_lt_of_le e_l hz2
    clear hb
    rw [HOK.out]
    go_wp2_with fail
    have he3 : Eff 0 0 w2 w2.drew := (Eff.refl _ _ _).drew
    have hz3 : w2.heap.size ≤ w2.drew.heap.size := he3.size
    have b3 : Below W.heap.size W w2.drew := b2.trans (he3.below b2.size (by omega))
    replace e_0 := he3.cell e_0 (by simp only; omega)
    replace e_1 := he3.cell e_1 (by simp only; omega)
    replace e_2 := he3.cell e_2 (by simp only; omega)
    replace e_3 := he3.cell e_3 (by simp only; omega)
    replace e_4 := he3.cell e_4 (by simp only; omega)
    replace e_5 := he3.cell e_5 (by simp only; omega)
    replace e_6 := he3.cell e_6 (by simp only; omega)
    replace e_l := Nat.lt_of_lt_of_le e_l hz3
    refine wp_region_held_drew (S := fun w' => w'.cell? ⟨W.heap.size, 0, none⟩ = some (.int .i64 (j : Int))) (by kernel_rfl) ?rg1 (fun hHeld => ?_)
    case rg1 => ((try dsimp only); (first | with_reducible assumption))
    generalize w2.drew = v0 at *
    refine wpAnyH_take (i := 1) (oi := { dst := some 11, op := Go.Op.fieldAddr 32 (Go.Operand.tmp 1) 0, type := 0, pos := "l04_event.go:92", after := #[], guard := none }) (v := ?v2) rfl (by kernel_rfl) (by kernel_rfl) (by kernel_rfl) (fun _ _ _ h => h) (Or.inl ⟨by rfl, ?y2⟩) (by assumption) ?_
    case y2 => (intro w hSw; (try dsimp only at hSw); go_simp; first | done | with_reducible rfl)
    try simp only [Act.put, List.setIfInBounds_toArray, List.set_cons_zero, List.set_cons_succ]
    refine wpAnyH_take (i := 2) (oi := { dst := some 12, op := Go.Op.load 3 (Go.Operand.tmp 11), type := 3, pos := "l04_event.go:92", after := #[{ on := 1, ground := Go.Ground.data }], guard := none }) (v := ?v3) rfl (by kernel_rfl) (by kernel_rfl) (by kernel_rfl) (fun _ _ _ h => h) (Or.inl ⟨by rfl, ?y3⟩) (by assumption) ?_
    case y3 => (intro w hSw; (try dsimp only at hSw); go_simp; first | done | with_reducible rfl)
    try simp only [Act.put, List.setIfInBounds_toArray, List.set_cons_zero, List.set_cons_succ]
    refine wpAnyH_ready (rs := [0]) (by kernel_rfl) (by simp) ?_
    refine AllReadyH.cons (o := { dst := some 10, op := Go.Op.call { callee := Go.Callee.value (Go.Operand.func 44), args := #[], argTypes := #[] }, type := 61, pos := "l04_event.go:92", after := #[], guard := none }) rfl (fun K hK => ?k4) AllReadyH.nil
    go_simp
    go_at_call 44
    refine (ev_words v0).mono ?_
    rintro e wx ⟨rfl, hwx⟩
    subst hwx
    have he4 : Eff 0 0 v0 (v0.alloc (.cells #[.string ⟨#[]⟩, .string ⟨#[100, 101, 112, 111, 115, 105, 116]⟩, .string ⟨#[111, 112, 101, 110]⟩, .string ⟨#[99, 108, 111, 115, 101]⟩, .string ⟨#[112, 114, 105, 99, 101]⟩, .string ⟨#[97, 100, 109, 105, 116]⟩, .string ⟨#[102, 117, 108, 102, 105, 108, 108]⟩, .string ⟨#[102, 97, 105, 108]⟩, .string ⟨#[116, 105, 99, 107]⟩, .string ⟨#[108, 97, 117, 110, 99, 104]⟩, .string ⟨#[97, 114, 114, 105, 118, 101]⟩, .string ⟨#[108, 111, 115, 116]⟩] 9)) := Eff.alloc _ _
    have hc3 := HCELL.out v0 9
    have hs4 : (v0.alloc (.cells #[.string ⟨#[]⟩, .string ⟨#[100, 101, 112, 111, 115, 105, 116]⟩, .string ⟨#[111, 112, 101, 110]⟩, .string ⟨#[99, 108, 111, 115, 101]⟩, .string ⟨#[112, 114, 105, 99, 101]⟩, .string ⟨#[97, 100, 109, 105, 116]⟩, .string ⟨#[102, 117, 108, 102, 105, 108, 108]⟩, .string ⟨#[102, 97, 105, 108]⟩, .string ⟨#[116, 105, 99, 107]⟩, .string ⟨#[108, 97, 117, 110, 99, 104]⟩, .string ⟨#[97, 114, 114, 105, 118, 101]⟩, .string ⟨#[108, 111, 115, 116]⟩] 9)).heap.size = v0.heap.size + 1 := (by simp)
    generalize (v0.alloc (.cells #[.string ⟨#[]⟩, .string ⟨#[100, 101, 112, 111, 115, 105, 116]⟩, .string ⟨#[111, 112, 101, 110]⟩, .string ⟨#[99, 108, 111, 115, 101]⟩, .string ⟨#[112, 114, 105, 99, 101]⟩, .string ⟨#[97, 100, 109, 105, 116]⟩, .string ⟨#[102, 117, 108, 102, 105, 108, 108]⟩, .string ⟨#[102, 97, 105, 108]⟩, .string ⟨#[116, 105, 99, 107]⟩, .string ⟨#[108, 97, 117, 110, 99, 104]⟩, .string ⟨#[97, 114, 114, 105, 118, 101]⟩, .string ⟨#[108, 111, 115, 116]⟩] 9)) = w4 at *
    have hz4 : v0.heap.size ≤ w4.heap.size := he4.size
    have b4 : Below W.heap.size W w4 := b3.trans (he4.below b3.size (by omega))
    replace e_0 := he4.cell e_0 (by simp only; omega)
    replace e_1 := he4.cell e_1 (by simp only; omega)
    replace e_2 := he4.cell e_2 (by simp only; omega)
    replace e_3 := he4.cell e_3 (by simp only; omega)
    replace e_4 := he4.cell e_4 (by simp only; omega)
    replace e_5 := he4.cell e_5 (by simp only; omega)
    replace e_6 := he4.cell e_6 (by simp only; omega)
    replace e_l := Nat.lt_of_lt_of_le e_l hz4
    refine hK.out _ _ ?s4 (fun hHeld => ?_)
    case s4 => ((try dsimp only); (first | with_reducible assumption))
    clear hK K
    try simp only [Act.put, List.setIfInBounds_toArray, List.set_cons_zero, List.set_cons_succ]
    refine wpAnyH_ready (rs := [3]) (by kernel_rfl) (by simp) ?_
    refine AllReadyH.cons (o := { dst := some 13, op := Go.Op.indexAddr 61 (Go.Operand.tmp 10) (Go.Operand.tmp 12), type := 0, pos := "l04_event.go:92", after := #[{ on := 0, ground := Go.Ground.data }, { on := 2, ground := Go.Ground.data }], guard := none }) rfl (fun K hK => ?k5) AllReadyH.nil
    go_simp
    refine hK.out _ _ ?s5 (fun hHeld => ?_)
    case s5 => ((try dsimp only); (first | with_reducible assumption))
    clear hK K
    try simp only [Act.put, List.setIfInBounds_toArray, List.set_cons_zero, List.set_cons_succ]
    refine wpAnyH_ready (rs := [4]) (by kernel_rfl) (by simp) ?_
    refine AllReadyH.cons (o := { dst := some 14, op := Go.Op.load 9 (Go.Operand.tmp 13), type := 9, pos := "l04_event.go:92", after := #[{ on := 3, ground := Go.Ground.data }], guard := none }) rfl (fun K hK => ?k6) AllReadyH.nil
    go_simp
    refine hK.out _ _ ?s6 (fun hHeld => ?_)
    case s6 => ((try dsimp only); (first | with_reducible assumption))
    clear hK K
    try simp only [Act.put, List.setIfInBounds_toArray, List.set_cons_zero, List.set_cons_succ]
    refine wpAnyH_take (i := 5) (oi := { dst := some 3, op := Go.Op.assign (Go.Operand.tmp 14), type := 9, pos := "l04_event.go:92", after := #[{ on := 4, ground := Go.Ground.data }, { on := 0, ground := Go.Ground.chain }, { on := 0, ground := Go.Ground.phase }, { on := 1, ground := Go.Ground.phase }, { on := 2, ground := Go.Ground.phase }, { on := 3, ground := Go.Ground.phase }, { on := 4, ground := Go.Ground.phase }], guard := none }) (v := ?v7) rfl (by kernel_rfl) (by kernel_rfl) (by kernel_rfl) (fun _ _ _ h => h) (Or.inl ⟨by rfl, ?y7⟩) (by assumption) ?_
    case y7 => (intro w hSw; (try dsimp only at hSw); go_simp; first | done | with_reducible rfl)
    try simp only [Act.put, List.setIfInBounds_toArray, List.set_cons_zero, List.set_cons_succ]
    refine wpAnyH_done (by kernel_rfl) ?_ _
    clear hc3 hs4
    go_wp2_with fail
    refine (l04HasC (j : Int) q0 (by omega) w4.heap.size w4 rfl).mono ?_
    rintro e w5 ⟨rfl, h_0, h_1, h_2, h_3, h_4, h_5, he⟩
    rw [H5.out] at h_5
    have he5 : Eff (0) (0) w4 w5 := he
    have hz5 : w4.heap.size ≤ w5.heap.size := he5.size
    have b5 : Below W.heap.size W w5 := b4.trans (he5.below b4.size (by omega))
    replace e_0 := he5.cell e_0 (by simp only; omega)
    replace e_1 := he5.cell e_1 (by simp only; omega)
    replace e_2 := he5.cell e_2 (by simp only; omega)
    replace e_3 := he5.cell e_3 (by simp only; omega)
    replace e_4 := he5.cell e_4 (by simp only; omega)
    replace e_5 := he5.cell e_5 (by simp only; omega)
    replace e_6 := he5.cell e_6 (by simp only; omega)
    replace e_l := Nat.lt_of_lt_of_le e_l hz5
    clear he
    have h_l : w4.heap.size < w5.heap.size := by have := World.block_lt_of_cell? _ _ h_0; exact this
    go_wp2_with fail
    have he6 : Eff 0 0 w5 (w5.alloc (.cells #[.int .i64 key, .int .i64 ch, .int .i64 to, .int .i64 amt, .int .i64 fee] 3)) := Eff.alloc _ _
    have hs6 : (w5.alloc (.cells #[.int .i64 key, .int .i64 ch, .int .i64 to, .int .i64 amt, .int .i64 fee] 3)).heap.size = w5.heap.size + 1 := (by simp)
    have v_0 : (w5.alloc (.cells #[.int .i64 key, .int .i64 ch, .int .i64 to, .int .i64 amt, .int .i64 fee] 3)).cell? ⟨w5.heap.size, 0, none⟩ = some (.int .i64 key) := var_cell _ _ _ _ _ rfl
    have v_1 : (w5.alloc (.cells #[.int .i64 key, .int .i64 ch, .int .i64 to, .int .i64 amt, .int .i64 fee] 3)).cell? ⟨w5.heap.size, 1, none⟩ = some (.int .i64 ch) := var_cell _ _ _ _ _ rfl
    have v_2 : (w5.alloc (.cells #[.int .i64 key, .int .i64 ch, .int .i64 to, .int .i64 amt, .int .i64 fee] 3)).cell? ⟨w5.heap.size, 2, none⟩ = some (.int .i64 to) := var_cell _ _ _ _ _ rfl
    have v_3 : (w5.alloc (.cells #[.int .i64 key, .int .i64 ch, .int .i64 to, .int .i64 amt, .int .i64 fee] 3)).cell? ⟨w5.heap.size, 3, none⟩ = some (.int .i64 amt) := var_cell _ _ _ _ _ rfl
    have v_4 : (w5.alloc (.cells #[.int .i64 key, .int .i64 ch, .int .i64 to, .int .i64 amt, .int .i64 fee] 3)).cell? ⟨w5.heap.size, 4, none⟩ = some (.int .i64 fee) := var_cell _ _ _ _ _ rfl
    generalize (w5.alloc (.cells #[.int .i64 key, .int .i64 ch, .int .i64 to, .int .i64 amt, .int .i64 fee] 3)) = w6 at *
    have hz6 : w5.heap.size ≤ w6.heap.size := he6.size
    have b6 : Below W.heap.size W w6 := b5.trans (he6.below b5.size (by omega))
    replace e_0 := he6.cell e_0 (by simp only; omega)
    replace e_1 := he6.cell e_1 (by simp only; omega)
    replace e_2 := he6.cell e_2 (by simp only; omega)
    replace e_3 := he6.cell e_3 (by simp only; omega)
    replace e_4 := he6.cell e_4 (by simp only; omega)
    replace e_5 := he6.cell e_5 (by simp only; omega)
    replace e_6 := he6.cell e_6 (by simp only; omega)
    replace h_0 := he6.cell h_0 (by simp only; omega)
    replace h_1 := he6.cell h_1 (by simp only; omega)
    replace h_2 := he6.cell h_2 (by simp only; omega)
    replace h_3 := he6.cell h_3 (by simp only; omega)
    replace h_4 := he6.cell h_4 (by simp only; omega)
    replace h_5 := he6.cell h_5 (by simp only; omega)
    replace e_l := Nat.lt_of_lt_of_le e_l hz6
    have v_l : w5.heap.size < w6.heap.size := (by omega)
    go_loopw [3, 30] (fun vl vi wr => ∃ (i : Nat) (X : List UInt8), i ≤ 5 ∧ vi = .int .i64 (i : Int) ∧ vl = .string (bstr X) ∧ X.length ≤ 7 + 18 * i ∧ Hid (X = outS Wd (j : Int) key ch to amt fee i) ∧ Below W.heap.size W wr ∧ w6.heap.size ≤ wr.heap.size ∧ wr.cell? ⟨w4.heap.size, 0, none⟩ = some (.bool (evH (j : Int)).1) ∧ wr.cell? ⟨w4.heap.size, 1, none⟩ = some (.bool (evH (j : Int)).2.1) ∧ wr.cell? ⟨w4.heap.size, 2, none⟩ = some (.bool (evH (j : Int)).2.2.1) ∧ wr.cell? ⟨w4.heap.size, 3, none⟩ = some (.bool (evH (j : Int)).2.2.2.1) ∧ wr.cell? ⟨w4.heap.size, 4, none⟩ = some (.bool (evH (j : Int)).2.2.2.2.1) ∧ wr.cell? ⟨w4.heap.size, 5, none⟩ = some (.bool (decide ((j : Int) = 5))) ∧ wr.cell? ⟨w5.heap.size, 0, none⟩ = some (.int .i64 key) ∧ wr.cell? ⟨w5.heap.size, 1, none⟩ = some (.int .i64 ch) ∧ wr.cell? ⟨w5.heap.size, 2, none⟩ = some (.int .i64 to) ∧ wr.cell? ⟨w5.heap.size, 3, none⟩ = some (.int .i64 amt) ∧ wr.cell? ⟨w5.heap.size, 4, none⟩ = some (.int .i64 fee) ∧ wr.cell? ⟨W.heap.size, 6, none⟩ = some (.bool y)) (fun _ vi _ => 5 - (intOf vi).toNat)
    case atStart => exact ⟨0, Wd, by omega, rfl, rfl, by omega, Lib.hid rfl, b6, Nat.le_refl _, h_0, h_1, h_2, h_3, h_4, h_5, v_0, v_1, v_2, v_3, v_4, e_6⟩
    clear h_0 h_1 h_2 h_3 h_4 h_5 v_0 v_1 v_2 v_3 v_4 e_6
    case round =>
      obtain ⟨i, X, hi, rfl, rfl, hXl, HX, hbW, hzr, h_0, h_1, h_2, h_3, h_4, h_5, v_0, v_1, v_2, v_3, v_4, e_6⟩ := hrel
      have hzW := hbW.size
      by_cases hlt : i < 5
      · skip
        have hs0 : (0 : Int) ≤ (i : Int) := by omega
        have hs5 : (i : Int) < 5 := by omega
        have hs6 : (i : Int) < 6 := by omega
        obtain ⟨bi, hbi⟩ : ∃ b, hasB (j : Int) i = b := ⟨_, rfl⟩
        obtain ⟨z, hz⟩ : ∃ z, valI key ch to amt fee i = z := ⟨_, rfl⟩
        have hci : wr.cell? ⟨w4.heap.size, i, none⟩ = some (.bool bi) := by
          rw [← hbi]
          obtain rfl | rfl | rfl | rfl | rfl : i = 0 ∨ i = 1 ∨ i = 2 ∨ i = 3 ∨ i = 4 := by omega
          all_goals assumption
        have hvi : wr.cell? ⟨w5.heap.size, i, none⟩ = some (.int .i64 z) := by
          rw [← hz]
          obtain rfl | rfl | rfl | rfl | rfl : i = 0 ∨ i = 1 ∨ i = 2 ∨ i = 3 ∨ i = 4 := by omega
          all_goals assumption
        have HBI := Lib.hid hbi
        have HZ := Lib.hid hz
        clear hbi hz
        cases bi
        · skip
          go_wp2_with fail
          go_roundw
          case rel => exact ⟨i + 1, X, by omega, by go_num, rfl, by omega, Lib.hid (by rw [HX.out, outS, HBI.out, if_neg (by simp), List.append_nil]), hbW, hzr, h_0, h_1, h_2, h_3, h_4, h_5, v_0, v_1, v_2, v_3, v_4, e_6⟩
          case measure => simp [intOf]; omega
        · skip
          have hxl := nTx_len z
          obtain ⟨T, hT⟩ : ∃ T, nTx z = T := ⟨_, rfl⟩
          rw [hT] at hxl
          have HT := Lib.hid hT
          have cat1 : bstr X ++ { data := #[32] } = bstr (X ++ [32]) := bstr_app X [32]
          have sz1 : ¬ (9223372036854775807 < (bstr X).size + (ByteArray.mk #[32]).size) := str_sizeE (b := [32]) (by simp; omega)
          have sz2 : ¬ (9223372036854775807 < (bstr (X ++ [32])).size + (bstr T).size) := str_sizeE (by simp; omega)
          have cat2 := bstr_app (X ++ [32]) T
          clear hT
          go_wp2_with fail
          refine (spec_NumText z wr).mono ?_
          rintro e u1 ⟨rfl, hb⟩
          rw [HT.out]
          have he1 : Eff 0 0 wr u1 := Eff.of hb
          have hz1 : wr.heap.size ≤ u1.heap.size := he1.size
          have b1 : Below W.heap.size W u1 := hbW.trans (he1.below hbW.size (by omega))
          replace h_0 := he1.cell h_0 (by simp only; omega)
          replace h_1 := he1.cell h_1 (by simp only; omega)
          replace h_2 := he1.cell h_2 (by simp only; omega)
          replace h_3 := he1.cell h_3 (by simp only; omega)
          replace h_4 := he1.cell h_4 (by simp only; omega)
          replace h_5 := he1.cell h_5 (by simp only; omega)
          replace v_0 := he1.cell v_0 (by simp only; omega)
          replace v_1 := he1.cell v_1 (by simp only; omega)
          replace v_2 := he1.cell v_2 (by simp only; omega)
          replace v_3 := he1.cell v_3 (by simp only; omega)
          replace v_4 := he1.cell v_4 (by simp only; omega)
          replace e_6 := he1.cell e_6 (by simp only; omega)
          clear hb
          go_wp2_with fail
          go_roundw
          case rel => exact ⟨i + 1, X ++ 32 :: T, by omega, by go_num, rfl, by simp; omega, Lib.hid (by rw [HX.out, outS, HBI.out, if_pos rfl, HZ.out, HT.out]), b1, by omega, h_0, h_1, h_2, h_3, h_4, h_5, v_0, v_1, v_2, v_3, v_4, e_6⟩
          case measure => simp [intOf]; omega
      · obtain rfl : i = 5 := by omega
        by_cases h5 : j = 5
        · skip
          subst h5
          cases y
          · have cat1 : bstr X ++ { data := #[32, 110, 111] } = bstr (X ++ [32, 110, 111]) := bstr_app X [32, 110, 111]
            have sz1 : ¬ (9223372036854775807 < (bstr X).size + (ByteArray.mk #[32, 110, 111]).size) := str_sizeE (b := [32, 110, 111]) (by simp; omega)
            go_wp2_with fail
            go_ret
            exact ⟨by first | (rw [HT1.out, ← HX.out]; rfl) | (rw [show evT 5 key ch to amt fee false = _ from HT1.out, ← HX.out]; rfl), hbW⟩
          · have cat1 : bstr X ++ { data := #[32, 121, 101, 115] } = bstr (X ++ [32, 121, 101, 115]) := bstr_app X [32, 121, 101, 115]
            have sz1 : ¬ (9223372036854775807 < (bstr X).size + (ByteArray.mk #[32, 121, 101, 115]).size) := str_sizeE (b := [32, 121, 101, 115]) (by simp; omega)
            go_wp2_with fail
            go_ret
            exact ⟨by first | (rw [HT1.out, ← HX.out]; rfl) | (rw [show evT 5 key ch to amt fee true = _ from HT1.out, ← HX.out]; rfl), hbW⟩
        · have h5n : decide ((j : Int) = 5) = false := by simp; omega
          rw [h5n] at h_5
          go_wp2_with fail
          go_ret
          exact ⟨by rw [HT1.out, if_neg (by omega), List.append_nil, ← HX.out]; rfl, hbW⟩
end Go.Proofs.YtnjdmmdbminmoaaDoor
