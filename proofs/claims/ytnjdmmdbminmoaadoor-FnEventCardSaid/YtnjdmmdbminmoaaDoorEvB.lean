/- Events as bytes: EventBody (program and reference). -/
import Derived.Test.YtnjdmmdbminmoaaDoorEvS
import Derived.Test.YtnjdmmdbminmoaaDoorEvI
import Derived.Test.YtnjdmmdbminmoaaDoorSecB
import Derived.Test.YtnjdmmdbminmoaaDoorVar2
namespace Go.Proofs.YtnjdmmdbminmoaaDoor
open Go.RowKit
/-- The bytes of an event. -/
def evBytes (Kd K C T M F : Nat) (y : Bool) : List UInt8 := [69] ++ digs Kd 1 ++ digs K 3 ++ digs C 1 ++ digs T 1 ++ digs M 7 ++ digs F 7 ++ [if y then 1 else 0]
theorem cells_69 (k : Nat) (h : k ≤ 255) : Lib.byteCells ([69] ++ digs k 1) = [Value.int .u8 69, Value.int .u8 (k : Int)] := by
  have : k % 256 = k := by omega
  simp [digs, Lib.byteCells, this]
theorem cells_69w (k : Nat) : Lib.byteCells ([69] ++ digs k 1) = [Value.int .u8 69, Value.int .u8 (IntKind.u8.wrap (k : Int))] := by
  simp [digs, Lib.byteCells, IntKind.wrap_u8']
theorem cells_2w (c t : Nat) : Lib.byteCells (digs c 1 ++ digs t 1) = [Value.int .u8 (IntKind.u8.wrap (c : Int)), Value.int .u8 (IntKind.u8.wrap (t : Int))] := by
  simp [digs, Lib.byteCells, IntKind.wrap_u8']
theorem cells_y (y : UInt8) (z : Int) (h : (y.toNat : Int) = z := by rfl) : Lib.byteCells [y] = [Value.int .u8 z] := by subst h; simp [Lib.byteCells]
theorem ev_bytes {w : World} {lo hi c Kd K C T M F : Nat} {A : Option Addr} {y : Bool} {b : UInt8} (h : OwnB w lo hi A 22 c ([69] ++ digs Kd 1 ++ digs K 3 ++ (digs C 1 ++ digs T 1) ++ digs M 7 ++ digs F 7 ++ [b])) (hb : b = if y then 1 else 0 := by rfl) : OwnB w lo hi A 22 c (evBytes Kd K C T M F y) := by
  subst hb
  simpa [evBytes] using h
theorem cells_2 (c t : Nat) (h : c ≤ 255) (h' : t ≤ 255) : Lib.byteCells (digs c 1 ++ digs t 1) = [Value.int .u8 (c : Int), Value.int .u8 (t : Int)] := by
  have h1 : c % 256 = c := by omega
  have h2 : t % 256 = t := by omega
  simp [digs, Lib.byteCells, h1, h2]
set_option maxHeartbeats 4000000 in
set_option maxRecDepth 100000 in
theorem impl_EventBody_ok (Kd K C T M F : Nat) (y : Bool) (_h0 : Kd ≤ 11) (_h1 : K ≤ 1000000) (_h2 : C ≤ 99) (_h3 : T ≤ 99) (_h4 : M ≤ 1125899906842624) (_h5 : F ≤ 1125899906842624) (hok : evOk Kd K C T M F y = true) (W : World) :
    Calls Tryd.prog 20 #[.agg #[.int .i64 (Kd : Int), .int .i64 (K : Int), .int .i64 (C : Int), .int .i64 (T : Int), .int .i64 (M : Int), .int .i64 (F : Int), .bool y]] W (PutB 22 (evBytes Kd K C T M F y) true W) := by
  rcases y with _ | _
  · skip
    have hKd := cells_69 Kd (by omega)
    have hCT := cells_2w C T
    have hy := cells_y 0 0
    obtain ⟨i0, hi0, hj0, hj1, hj2⟩ := info_parts info_u8
    go_enter Tryd.func20, Tryd.ntmps20
    go_wp2_with fail
    have he1 : Eff 0 0 W (W.alloc (.cells #[.int .i64 (Kd : Int), .int .i64 (K : Int), .int .i64 (C : Int), .int .i64 (T : Int), .int .i64 (M : Int), .int .i64 (F : Int), .bool false] 32)) := Eff.alloc _ _
    have hs1 : (W.alloc (.cells #[.int .i64 (Kd : Int), .int .i64 (K : Int), .int .i64 (C : Int), .int .i64 (T : Int), .int .i64 (M : Int), .int .i64 (F : Int), .bool false] 32)).heap.size = W.heap.size + 1 := (by simp)
    have aE_0 : (W.alloc (.cells #[.int .i64 (Kd : Int), .int .i64 (K : Int), .int .i64 (C : Int), .int .i64 (T : Int), .int .i64 (M : Int), .int .i64 (F : Int), .bool false] 32)).cell? ⟨W.heap.size, 0, none⟩ = some (.int .i64 (Kd : Int)) := var_cell _ _ _ _ _ rfl
    have aE_1 : (W.alloc (.cells #[.int .i64 (Kd : Int), .int .i64 (K : Int), .int .i64 (C : Int), .int .i64 (T : Int), .int .i64 (M : Int), .int .i64 (F : Int), .bool false] 32)).cell? ⟨W.heap.size, 1, none⟩ = some (.int .i64 (K : Int)) := var_cell _ _ _ _ _ rfl
    have aE_2 : (W.alloc (.cells #[.int .i64 (Kd : Int), .int .i64 (K : Int), .int .i64 (C : Int), .int .i64 (T : Int), .int .i64 (M : Int), .int .i64 (F : Int), .bool false] 32)).cell? ⟨W.heap.size, 2, none⟩ = some (.int .i64 (C : Int)) := var_cell _ _ _ _ _ rfl
    have aE_3 : (W.alloc (.cells #[.int .i64 (Kd : Int), .int .i64 (K : Int), .int .i64 (C : Int), .int .i64 (T : Int), .int .i64 (M : Int), .int .i64 (F : Int), .bool false] 32)).cell? ⟨W.heap.size, 3, none⟩ = some (.int .i64 (T : Int)) := var_cell _ _ _ _ _ rfl
    have aE_4 : (W.alloc (.cells #[.int .i64 (Kd : Int), .int .i64 (K : Int), .int .i64 (C : Int), .int .i64 (T : Int), .int .i64 (M : Int), .int .i64 (F : Int), .bool false] 32)).cell? ⟨W.heap.size, 4, none⟩ = some (.int .i64 (M : Int)) := var_cell _ _ _ _ _ rfl
    have aE_5 : (W.alloc (.cells #[.int .i64 (Kd : Int), .int .i64 (K : Int), .int .i64 (C : Int), .int .i64 (T : Int), .int .i64 (M : Int), .int .i64 (F : Int), .bool false] 32)).cell? ⟨W.heap.size, 5, none⟩ = some (.int .i64 (F : Int)) := var_cell _ _ _ _ _ rfl
    have aE_6 : (W.alloc (.cells #[.int .i64 (Kd : Int), .int .i64 (K : Int), .int .i64 (C : Int), .int .i64 (T : Int), .int .i64 (M : Int), .int .i64 (F : Int), .bool false] 32)).cell? ⟨W.heap.size, 6, none⟩ = some (.bool false) := var_cell _ _ _ _ _ rfl
    generalize (W.alloc (.cells #[.int .i64 (Kd : Int), .int .i64 (K : Int), .int .i64 (C : Int), .int .i64 (T : Int), .int .i64 (M : Int), .int .i64 (F : Int), .bool false] 32)) = w1 at *
    have hz1 : W.heap.size ≤ w1.heap.size := he1.size
    have b1 : Below W.heap.size W w1 := he1.below (Nat.le_refl _) (by omega)
    have aE_l : W.heap.size < w1.heap.size := (by omega)
    refine (impl_EventOk Kd K C T M F false w1).mono ?_
    rintro e w2 ⟨rfl, hb⟩
    have he2 : Eff 0 0 w1 w2 := Eff.of hb
    have hz2 : w1.heap.size ≤ w2.heap.size := he2.size
    have b2 : Below W.heap.size W w2 := b1.trans (he2.below b1.size (by omega))
    replace aE_0 := he2.cell aE_0 (by simp only; omega)
    replace aE_1 := he2.cell aE_1 (by simp only; omega)
    replace aE_2 := he2.cell aE_2 (by simp only; omega)
    replace aE_3 := he2.cell aE_3 (by simp only; omega)
    replace aE_4 := he2.cell aE_4 (by simp only; omega)
    replace aE_5 := he2.cell aE_5 (by simp only; omega)
    replace aE_6 := he2.cell aE_6 (by simp only; omega)
    replace aE_l := Nat.lt_of_lt_of_le aE_l hz2
    clear hb
    rw [hok]
    go_wp2_with fail
    have he3 : Eff 0 0 w2 (w2.alloc (.cells #[.int .u8 69, .int .u8 (Kd : Int)] 5)) := (Eff.alloc _ _)
    have hs3 : (w2.alloc (.cells #[.int .u8 69, .int .u8 (Kd : Int)] 5)).heap.size = w2.heap.size + 1 := (by simp)
    have b0 : Own 5 1 (w2.alloc (.cells #[.int .u8 69, .int .u8 (Kd : Int)] 5)) w2.heap.size (w2.heap.size + 1) (some ⟨w2.heap.size, 0, none⟩) 2 2 [.int .u8 69, .int .u8 (Kd : Int)] := new_rowN w2 [.int .u8 69, .int .u8 (Kd : Int)] 5
    generalize (w2.alloc (.cells #[.int .u8 69, .int .u8 (Kd : Int)] 5)) = w3 at *
    have hz3 : w2.heap.size ≤ w3.heap.size := he3.size
    have b3 : Below W.heap.size W w3 := b2.trans (he3.below b2.size (by omega))
    replace aE_0 := he3.cell aE_0 (by simp only; omega)
    replace aE_1 := he3.cell aE_1 (by simp only; omega)
    replace aE_2 := he3.cell aE_2 (by simp only; omega)
    replace aE_3 := he3.cell aE_3 (by simp only; omega)
    replace aE_4 := he3.cell aE_4 (by simp only; omega)
    replace aE_5 := he3.cell aE_5 (by simp only; omega)
    replace aE_6 := he3.cell aE_6 (by simp only; omega)
    replace aE_l := Nat.lt_of_lt_of_le aE_l hz3
    replace b0 : OwnB w3 (w2.heap.size) (w2.heap.size + 1) _ 2 2 ([69] ++ digs Kd 1) := (by unfold OwnB; rw [hKd]; exact b0)
    refine (putNum_any (w2.heap.size) (w2.heap.size + 1) _ 2 _ ([69] ++ digs Kd 1) K 3 (by omega) (by omega) w3 b0 (by omega)).mono ?_
    rintro e w4 ⟨Ax, cx, rfl, x, hb⟩; have he := Eff.of_low hb; clear hb
    have he4 : Eff (w2.heap.size) (w3.heap.size) w3 w4 := he
    have hz4 : w3.heap.size ≤ w4.heap.size := he4.size
    have b4 : Below W.heap.size W w4 := b3.trans (he4.below b3.size (by omega))
    replace aE_0 := he4.cell aE_0 (by simp only; omega)
    replace aE_1 := he4.cell aE_1 (by simp only; omega)
    replace aE_2 := he4.cell aE_2 (by simp only; omega)
    replace aE_3 := he4.cell aE_3 (by simp only; omega)
    replace aE_4 := he4.cell aE_4 (by simp only; omega)
    replace aE_5 := he4.cell aE_5 (by simp only; omega)
    replace aE_6 := he4.cell aE_6 (by simp only; omega)
    replace aE_l := Nat.lt_of_lt_of_le aE_l hz4
    clear he
    clear b0
    go_wp2_with fail
    have he5 : Eff 0 0 w4 w4.drew := (Eff.refl _ _ _).drew
    have hz5 : w4.heap.size ≤ w4.drew.heap.size := he5.size
    have b5 : Below W.heap.size W w4.drew := b4.trans (he5.below b4.size (by omega))
    replace x := x.keep he5 (by omega)
    replace aE_0 := he5.cell aE_0 (by simp only; omega)
    replace aE_1 := he5.cell aE_1 (by simp only; omega)
    replace aE_2 := he5.cell aE_2 (by simp only; omega)
    replace aE_3 := he5.cell aE_3 (by simp only; omega)
    replace aE_4 := he5.cell aE_4 (by simp only; omega)
    replace aE_5 := he5.cell aE_5 (by simp only; omega)
    replace aE_6 := he5.cell aE_6 (by simp only; omega)
    replace aE_l := Nat.lt_of_lt_of_le aE_l hz5
    go_region_held3 (fun w' => w'.cell? ⟨W.heap.size, 0, none⟩ = some (.int .i64 (Kd : Int)) ∧ w'.cell? ⟨W.heap.size, 1, none⟩ = some (.int .i64 (K : Int)) ∧ w'.cell? ⟨W.heap.size, 2, none⟩ = some (.int .i64 (C : Int)) ∧ w'.cell? ⟨W.heap.size, 3, none⟩ = some (.int .i64 (T : Int)) ∧ w'.cell? ⟨W.heap.size, 4, none⟩ = some (.int .i64 (M : Int)) ∧ w'.cell? ⟨W.heap.size, 5, none⟩ = some (.int .i64 (F : Int)) ∧ w'.cell? ⟨W.heap.size, 6, none⟩ = some (.bool false)) ((go_split_ands; (repeat' apply And.intro) <;> (first | assumption | (exact Eff.cell (w := w4.drew) (lo := 0) (hi := 0) (Eff.undrew (Eff.drew (Eff.alloc _ _))) (by assumption) (by simp only; omega))))) (first | (have he6 : Eff 0 0 w4.drew (w4.alloc (.cells #[.int .u8 (IntKind.u8.wrap (C : Int)), .int .u8 (IntKind.u8.wrap (T : Int))] 5)).drew := (Eff.undrew (Eff.drew (Eff.alloc _ _))); have hs6 : (w4.alloc (.cells #[.int .u8 (IntKind.u8.wrap (C : Int)), .int .u8 (IntKind.u8.wrap (T : Int))] 5)).drew.heap.size = w4.heap.size + 1 := (by simp); have b1 : Own 5 1 (w4.alloc (.cells #[.int .u8 (IntKind.u8.wrap (C : Int)), .int .u8 (IntKind.u8.wrap (T : Int))] 5)).drew w4.heap.size (w4.heap.size + 1) (some ⟨w4.heap.size, 0, none⟩) 2 2 [.int .u8 (IntKind.u8.wrap (C : Int)), .int .u8 (IntKind.u8.wrap (T : Int))] := (new_rowN w4 [.int .u8 (IntKind.u8.wrap (C : Int)), .int .u8 (IntKind.u8.wrap (T : Int))] 5).drew; generalize (w4.alloc (.cells #[.int .u8 (IntKind.u8.wrap (C : Int)), .int .u8 (IntKind.u8.wrap (T : Int))] 5)).drew = w6 at *; have hz6 : w4.drew.heap.size ≤ w6.heap.size := he6.size; have b6 : Below W.heap.size W w6 := b5.trans (he6.below b5.size (by omega)); replace x := x.keep he6 (by omega); replace aE_0 := he6.cell aE_0 (by simp only; omega); replace aE_1 := he6.cell aE_1 (by simp only; omega); replace aE_2 := he6.cell aE_2 (by simp only; omega); replace aE_3 := he6.cell aE_3 (by simp only; omega); replace aE_4 := he6.cell aE_4 (by simp only; omega); replace aE_5 := he6.cell aE_5 (by simp only; omega); replace aE_6 := he6.cell aE_6 (by simp only; omega); replace aE_l := Nat.lt_of_lt_of_le aE_l hz6; replace b1 : OwnB w6 (w4.heap.size) (w4.heap.size + 1) _ 2 2 (digs C 1 ++ digs T 1) := (by unfold OwnB; rw [hCT]; exact b1); refine step_app _ (by rfl) _ _ 22 (by rfl) 5 i0 (.int .u8 0) 1 1 Tryd.underlying22 hi0 hj0 hj1 hj2 rfl (by omega) (by rfl) x 2 (by rfl) (b1.rd (B := w6.heap.size) (by omega)) (byteCells_one' _) (by unfold maxLen; omega) (by omega) (by omega) ?_; intro Az cz w7 z hE _; have he7 : Eff (w2.heap.size) (w4.heap.size) w6 w7 := hE; have hz7 : w6.heap.size ≤ w7.heap.size := he7.size; have b7 : Below W.heap.size W w7 := b6.trans (he7.below b6.size (by omega)); replace b1 := b1.keep he7 (by omega); replace aE_0 := he7.cell aE_0 (by simp only; omega); replace aE_1 := he7.cell aE_1 (by simp only; omega); replace aE_2 := he7.cell aE_2 (by simp only; omega); replace aE_3 := he7.cell aE_3 (by simp only; omega); replace aE_4 := he7.cell aE_4 (by simp only; omega); replace aE_5 := he7.cell aE_5 (by simp only; omega); replace aE_6 := he7.cell aE_6 (by simp only; omega); replace aE_l := Nat.lt_of_lt_of_le aE_l hz7; clear hE; clear x; replace z := OwnB.of_app z; clear b1) | (go_at_call 49; refine (putNum_any (w2.heap.size) (w7.heap.size) _ 7 _ ([69] ++ digs Kd 1 ++ digs K 3 ++ (digs C 1 ++ digs T 1)) M 7 (by omega) (by omega) w7 z (by omega)).mono ?_; rintro e w8 ⟨Au, cu, rfl, u, hb⟩; have he := Eff.of_low hb; clear hb; have he8 : Eff (w2.heap.size) (w7.heap.size) w7 w8 := he; have hz8 : w7.heap.size ≤ w8.heap.size := he8.size; have b8 : Below W.heap.size W w8 := b7.trans (he8.below b7.size (by omega)); replace aE_0 := he8.cell aE_0 (by simp only; omega); replace aE_1 := he8.cell aE_1 (by simp only; omega); replace aE_2 := he8.cell aE_2 (by simp only; omega); replace aE_3 := he8.cell aE_3 (by simp only; omega); replace aE_4 := he8.cell aE_4 (by simp only; omega); replace aE_5 := he8.cell aE_5 (by simp only; omega); replace aE_6 := he8.cell aE_6 (by simp only; omega); replace aE_l := Nat.lt_of_lt_of_le aE_l hz8; clear he; clear z) | (go_at_call 49; refine (putNum_any (w2.heap.size) (w8.heap.size) _ 14 _ ([69] ++ digs Kd 1 ++ digs K 3 ++ (digs C 1 ++ digs T 1) ++ digs M 7) F 7 (by omega) (by omega) w8 u (by omega)).mono ?_; rintro e w9 ⟨Av, cv, rfl, v, hb⟩; have he := Eff.of_low hb; clear hb; have he9 : Eff (w2.heap.size) (w8.heap.size) w8 w9 := he; have hz9 : w8.heap.size ≤ w9.heap.size := he9.size; have b9 : Below W.heap.size W w9 := b8.trans (he9.below b8.size (by omega)); replace aE_0 := he9.cell aE_0 (by simp only; omega); replace aE_1 := he9.cell aE_1 (by simp only; omega); replace aE_2 := he9.cell aE_2 (by simp only; omega); replace aE_3 := he9.cell aE_3 (by simp only; omega); replace aE_4 := he9.cell aE_4 (by simp only; omega); replace aE_5 := he9.cell aE_5 (by simp only; omega); replace aE_6 := he9.cell aE_6 (by simp only; omega); replace aE_l := Nat.lt_of_lt_of_le aE_l hz9; clear he; clear u))
    go_wp2_with (at_builtin; refine wpList_app _ rfl _ _ 22 rfl 5 i0 (.int .u8 0) 1 1 Tryd.underlying22 hi0 hj0 hj1 hj2 rfl (by omega) rfl (Own.alloc v _) 1 rfl (rd_newN w9 [.int .u8 0] 5) (by intro u hu; simp only [List.mem_cons, List.not_mem_nil, or_false] at hu; rcases hu with rfl <;> rfl) (by unfold maxLen; (try simp only [List.length_cons, List.length_nil]); omega) (by (try simp only [List.length_cons, List.length_nil]); omega) (by simp; omega) ?_; intro Ar cr w10 r hE _; have he10 : Eff (w2.heap.size) (w9.heap.size) w9 w10 := ((Eff.refl _ _ _).new _).trans hE; have hz10 : w9.heap.size ≤ w10.heap.size := he10.size; have b10 : Below W.heap.size W w10 := b9.trans (he10.below b9.size (by omega)); replace aE_0 := he10.cell aE_0 (by simp only; omega); replace aE_1 := he10.cell aE_1 (by simp only; omega); replace aE_2 := he10.cell aE_2 (by simp only; omega); replace aE_3 := he10.cell aE_3 (by simp only; omega); replace aE_4 := he10.cell aE_4 (by simp only; omega); replace aE_5 := he10.cell aE_5 (by simp only; omega); replace aE_6 := he10.cell aE_6 (by simp only; omega); replace aE_l := Nat.lt_of_lt_of_le aE_l hz10; clear hE; clear v; replace r : OwnB w10 (w2.heap.size) (w10.heap.size) Ar (21 + 1) cr _ := OwnB.of_app (l' := [0]) (by rw [← hy] at r; exact r))
    go_ret2
    exact .inl ⟨rfl, _, _, by simp, Own.wide (lo' := W.heap.size) (ev_bytes r) (by omega) (Nat.le_refl _) (Nat.le_refl _), b10⟩
  · skip
    have hKd := cells_69 Kd (by omega)
    have hCT := cells_2w C T
    have hy := cells_y 1 1
    obtain ⟨i0, hi0, hj0, hj1, hj2⟩ := info_parts info_u8
    go_enter Tryd.func20, Tryd.ntmps20
    go_wp2_with fail
    have he1 : Eff 0 0 W (W.alloc (.cells #[.int .i64 (Kd : Int), .int .i64 (K : Int), .int .i64 (C : Int), .int .i64 (T : Int), .int .i64 (M : Int), .int .i64 (F : Int), .bool true] 32)) := Eff.alloc _ _
    have hs1 : (W.alloc (.cells #[.int .i64 (Kd : Int), .int .i64 (K : Int), .int .i64 (C : Int), .int .i64 (T : Int), .int .i64 (M : Int), .int .i64 (F : Int), .bool true] 32)).heap.size = W.heap.size + 1 := (by simp)
    have aE_0 : (W.alloc (.cells #[.int .i64 (Kd : Int), .int .i64 (K : Int), .int .i64 (C : Int), .int .i64 (T : Int), .int .i64 (M : Int), .int .i64 (F : Int), .bool true] 32)).cell? ⟨W.heap.size, 0, none⟩ = some (.int .i64 (Kd : Int)) := var_cell _ _ _ _ _ rfl
    have aE_1 : (W.alloc (.cells #[.int .i64 (Kd : Int), .int .i64 (K : Int), .int .i64 (C : Int), .int .i64 (T : Int), .int .i64 (M : Int), .int .i64 (F : Int), .bool true] 32)).cell? ⟨W.heap.size, 1, none⟩ = some (.int .i64 (K : Int)) := var_cell _ _ _ _ _ rfl
    have aE_2 : (W.alloc (.cells #[.int .i64 (Kd : Int), .int .i64 (K : Int), .int .i64 (C : Int), .int .i64 (T : Int), .int .i64 (M : Int), .int .i64 (F : Int), .bool true] 32)).cell? ⟨W.heap.size, 2, none⟩ = some (.int .i64 (C : Int)) := var_cell _ _ _ _ _ rfl
    have aE_3 : (W.alloc (.cells #[.int .i64 (Kd : Int), .int .i64 (K : Int), .int .i64 (C : Int), .int .i64 (T : Int), .int .i64 (M : Int), .int .i64 (F : Int), .bool true] 32)).cell? ⟨W.heap.size, 3, none⟩ = some (.int .i64 (T : Int)) := var_cell _ _ _ _ _ rfl
    have aE_4 : (W.alloc (.cells #[.int .i64 (Kd : Int), .int .i64 (K : Int), .int .i64 (C : Int), .int .i64 (T : Int), .int .i64 (M : Int), .int .i64 (F : Int), .bool true] 32)).cell? ⟨W.heap.size, 4, none⟩ = some (.int .i64 (M : Int)) := var_cell _ _ _ _ _ rfl
    have aE_5 : (W.alloc (.cells #[.int .i64 (Kd : Int), .int .i64 (K : Int), .int .i64 (C : Int), .int .i64 (T : Int), .int .i64 (M : Int), .int .i64 (F : Int), .bool true] 32)).cell? ⟨W.heap.size, 5, none⟩ = some (.int .i64 (F : Int)) := var_cell _ _ _ _ _ rfl
    have aE_6 : (W.alloc (.cells #[.int .i64 (Kd : Int), .int .i64 (K : Int), .int .i64 (C : Int), .int .i64 (T : Int), .int .i64 (M : Int), .int .i64 (F : Int), .bool true] 32)).cell? ⟨W.heap.size, 6, none⟩ = some (.bool true) := var_cell _ _ _ _ _ rfl
    generalize (W.alloc (.cells #[.int .i64 (Kd : Int), .int .i64 (K : Int), .int .i64 (C : Int), .int .i64 (T : Int), .int .i64 (M : Int), .int .i64 (F : Int), .bool true] 32)) = w1 at *
    have hz1 : W.heap.size ≤ w1.heap.size := he1.size
    have b1 : Below W.heap.size W w1 := he1.below (Nat.le_refl _) (by omega)
    have aE_l : W.heap.size < w1.heap.size := (by omega)
    refine (impl_EventOk Kd K C T M F true w1).mono ?_
    rintro e w2 ⟨rfl, hb⟩
    have he2 : Eff 0 0 w1 w2 := Eff.of hb
    have hz2 : w1.heap.size ≤ w2.heap.size := he2.size
    have b2 : Below W.heap.size W w2 := b1.trans (he2.below b1.size (by omega))
    replace aE_0 := he2.cell aE_0 (by simp only; omega)
    replace aE_1 := he2.cell aE_1 (by simp only; omega)
    replace aE_2 := he2.cell aE_2 (by simp only; omega)
    replace aE_3 := he2.cell aE_3 (by simp only; omega)
    replace aE_4 := he2.cell aE_4 (by simp only; omega)
    replace aE_5 := he2.cell aE_5 (by simp only; omega)
    replace aE_6 := he2.cell aE_6 (by simp only; omega)
    replace aE_l := Nat.lt_of_lt_of_le aE_l hz2
    clear hb
    rw [hok]
    go_wp2_with fail
    have he3 : Eff 0 0 w2 (w2.alloc (.cells #[.int .u8 69, .int .u8 (Kd : Int)] 5)) := (Eff.alloc _ _)
    have hs3 : (w2.alloc (.cells #[.int .u8 69, .int .u8 (Kd : Int)] 5)).heap.size = w2.heap.size + 1 := (by simp)
    have b0 : Own 5 1 (w2.alloc (.cells #[.int .u8 69, .int .u8 (Kd : Int)] 5)) w2.heap.size (w2.heap.size + 1) (some ⟨w2.heap.size, 0, none⟩) 2 2 [.int .u8 69, .int .u8 (Kd : Int)] := new_rowN w2 [.int .u8 69, .int .u8 (Kd : Int)] 5
    generalize (w2.alloc (.cells #[.int .u8 69, .int .u8 (Kd : Int)] 5)) = w3 at *
    have hz3 : w2.heap.size ≤ w3.heap.size := he3.size
    have b3 : Below W.heap.size W w3 := b2.trans (he3.below b2.size (by omega))
    replace aE_0 := he3.cell aE_0 (by simp only; omega)
    replace aE_1 := he3.cell aE_1 (by simp only; omega)
    replace aE_2 := he3.cell aE_2 (by simp only; omega)
    replace aE_3 := he3.cell aE_3 (by simp only; omega)
    replace aE_4 := he3.cell aE_4 (by simp only; omega)
    replace aE_5 := he3.cell aE_5 (by simp only; omega)
    replace aE_6 := he3.cell aE_6 (by simp only; omega)
    replace aE_l := Nat.lt_of_lt_of_le aE_l hz3
    replace b0 : OwnB w3 (w2.heap.size) (w2.heap.size + 1) _ 2 2 ([69] ++ digs Kd 1) := (by unfold OwnB; rw [hKd]; exact b0)
    refine (putNum_any (w2.heap.size) (w2.heap.size + 1) _ 2 _ ([69] ++ digs Kd 1) K 3 (by omega) (by omega) w3 b0 (by omega)).mono ?_
    rintro e w4 ⟨Ax, cx, rfl, x, hb⟩; have he := Eff.of_low hb; clear hb
    have he4 : Eff (w2.heap.size) (w3.heap.size) w3 w4 := he
    have hz4 : w3.heap.size ≤ w4.heap.size := he4.size
    have b4 : Below W.heap.size W w4 := b3.trans (he4.below b3.size (by omega))
    replace aE_0 := he4.cell aE_0 (by simp only; omega)
    replace aE_1 := he4.cell aE_1 (by simp only; omega)
    replace aE_2 := he4.cell aE_2 (by simp only; omega)
    replace aE_3 := he4.cell aE_3 (by simp only; omega)
    replace aE_4 := he4.cell aE_4 (by simp only; omega)
    replace aE_5 := he4.cell aE_5 (by simp only; omega)
    replace aE_6 := he4.cell aE_6 (by simp only; omega)
    replace aE_l := Nat.lt_of_lt_of_le aE_l hz4
    clear he
    clear b0
    go_wp2_with fail
    have he5 : Eff 0 0 w4 w4.drew := (Eff.refl _ _ _).drew
    have hz5 : w4.heap.size ≤ w4.drew.heap.size := he5.size
    have b5 : Below W.heap.size W w4.drew := b4.trans (he5.below b4.size (by omega))
    replace x := x.keep he5 (by omega)
    replace aE_0 := he5.cell aE_0 (by simp only; omega)
    replace aE_1 := he5.cell aE_1 (by simp only; omega)
    replace aE_2 := he5.cell aE_2 (by simp only; omega)
    replace aE_3 := he5.cell aE_3 (by simp only; omega)
    replace aE_4 := he5.cell aE_4 (by simp only; omega)
    replace aE_5 := he5.cell aE_5 (by simp only; omega)
    replace aE_6 := he5.cell aE_6 (by simp only; omega)
    replace aE_l := Nat.lt_of_lt_of_le aE_l hz5
    go_region_held3 (fun w' => w'.cell? ⟨W.heap.size, 0, none⟩ = some (.int .i64 (Kd : Int)) ∧ w'.cell? ⟨W.heap.size, 1, none⟩ = some (.int .i64 (K : Int)) ∧ w'.cell? ⟨W.heap.size, 2, none⟩ = some (.int .i64 (C : Int)) ∧ w'.cell? ⟨W.heap.size, 3, none⟩ = some (.int .i64 (T : Int)) ∧ w'.cell? ⟨W.heap.size, 4, none⟩ = some (.int .i64 (M : Int)) ∧ w'.cell? ⟨W.heap.size, 5, none⟩ = some (.int .i64 (F : Int)) ∧ w'.cell? ⟨W.heap.size, 6, none⟩ = some (.bool true)) ((go_split_ands; (repeat' apply And.intro) <;> (first | assumption | (exact Eff.cell (w := w4.drew) (lo := 0) (hi := 0) (Eff.undrew (Eff.drew (Eff.alloc _ _))) (by assumption) (by simp only; omega))))) (first | (have he6 : Eff 0 0 w4.drew (w4.alloc (.cells #[.int .u8 (IntKind.u8.wrap (C : Int)), .int .u8 (IntKind.u8.wrap (T : Int))] 5)).drew := (Eff.undrew (Eff.drew (Eff.alloc _ _))); have hs6 : (w4.alloc (.cells #[.int .u8 (IntKind.u8.wrap (C : Int)), .int .u8 (IntKind.u8.wrap (T : Int))] 5)).drew.heap.size = w4.heap.size + 1 := (by simp); have b1 : Own 5 1 (w4.alloc (.cells #[.int .u8 (IntKind.u8.wrap (C : Int)), .int .u8 (IntKind.u8.wrap (T : Int))] 5)).drew w4.heap.size (w4.heap.size + 1) (some ⟨w4.heap.size, 0, none⟩) 2 2 [.int .u8 (IntKind.u8.wrap (C : Int)), .int .u8 (IntKind.u8.wrap (T : Int))] := (new_rowN w4 [.int .u8 (IntKind.u8.wrap (C : Int)), .int .u8 (IntKind.u8.wrap (T : Int))] 5).drew; generalize (w4.alloc (.cells #[.int .u8 (IntKind.u8.wrap (C : Int)), .int .u8 (IntKind.u8.wrap (T : Int))] 5)).drew = w6 at *; have hz6 : w4.drew.heap.size ≤ w6.heap.size := he6.size; have b6 : Below W.heap.size W w6 := b5.trans (he6.below b5.size (by omega)); replace x := x.keep he6 (by omega); replace aE_0 := he6.cell aE_0 (by simp only; omega); replace aE_1 := he6.cell aE_1 (by simp only; omega); replace aE_2 := he6.cell aE_2 (by simp only; omega); replace aE_3 := he6.cell aE_3 (by simp only; omega); replace aE_4 := he6.cell aE_4 (by simp only; omega); replace aE_5 := he6.cell aE_5 (by simp only; omega); replace aE_6 := he6.cell aE_6 (by simp only; omega); replace aE_l := Nat.lt_of_lt_of_le aE_l hz6; replace b1 : OwnB w6 (w4.heap.size) (w4.heap.size + 1) _ 2 2 (digs C 1 ++ digs T 1) := (by unfold OwnB; rw [hCT]; exact b1); refine step_app _ (by rfl) _ _ 22 (by rfl) 5 i0 (.int .u8 0) 1 1 Tryd.underlying22 hi0 hj0 hj1 hj2 rfl (by omega) (by rfl) x 2 (by rfl) (b1.rd (B := w6.heap.size) (by omega)) (byteCells_one' _) (by unfold maxLen; omega) (by omega) (by omega) ?_; intro Az cz w7 z hE _; have he7 : Eff (w2.heap.size) (w4.heap.size) w6 w7 := hE; have hz7 : w6.heap.size ≤ w7.heap.size := he7.size; have b7 : Below W.heap.size W w7 := b6.trans (he7.below b6.size (by omega)); replace b1 := b1.keep he7 (by omega); replace aE_0 := he7.cell aE_0 (by simp only; omega); replace aE_1 := he7.cell aE_1 (by simp only; omega); replace aE_2 := he7.cell aE_2 (by simp only; omega); replace aE_3 := he7.cell aE_3 (by simp only; omega); replace aE_4 := he7.cell aE_4 (by simp only; omega); replace aE_5 := he7.cell aE_5 (by simp only; omega); replace aE_6 := he7.cell aE_6 (by simp only; omega); replace aE_l := Nat.lt_of_lt_of_le aE_l hz7; clear hE; clear x; replace z := OwnB.of_app z; clear b1) | (go_at_call 49; refine (putNum_any (w2.heap.size) (w7.heap.size) _ 7 _ ([69] ++ digs Kd 1 ++ digs K 3 ++ (digs C 1 ++ digs T 1)) M 7 (by omega) (by omega) w7 z (by omega)).mono ?_; rintro e w8 ⟨Au, cu, rfl, u, hb⟩; have he := Eff.of_low hb; clear hb; have he8 : Eff (w2.heap.size) (w7.heap.size) w7 w8 := he; have hz8 : w7.heap.size ≤ w8.heap.size := he8.size; have b8 : Below W.heap.size W w8 := b7.trans (he8.below b7.size (by omega)); replace aE_0 := he8.cell aE_0 (by simp only; omega); replace aE_1 := he8.cell aE_1 (by simp only; omega); replace aE_2 := he8.cell aE_2 (by simp only; omega); replace aE_3 := he8.cell aE_3 (by simp only; omega); replace aE_4 := he8.cell aE_4 (by simp only; omega); replace aE_5 := he8.cell aE_5 (by simp only; omega); replace aE_6 := he8.cell aE_6 (by simp only; omega); replace aE_l := Nat.lt_of_lt_of_le aE_l hz8; clear he; clear z) | (go_at_call 49; refine (putNum_any (w2.heap.size) (w8.heap.size) _ 14 _ ([69] ++ digs Kd 1 ++ digs K 3 ++ (digs C 1 ++ digs T 1) ++ digs M 7) F 7 (by omega) (by omega) w8 u (by omega)).mono ?_; rintro e w9 ⟨Av, cv, rfl, v, hb⟩; have he := Eff.of_low hb; clear hb; have he9 : Eff (w2.heap.size) (w8.heap.size) w8 w9 := he; have hz9 : w8.heap.size ≤ w9.heap.size := he9.size; have b9 : Below W.heap.size W w9 := b8.trans (he9.below b8.size (by omega)); replace aE_0 := he9.cell aE_0 (by simp only; omega); replace aE_1 := he9.cell aE_1 (by simp only; omega); replace aE_2 := he9.cell aE_2 (by simp only; omega); replace aE_3 := he9.cell aE_3 (by simp only; omega); replace aE_4 := he9.cell aE_4 (by simp only; omega); replace aE_5 := he9.cell aE_5 (by simp only; omega); replace aE_6 := he9.cell aE_6 (by simp only; omega); replace aE_l := Nat.lt_of_lt_of_le aE_l hz9; clear he; clear u))
    go_wp2_with (at_builtin; refine wpList_app _ rfl _ _ 22 rfl 5 i0 (.int .u8 0) 1 1 Tryd.underlying22 hi0 hj0 hj1 hj2 rfl (by omega) rfl (Own.alloc v _) 1 rfl (rd_newN w9 [.int .u8 1] 5) (by intro u hu; simp only [List.mem_cons, List.not_mem_nil, or_false] at hu; rcases hu with rfl <;> rfl) (by unfold maxLen; (try simp only [List.length_cons, List.length_nil]); omega) (by (try simp only [List.length_cons, List.length_nil]); omega) (by simp; omega) ?_; intro Ar cr w10 r hE _; have he10 : Eff (w2.heap.size) (w9.heap.size) w9 w10 := ((Eff.refl _ _ _).new _).trans hE; have hz10 : w9.heap.size ≤ w10.heap.size := he10.size; have b10 : Below W.heap.size W w10 := b9.trans (he10.below b9.size (by omega)); replace aE_0 := he10.cell aE_0 (by simp only; omega); replace aE_1 := he10.cell aE_1 (by simp only; omega); replace aE_2 := he10.cell aE_2 (by simp only; omega); replace aE_3 := he10.cell aE_3 (by simp only; omega); replace aE_4 := he10.cell aE_4 (by simp only; omega); replace aE_5 := he10.cell aE_5 (by simp only; omega); replace aE_6 := he10.cell aE_6 (by simp only; omega); replace aE_l := Nat.lt_of_lt_of_le aE_l hz10; clear hE; clear v; replace r : OwnB w10 (w2.heap.size) (w10.heap.size) Ar (21 + 1) cr _ := OwnB.of_app (l' := [1]) (by rw [← hy] at r; exact r))
    go_ret2
    exact .inl ⟨rfl, _, _, by simp, Own.wide (lo' := W.heap.size) (ev_bytes r) (by omega) (Nat.le_refl _) (Nat.le_refl _), b10⟩
theorem fld_le {c : Bool} {n lo hi : Int} (h : fld c n lo hi = true) (h0 : 0 ≤ lo) (h1 : 0 ≤ hi) : 0 ≤ n ∧ n ≤ hi := by
  cases c
  · simp [fld] at h; omega
  · have := inB_le (by simpa [fld] using h); omega
theorem evOk_le {k key ch to amt fee : Int} {y : Bool} (h : evOk k key ch to amt fee y = true) : (1 ≤ k ∧ k ≤ 11) ∧ (0 ≤ key ∧ key ≤ 1000000) ∧ (0 ≤ ch ∧ ch ≤ 99) ∧ (0 ≤ to ∧ to ≤ 99) ∧ (0 ≤ amt ∧ amt ≤ 1125899906842624) ∧ (0 ≤ fee ∧ fee ≤ 1125899906842624) := by
  simp only [evOk, evOkL, Bool.and_eq_true] at h
  obtain ⟨⟨⟨⟨⟨⟨⟨h0, h1⟩, h2⟩, h3⟩, _⟩, h4⟩, h5⟩, _⟩ := h
  refine ⟨inB_le h0, fld_le h1 (by omega) (by omega), fld_le h2 (by omega) (by omega), fld_le h3 (by omega) (by omega), fld_le h4 (by split <;> omega) (by omega), ?_⟩
  have := fld_le h5 (by omega) (by split <;> omega)
  split at this <;> omega
theorem impl_EventBody (k key ch to amt fee : Int) (y : Bool) (W : World) :
    Calls Tryd.prog 20 #[.agg #[.int .i64 k, .int .i64 key, .int .i64 ch, .int .i64 to, .int .i64 amt, .int .i64 fee, .bool y]] W (PutB 22 (evBytes k.toNat key.toNat ch.toNat to.toNat amt.toNat fee.toNat y) (evOk k key ch to amt fee y) W) := by
  rcases hok : evOk k key ch to amt fee y with _ | _
  · go_enter Tryd.func20, Tryd.ntmps20
    go_wp2_with (go_at_call 48; refine (impl_EventOk k key ch to amt fee y _).mono ?_; rintro e w1 ⟨rfl, hb1⟩; rw [hok])
    go_ret2
    exact PutB.no ((below1s _ _).trans (hb1.mono (by simp)))
  · obtain ⟨h1, h2, h3, h4, h5, h6⟩ := evOk_le hok
    obtain ⟨Kd, rfl⟩ : ∃ x : Nat, k = x := ⟨k.toNat, by omega⟩
    obtain ⟨K, rfl⟩ : ∃ x : Nat, key = x := ⟨key.toNat, by omega⟩
    obtain ⟨C, rfl⟩ : ∃ x : Nat, ch = x := ⟨ch.toNat, by omega⟩
    obtain ⟨T, rfl⟩ : ∃ x : Nat, to = x := ⟨to.toNat, by omega⟩
    obtain ⟨M, rfl⟩ : ∃ x : Nat, amt = x := ⟨amt.toNat, by omega⟩
    obtain ⟨F, rfl⟩ : ∃ x : Nat, fee = x := ⟨fee.toNat, by omega⟩
    exact impl_EventBody_ok Kd K C T M F y (by omega) (by omega) (by omega) (by omega) (by omega) (by omega) hok W

end Go.Proofs.YtnjdmmdbminmoaaDoor
