/- Sectors as bytes: SectorBytes (program and reference). -/
import Derived.Test.YtblenfhacaecmaaSec
import Derived.Test.YtblenfhacaecmaaApp
namespace Go.Proofs.Ytblenfhacaecmaa
open Go.RowKit
theorem PutB.yes {n N : Nat} {l : List UInt8} {w : World} {e : Ending} {w' : World} (h : PutB n l true w e w') (hN : n = N := by rfl) :
    ∃ A c, e = .returned (.tuple #[.slice A N c, .bool true]) ∧ OwnB w' w.heap.size w'.heap.size A N c l ∧ Below w.heap.size w w' := by
  subst hN
  rcases h with ⟨_, A, c, he, ho, hb⟩ | ⟨h, _⟩
  · exact ⟨A, c, he, ho, hb⟩
  · cases h
theorem rd_cell {w : World} {b B : Nat} {u : UInt8} {z : Int} (h : w.cell? ⟨b, 0, none⟩ = some (.int .u8 z)) (hb : b < B) (hz : z = (u.toNat : Int) := by rfl) : Rd w B 1 (some ⟨b, 0, none⟩) 1 (Lib.byteCells [u]) := by
  subst hz
  refine ⟨rfl, .inr ⟨b, 0, rfl, hb, fun j v hv => ?_⟩⟩
  match j, hv with
  | 0, hv =>
    simp only [Lib.byteCells, List.map_cons, List.map_nil, List.getElem?_cons_zero, Option.some.injEq] at hv
    subst hv
    exact h
theorem OwnB.of_app {w : World} {lo hi n c : Nat} {A : Option Addr} {l l' : List UInt8} (h : Own 5 1 w lo hi A n c (Lib.byteCells l ++ Lib.byteCells l')) : OwnB w lo hi A n c (l ++ l') := by
  unfold OwnB
  simpa [Lib.byteCells] using h
theorem OwnB.of_zeros {w : World} {lo hi n c m : Nat} {A : Option Addr} {l : List UInt8} (h : Own 5 1 w lo hi A n c (Lib.byteCells l ++ zs m)) : OwnB w lo hi A n c (l ++ List.replicate m 0) := by
  rw [← byteCells_zeros] at h
  exact OwnB.of_app h
/-- The bytes of a sector. -/
def secBytes (Q P n : Nat) (l : List UInt8) : List UInt8 := [74] ++ digs Q 3 ++ digs P 3 ++ digs n 1 ++ l ++ List.replicate (114 - n) 0 ++ digs Q 3 ++ digs P 3
theorem secOk_le {q p : Int} {n : Nat} (h : secOk q p n = true) : 0 ≤ q ∧ q ≤ 599 ∧ 1 ≤ p ∧ p ≤ 16000000 ∧ n ≤ 100 := by
  simp only [secOk, Bool.and_eq_true, decide_eq_true_eq] at h
  have h1 := inB_le h.1.1
  have h2 := inB_le h.1.2
  omega
set_option maxHeartbeats 4000000 in
set_option maxRecDepth 100000 in
theorem spec_SectorBytes_ok (Q P : Nat) (A : Option Addr) (n c : Nat) (l : List UInt8) (hQ : Q ≤ 599) (_hP1 : 1 ≤ P) (hP : P ≤ 16000000) (hn : n ≤ 100) (hok : secOk Q P n = true) (W : World) (hr : Rd W W.heap.size 1 A n (Lib.byteCells l)) :
    Calls Try.prog 83 #[.agg #[.int .i64 (Q : Int), .int .i64 (P : Int), .slice A n c]] W (PutB 128 (secBytes Q P n l) true W) := by
  obtain ⟨i0, hi0, hj0, hj1, hj2⟩ := info_parts info_u8
  go_enter Try.func83, Try.ntmps83
  go_wp2_with fail
  have he1 : Eff 0 0 W (W.alloc (.cells #[.int .i64 (Q : Int), .int .i64 (P : Int), .slice A n c] 91)) := Eff.alloc _ _
  have hs1 : (W.alloc (.cells #[.int .i64 (Q : Int), .int .i64 (P : Int), .slice A n c] 91)).heap.size = W.heap.size + 1 := (by simp)
  have aS_0 : (W.alloc (.cells #[.int .i64 (Q : Int), .int .i64 (P : Int), .slice A n c] 91)).cell? ⟨W.heap.size, 0, none⟩ = some (.int .i64 (Q : Int)) := var_cell _ _ _ _ _ rfl
  have aS_1 : (W.alloc (.cells #[.int .i64 (Q : Int), .int .i64 (P : Int), .slice A n c] 91)).cell? ⟨W.heap.size, 1, none⟩ = some (.int .i64 (P : Int)) := var_cell _ _ _ _ _ rfl
  have aS_2 : (W.alloc (.cells #[.int .i64 (Q : Int), .int .i64 (P : Int), .slice A n c] 91)).cell? ⟨W.heap.size, 2, none⟩ = some (.slice A n c) := var_cell _ _ _ _ _ rfl
  generalize (W.alloc (.cells #[.int .i64 (Q : Int), .int .i64 (P : Int), .slice A n c] 91)) = w1 at *
  have hz1 : W.heap.size ≤ w1.heap.size := he1.size
  have b1 : Below W.heap.size W w1 := he1.below (Nat.le_refl _) (by omega)
  replace hr := (hr.below (he1.below (B := W.heap.size) (by omega) (by omega)) (Nat.le_refl _))
  have aS_l : W.heap.size < w1.heap.size := (by omega)
  refine (spec_SectorOk (Q : Int) (P : Int) A n c (by omega) w1).mono ?_
  rintro e w2 ⟨rfl, hb⟩
  have he2 : Eff 0 0 w1 w2 := Eff.of hb
  have hz2 : w1.heap.size ≤ w2.heap.size := he2.size
  have b2 : Below W.heap.size W w2 := b1.trans (he2.below b1.size (by omega))
  replace hr := (hr.below (he2.below (B := W.heap.size) (by omega) (by omega)) (Nat.le_refl _))
  replace aS_0 := he2.cell aS_0 (by simp only; omega)
  replace aS_1 := he2.cell aS_1 (by simp only; omega)
  replace aS_2 := he2.cell aS_2 (by simp only; omega)
  replace aS_l := Nat.lt_of_lt_of_le aS_l hz2
  clear hb
  rw [hok]
  go_wp2_with fail
  have he3 : Eff 0 0 w2 (w2.alloc (.cells #[.int .u8 74] 5)) := Eff.alloc _ _
  have hs3 : (w2.alloc (.cells #[.int .u8 74] 5)).heap.size = w2.heap.size + 1 := (by simp)
  have b0_0 : (w2.alloc (.cells #[.int .u8 74] 5)).cell? ⟨w2.heap.size, 0, none⟩ = some (.int .u8 74) := var_cell _ _ _ _ _ rfl
  generalize (w2.alloc (.cells #[.int .u8 74] 5)) = w3 at *
  have hz3 : w2.heap.size ≤ w3.heap.size := he3.size
  have b3 : Below W.heap.size W w3 := b2.trans (he3.below b2.size (by omega))
  replace hr := (hr.below (he3.below (B := W.heap.size) (by omega) (by omega)) (Nat.le_refl _))
  replace aS_0 := he3.cell aS_0 (by simp only; omega)
  replace aS_1 := he3.cell aS_1 (by simp only; omega)
  replace aS_2 := he3.cell aS_2 (by simp only; omega)
  replace aS_l := Nat.lt_of_lt_of_le aS_l hz3
  have b0_l : w2.heap.size < w3.heap.size := (by omega)
  refine (spec_PutNum_ok _ 1 _ ([74]) Q 3 (by omega) (by omega) (by omega) (by omega) w3 (rd_cell b0_0 (by omega))).mono ?_
  rintro e w4 hpost
  obtain ⟨Ax, cx, rfl, x, hb⟩ := hpost.yes (N := 4)
  clear hpost
  have he4 : Eff 0 0 w3 w4 := Eff.of hb
  have hz4 : w3.heap.size ≤ w4.heap.size := he4.size
  have b4 : Below W.heap.size W w4 := b3.trans (he4.below b3.size (by omega))
  replace hr := (hr.below (he4.below (B := W.heap.size) (by omega) (by omega)) (Nat.le_refl _))
  replace aS_0 := he4.cell aS_0 (by simp only; omega)
  replace aS_1 := he4.cell aS_1 (by simp only; omega)
  replace aS_2 := he4.cell aS_2 (by simp only; omega)
  replace b0_0 := he4.cell b0_0 (by simp only; omega)
  replace aS_l := Nat.lt_of_lt_of_le aS_l hz4
  replace b0_l := Nat.lt_of_lt_of_le b0_l hz4
  clear hb
  clear b0_l
  clear b0_0
  go_wp2_with fail
  refine (spec_PutNum_ok _ 4 _ ([74] ++ digs Q 3) P 3 (by omega) (by omega) (by omega) (by omega) w4 (x.rd (by omega))).mono ?_
  rintro e w5 hpost
  obtain ⟨Ay, cy, rfl, y, hb⟩ := hpost.yes (N := 7)
  clear hpost
  have he5 : Eff 0 0 w4 w5 := Eff.of hb
  have hz5 : w4.heap.size ≤ w5.heap.size := he5.size
  have b5 : Below W.heap.size W w5 := b4.trans (he5.below b4.size (by omega))
  replace hr := (hr.below (he5.below (B := W.heap.size) (by omega) (by omega)) (Nat.le_refl _))
  replace x := x.keep he5 (by omega)
  replace aS_0 := he5.cell aS_0 (by simp only; omega)
  replace aS_1 := he5.cell aS_1 (by simp only; omega)
  replace aS_2 := he5.cell aS_2 (by simp only; omega)
  replace aS_l := Nat.lt_of_lt_of_le aS_l hz5
  clear hb
  clear x
  go_wp2_with fail
  refine (spec_PutNum_ok _ 7 _ ([74] ++ digs Q 3 ++ digs P 3) n 1 (by omega) (by omega) (by omega) (by omega) w5 (y.rd (by omega))).mono ?_
  rintro e w6 hpost
  obtain ⟨Az, cz, rfl, z, hb⟩ := hpost.yes (N := 8)
  clear hpost
  have he6 : Eff 0 0 w5 w6 := Eff.of hb
  have hz6 : w5.heap.size ≤ w6.heap.size := he6.size
  have b6 : Below W.heap.size W w6 := b5.trans (he6.below b5.size (by omega))
  replace hr := (hr.below (he6.below (B := W.heap.size) (by omega) (by omega)) (Nat.le_refl _))
  replace y := y.keep he6 (by omega)
  replace aS_0 := he6.cell aS_0 (by simp only; omega)
  replace aS_1 := he6.cell aS_1 (by simp only; omega)
  replace aS_2 := he6.cell aS_2 (by simp only; omega)
  replace aS_l := Nat.lt_of_lt_of_le aS_l hz6
  clear hb
  clear y
  go_wp2_with (first | (at_builtin; refine wpList_app _ rfl _ _ 27 rfl 5 i0 (.int .u8 0) 1 1 Try.underlying27 hi0 hj0 hj1 hj2 rfl (by omega) rfl z c rfl (hr) (byteCells_one' _) (by unfold maxLen; omega) (by omega) (by omega) ?_; intro Av cv w7 v hE _; have he7 : Eff (w5.heap.size) (w6.heap.size) w6 w7 := hE; have hz7 : w6.heap.size ≤ w7.heap.size := he7.size; have b7 : Below W.heap.size W w7 := b6.trans (he7.below b6.size (by omega)); replace hr := (hr.below (he7.below (B := W.heap.size) (by omega) (by omega)) (Nat.le_refl _)); replace aS_0 := he7.cell aS_0 (by simp only; omega); replace aS_1 := he7.cell aS_1 (by simp only; omega); replace aS_2 := he7.cell aS_2 (by simp only; omega); replace aS_l := Nat.lt_of_lt_of_le aS_l hz7; clear hE; clear z; replace v := OwnB.of_app v) | (at_builtin; refine wpList_app_zeros _ rfl _ _ 27 3 rfl 5 i0 Try.underlying27 Try.underlying3 hi0 hj0 hj1 hj2 rfl v (by omega) (114 - n) (by show Value.int .i64 _ = _; congr 1; omega) (by omega) (by omega) ?_; intro Au cu w8 u hE; have he8 : Eff (w5.heap.size) (w7.heap.size) w7 w8 := hE; have hz8 : w7.heap.size ≤ w8.heap.size := he8.size; have b8 : Below W.heap.size W w8 := b7.trans (he8.below b7.size (by omega)); replace hr := (hr.below (he8.below (B := W.heap.size) (by omega) (by omega)) (Nat.le_refl _)); replace aS_0 := he8.cell aS_0 (by simp only; omega); replace aS_1 := he8.cell aS_1 (by simp only; omega); replace aS_2 := he8.cell aS_2 (by simp only; omega); replace aS_l := Nat.lt_of_lt_of_le aS_l hz8; clear hE; clear v; replace u := OwnB.of_zeros u))
  have e122 : 8 + n + (114 - n) = 122 := by omega
  rw [e122] at u ⊢
  refine (spec_PutNum_ok _ 122 _ ([74] ++ digs Q 3 ++ digs P 3 ++ digs n 1 ++ l ++ List.replicate (114 - n) 0) Q 3 (by omega) (by omega) (by omega) (by omega) w8 (u.rd (by omega))).mono ?_
  rintro e w9 hpost
  obtain ⟨As, cs, rfl, s, hb⟩ := hpost.yes (N := 125)
  clear hpost
  have he9 : Eff 0 0 w8 w9 := Eff.of hb
  have hz9 : w8.heap.size ≤ w9.heap.size := he9.size
  have b9 : Below W.heap.size W w9 := b8.trans (he9.below b8.size (by omega))
  replace hr := (hr.below (he9.below (B := W.heap.size) (by omega) (by omega)) (Nat.le_refl _))
  replace u := u.keep he9 (by omega)
  replace aS_0 := he9.cell aS_0 (by simp only; omega)
  replace aS_1 := he9.cell aS_1 (by simp only; omega)
  replace aS_2 := he9.cell aS_2 (by simp only; omega)
  replace aS_l := Nat.lt_of_lt_of_le aS_l hz9
  clear hb
  clear u
  go_wp2_with fail
  refine (spec_PutNum_ok _ 125 _ ([74] ++ digs Q 3 ++ digs P 3 ++ digs n 1 ++ l ++ List.replicate (114 - n) 0 ++ digs Q 3) P 3 (by omega) (by omega) (by omega) (by omega) w9 (s.rd (by omega))).mono ?_
  rintro e w10 hpost
  obtain ⟨Ar, cr, rfl, r, hb⟩ := hpost.yes (N := 128)
  clear hpost
  have he10 : Eff 0 0 w9 w10 := Eff.of hb
  have hz10 : w9.heap.size ≤ w10.heap.size := he10.size
  have b10 : Below W.heap.size W w10 := b9.trans (he10.below b9.size (by omega))
  replace hr := (hr.below (he10.below (B := W.heap.size) (by omega) (by omega)) (Nat.le_refl _))
  replace s := s.keep he10 (by omega)
  replace aS_0 := he10.cell aS_0 (by simp only; omega)
  replace aS_1 := he10.cell aS_1 (by simp only; omega)
  replace aS_2 := he10.cell aS_2 (by simp only; omega)
  replace aS_l := Nat.lt_of_lt_of_le aS_l hz10
  clear hb
  go_wp2_with fail
  go_ret2
  exact .inl ⟨rfl, _, _, by simp, Own.wide (lo' := W.heap.size) r (by omega) (Nat.le_refl _) (Nat.le_refl _), b10⟩
theorem spec_SectorBytes (q p : Int) (A : Option Addr) (n c : Nat) (l : List UInt8) (hn : n ≤ 4611686018427387904) (W : World) (hr : Rd W W.heap.size 1 A n (Lib.byteCells l)) :
    Calls Try.prog 83 #[.agg #[.int .i64 q, .int .i64 p, .slice A n c]] W (PutB 128 (secBytes q.toNat p.toNat n l) (secOk q p n) W) := by
  rcases hok : secOk q p n with _ | _
  · go_enter Try.func83, Try.ntmps83
    go_wp2_with (go_at_call 89; refine (spec_SectorOk q p A n c hn _).mono ?_; rintro e w1 ⟨rfl, hb1⟩; rw [hok])
    go_ret2
    exact PutB.no ((below1s _ _).trans (hb1.mono (by simp)))
  · obtain ⟨h1, h2, h3, h4, h5⟩ := secOk_le hok
    obtain ⟨Q, rfl⟩ : ∃ Q : Nat, q = Q := ⟨q.toNat, by omega⟩
    obtain ⟨P, rfl⟩ : ∃ P : Nat, p = P := ⟨p.toNat, by omega⟩
    exact spec_SectorBytes_ok Q P A n c l (by omega) (by omega) (by omega) h5 hok W hr
set_option maxHeartbeats 4000000 in
set_option maxRecDepth 100000 in
theorem impl_SectorBytes_ok (Q P : Nat) (A : Option Addr) (n c : Nat) (l : List UInt8) (_hQ : Q ≤ 599) (_hP1 : 1 ≤ P) (_hP : P ≤ 16000000) (hn : n ≤ 100) (hok : secOk Q P n = true) (W : World) (hr : Rd W W.heap.size 1 A n (Lib.byteCells l)) :
    Calls Try.prog 92 #[.agg #[.int .i64 (Q : Int), .int .i64 (P : Int), .slice A n c]] W (PutB 128 (secBytes Q P n l) true W) := by
  obtain ⟨i0, hi0, hj0, hj1, hj2⟩ := info_parts info_u8
  go_enter Try.func92, Try.ntmps92
  go_wp2_with fail
  have he1 : Eff 0 0 W (W.alloc (.cells #[.int .i64 (Q : Int), .int .i64 (P : Int), .slice A n c] 91)) := Eff.alloc _ _
  have hs1 : (W.alloc (.cells #[.int .i64 (Q : Int), .int .i64 (P : Int), .slice A n c] 91)).heap.size = W.heap.size + 1 := (by simp)
  have aS_0 : (W.alloc (.cells #[.int .i64 (Q : Int), .int .i64 (P : Int), .slice A n c] 91)).cell? ⟨W.heap.size, 0, none⟩ = some (.int .i64 (Q : Int)) := var_cell _ _ _ _ _ rfl
  have aS_1 : (W.alloc (.cells #[.int .i64 (Q : Int), .int .i64 (P : Int), .slice A n c] 91)).cell? ⟨W.heap.size, 1, none⟩ = some (.int .i64 (P : Int)) := var_cell _ _ _ _ _ rfl
  have aS_2 : (W.alloc (.cells #[.int .i64 (Q : Int), .int .i64 (P : Int), .slice A n c] 91)).cell? ⟨W.heap.size, 2, none⟩ = some (.slice A n c) := var_cell _ _ _ _ _ rfl
  generalize (W.alloc (.cells #[.int .i64 (Q : Int), .int .i64 (P : Int), .slice A n c] 91)) = w1 at *
  have hz1 : W.heap.size ≤ w1.heap.size := he1.size
  have b1 : Below W.heap.size W w1 := he1.below (Nat.le_refl _) (by omega)
  replace hr := (hr.below (he1.below (B := W.heap.size) (by omega) (by omega)) (Nat.le_refl _))
  have aS_l : W.heap.size < w1.heap.size := (by omega)
  refine (impl_SectorOk (Q : Int) (P : Int) A n c (by omega) w1).mono ?_
  rintro e w2 ⟨rfl, hb⟩
  have he2 : Eff 0 0 w1 w2 := Eff.of hb
  have hz2 : w1.heap.size ≤ w2.heap.size := he2.size
  have b2 : Below W.heap.size W w2 := b1.trans (he2.below b1.size (by omega))
  replace hr := (hr.below (he2.below (B := W.heap.size) (by omega) (by omega)) (Nat.le_refl _))
  replace aS_0 := he2.cell aS_0 (by simp only; omega)
  replace aS_1 := he2.cell aS_1 (by simp only; omega)
  replace aS_2 := he2.cell aS_2 (by simp only; omega)
  replace aS_l := Nat.lt_of_lt_of_le aS_l hz2
  clear hb
  rw [hok]
  go_wp2_with fail
  have he3 : Eff 0 0 w2 w2.drew := (Eff.refl _ _ _).drew
  have hz3 : w2.heap.size ≤ w2.drew.heap.size := he3.size
  have b3 : Below W.heap.size W w2.drew := b2.trans (he3.below b2.size (by omega))
  replace hr := (hr.below (he3.below (B := W.heap.size) (by omega) (by omega)) (Nat.le_refl _))
  replace aS_0 := he3.cell aS_0 (by simp only; omega)
  replace aS_1 := he3.cell aS_1 (by simp only; omega)
  replace aS_2 := he3.cell aS_2 (by simp only; omega)
  replace aS_l := Nat.lt_of_lt_of_le aS_l hz3
  go_region_held3 (fun w' => w'.cell? ⟨W.heap.size, 0, none⟩ = some (.int .i64 (Q : Int)) ∧ w'.cell? ⟨W.heap.size, 1, none⟩ = some (.int .i64 (P : Int)) ∧ w'.cell? ⟨W.heap.size, 2, none⟩ = some (.slice A n c)) ((go_split_ands; (repeat' apply And.intro) <;> (first | assumption | (exact Eff.cell (w := w2.drew) (lo := 0) (hi := 0) (Eff.undrew (Eff.drew (Eff.alloc _ _))) (by assumption) (by simp only; omega))))) (first | (go_at_call 96; have he4 : Eff 0 0 w2.drew (w2.alloc (.cells #[.int .u8 74] 5)).drew := (Eff.undrew (Eff.drew (Eff.alloc _ _))); have hs4 : (w2.alloc (.cells #[.int .u8 74] 5)).drew.heap.size = w2.heap.size + 1 := (by simp); have b0 := (new_row1 w2 (.int .u8 74) 5).drew; generalize (w2.alloc (.cells #[.int .u8 74] 5)).drew = w4 at *; have hz4 : w2.heap.size ≤ w4.heap.size := he4.size; have b4 : Below W.heap.size W w4 := b3.trans (he4.below b3.size (by omega)); replace hr := (hr.below (he4.below (B := W.heap.size) (by omega) (by omega)) (Nat.le_refl _)); replace aS_0 := he4.cell aS_0 (by simp only; omega); replace aS_1 := he4.cell aS_1 (by simp only; omega); replace aS_2 := he4.cell aS_2 (by simp only; omega); replace aS_l := Nat.lt_of_lt_of_le aS_l hz4; replace b0 : OwnB w4 (w2.heap.size) (w2.heap.size + 1) _ 1 1 [74] := b0; refine (putNum_any (w2.heap.size) (w2.heap.size + 1) _ 1 _ ([74]) Q 3 (by omega) (by omega) w4 b0 (by omega)).mono ?_; rintro e w5 ⟨Ax, cx, rfl, x, hb⟩; have he := Eff.of_low hb; clear hb; have he5 : Eff (w2.heap.size) (w4.heap.size) w4 w5 := he; have hz5 : w4.heap.size ≤ w5.heap.size := he5.size; have b5 : Below W.heap.size W w5 := b4.trans (he5.below b4.size (by omega)); replace hr := (hr.below (he5.below (B := W.heap.size) (by omega) (by omega)) (Nat.le_refl _)); replace aS_0 := he5.cell aS_0 (by simp only; omega); replace aS_1 := he5.cell aS_1 (by simp only; omega); replace aS_2 := he5.cell aS_2 (by simp only; omega); replace aS_l := Nat.lt_of_lt_of_le aS_l hz5; clear he; clear b0) | (go_at_call 96; refine (putNum_any (w2.heap.size) (w5.heap.size) _ 4 _ ([74] ++ digs Q 3) P 3 (by omega) (by omega) w5 x (by omega)).mono ?_; rintro e w6 ⟨Ay, cy, rfl, y, hb⟩; have he := Eff.of_low hb; clear hb; have he6 : Eff (w2.heap.size) (w5.heap.size) w5 w6 := he; have hz6 : w5.heap.size ≤ w6.heap.size := he6.size; have b6 : Below W.heap.size W w6 := b5.trans (he6.below b5.size (by omega)); replace hr := (hr.below (he6.below (B := W.heap.size) (by omega) (by omega)) (Nat.le_refl _)); replace aS_0 := he6.cell aS_0 (by simp only; omega); replace aS_1 := he6.cell aS_1 (by simp only; omega); replace aS_2 := he6.cell aS_2 (by simp only; omega); replace aS_l := Nat.lt_of_lt_of_le aS_l hz6; clear he; clear x))
  have hdig : Lib.byteCells (digs n 1) = [Value.int .u8 (IntKind.u8.wrap (n : Int))] := by simp [digs, Lib.byteCells, IntKind.wrap_u8']
  go_wp2_with fail
  have he7 : Eff 0 0 w6 w6.drew := (Eff.refl _ _ _).drew
  have hz7 : w6.heap.size ≤ w6.drew.heap.size := he7.size
  have b7 : Below W.heap.size W w6.drew := b6.trans (he7.below b6.size (by omega))
  replace hr := (hr.below (he7.below (B := W.heap.size) (by omega) (by omega)) (Nat.le_refl _))
  replace y := y.keep he7 (by omega)
  replace aS_0 := he7.cell aS_0 (by simp only; omega)
  replace aS_1 := he7.cell aS_1 (by simp only; omega)
  replace aS_2 := he7.cell aS_2 (by simp only; omega)
  replace aS_l := Nat.lt_of_lt_of_le aS_l hz7
  go_region_held3 (fun w' => w'.cell? ⟨W.heap.size, 0, none⟩ = some (.int .i64 (Q : Int)) ∧ w'.cell? ⟨W.heap.size, 1, none⟩ = some (.int .i64 (P : Int)) ∧ w'.cell? ⟨W.heap.size, 2, none⟩ = some (.slice A n c)) ((go_split_ands; (repeat' apply And.intro) <;> (first | assumption | (exact Eff.cell (w := w6.drew) (lo := 0) (hi := 0) (Eff.undrew (Eff.drew (Eff.alloc _ _))) (by assumption) (by simp only; omega))))) (first | (have he8 : Eff 0 0 w6.drew (w6.alloc (.cells #[.int .u8 (IntKind.u8.wrap (n : Int))] 5)).drew := (Eff.undrew (Eff.drew (Eff.alloc _ _))); have hs8 : (w6.alloc (.cells #[.int .u8 (IntKind.u8.wrap (n : Int))] 5)).drew.heap.size = w6.heap.size + 1 := (by simp); have b1 := (new_row1 w6 (.int .u8 (IntKind.u8.wrap (n : Int))) 5).drew; generalize (w6.alloc (.cells #[.int .u8 (IntKind.u8.wrap (n : Int))] 5)).drew = w8 at *; have hz8 : w6.heap.size ≤ w8.heap.size := he8.size; have b8 : Below W.heap.size W w8 := b7.trans (he8.below b7.size (by omega)); replace hr := (hr.below (he8.below (B := W.heap.size) (by omega) (by omega)) (Nat.le_refl _)); replace y := y.keep he8 (by omega); replace aS_0 := he8.cell aS_0 (by simp only; omega); replace aS_1 := he8.cell aS_1 (by simp only; omega); replace aS_2 := he8.cell aS_2 (by simp only; omega); replace aS_l := Nat.lt_of_lt_of_le aS_l hz8; replace b1 : OwnB w8 (w6.heap.size) (w6.heap.size + 1) _ 1 1 (digs n 1) := (by unfold OwnB; rw [hdig]; exact b1); refine step_app _ (by rfl) _ _ 27 (by rfl) 5 i0 (.int .u8 0) 1 1 Try.underlying27 hi0 hj0 hj1 hj2 rfl (by omega) (by rfl) y 1 (by rfl) (b1.rd (B := w8.heap.size) (by omega)) (byteCells_one' _) (by unfold maxLen; omega) (by omega) (by omega) ?_; intro Az cz w9 z hE _; have he9 : Eff (w2.heap.size) (w6.heap.size) w8 w9 := hE; have hz9 : w8.heap.size ≤ w9.heap.size := he9.size; have b9 : Below W.heap.size W w9 := b8.trans (he9.below b8.size (by omega)); replace hr := (hr.below (he9.below (B := W.heap.size) (by omega) (by omega)) (Nat.le_refl _)); replace b1 := b1.keep he9 (by omega); replace aS_0 := he9.cell aS_0 (by simp only; omega); replace aS_1 := he9.cell aS_1 (by simp only; omega); replace aS_2 := he9.cell aS_2 (by simp only; omega); replace aS_l := Nat.lt_of_lt_of_le aS_l hz9; clear hE; clear y; replace z := OwnB.of_app z; clear b1) | (refine step_app _ (by rfl) _ _ 27 (by rfl) 5 i0 (.int .u8 0) 1 1 Try.underlying27 hi0 hj0 hj1 hj2 rfl (by omega) (by rfl) z c (by rfl) (hr) (byteCells_one' _) (by unfold maxLen; omega) (by omega) (by omega) ?_; intro Av cv w10 v hE _; have he10 : Eff (w2.heap.size) (w9.heap.size) w9 w10 := hE; have hz10 : w9.heap.size ≤ w10.heap.size := he10.size; have b10 : Below W.heap.size W w10 := b9.trans (he10.below b9.size (by omega)); replace hr := (hr.below (he10.below (B := W.heap.size) (by omega) (by omega)) (Nat.le_refl _)); replace aS_0 := he10.cell aS_0 (by simp only; omega); replace aS_1 := he10.cell aS_1 (by simp only; omega); replace aS_2 := he10.cell aS_2 (by simp only; omega); replace aS_l := Nat.lt_of_lt_of_le aS_l hz10; clear hE; clear z; replace v := OwnB.of_app v))
  go_wp2_with (at_builtin; refine wpList_app_zeros _ rfl _ _ 27 3 rfl 5 i0 Try.underlying27 Try.underlying3 hi0 hj0 hj1 hj2 rfl v (by omega) (114 - n) (by show Value.int .i64 _ = _; congr 1; omega) (by omega) (by omega) ?_; intro Au cu w11 u hE; have he11 : Eff (w2.heap.size) (w10.heap.size) w10 w11 := hE; have hz11 : w10.heap.size ≤ w11.heap.size := he11.size; have b11 : Below W.heap.size W w11 := b10.trans (he11.below b10.size (by omega)); replace hr := (hr.below (he11.below (B := W.heap.size) (by omega) (by omega)) (Nat.le_refl _)); replace aS_0 := he11.cell aS_0 (by simp only; omega); replace aS_1 := he11.cell aS_1 (by simp only; omega); replace aS_2 := he11.cell aS_2 (by simp only; omega); replace aS_l := Nat.lt_of_lt_of_le aS_l hz11; clear hE; clear v; replace u := OwnB.of_zeros u)
  have e122 : 8 + n + (114 - n) = 122 := by omega
  rw [e122] at u ⊢
  have he12 : Eff 0 0 w11 w11.drew := (Eff.refl _ _ _).drew
  have hz12 : w11.heap.size ≤ w11.drew.heap.size := he12.size
  have b12 : Below W.heap.size W w11.drew := b11.trans (he12.below b11.size (by omega))
  replace hr := (hr.below (he12.below (B := W.heap.size) (by omega) (by omega)) (Nat.le_refl _))
  replace u := u.keep he12 (by omega)
  replace aS_0 := he12.cell aS_0 (by simp only; omega)
  replace aS_1 := he12.cell aS_1 (by simp only; omega)
  replace aS_2 := he12.cell aS_2 (by simp only; omega)
  replace aS_l := Nat.lt_of_lt_of_le aS_l hz12
  go_region_held3 (fun w' => w'.cell? ⟨W.heap.size, 0, none⟩ = some (.int .i64 (Q : Int)) ∧ w'.cell? ⟨W.heap.size, 1, none⟩ = some (.int .i64 (P : Int)) ∧ w'.cell? ⟨W.heap.size, 2, none⟩ = some (.slice A n c)) ((go_split_ands; (repeat' apply And.intro) <;> (first | assumption))) (first | (go_at_call 96; refine (putNum_any (w2.heap.size) (w11.heap.size) _ 122 _ ([74] ++ digs Q 3 ++ digs P 3 ++ digs n 1 ++ l ++ List.replicate (114 - n) 0) Q 3 (by omega) (by omega) w11.drew u (by omega)).mono ?_; rintro e w13 ⟨As, cs, rfl, s, hb⟩; have he := Eff.of_low hb; clear hb; have he13 : Eff (w2.heap.size) (w11.drew.heap.size) w11.drew w13 := he; have hz13 : w11.drew.heap.size ≤ w13.heap.size := he13.size; have b13 : Below W.heap.size W w13 := b12.trans (he13.below b12.size (by omega)); replace hr := (hr.below (he13.below (B := W.heap.size) (by omega) (by omega)) (Nat.le_refl _)); replace aS_0 := he13.cell aS_0 (by simp only; omega); replace aS_1 := he13.cell aS_1 (by simp only; omega); replace aS_2 := he13.cell aS_2 (by simp only; omega); replace aS_l := Nat.lt_of_lt_of_le aS_l hz13; clear he; clear u) | (go_at_call 96; refine (putNum_any (w2.heap.size) (w13.heap.size) _ 125 _ ([74] ++ digs Q 3 ++ digs P 3 ++ digs n 1 ++ l ++ List.replicate (114 - n) 0 ++ digs Q 3) P 3 (by omega) (by omega) w13 s (by omega)).mono ?_; rintro e w14 ⟨Ar, cr, rfl, r, hb⟩; have he := Eff.of_low hb; clear hb; have he14 : Eff (w2.heap.size) (w13.heap.size) w13 w14 := he; have hz14 : w13.heap.size ≤ w14.heap.size := he14.size; have b14 : Below W.heap.size W w14 := b13.trans (he14.below b13.size (by omega)); replace hr := (hr.below (he14.below (B := W.heap.size) (by omega) (by omega)) (Nat.le_refl _)); replace aS_0 := he14.cell aS_0 (by simp only; omega); replace aS_1 := he14.cell aS_1 (by simp only; omega); replace aS_2 := he14.cell aS_2 (by simp only; omega); replace aS_l := Nat.lt_of_lt_of_le aS_l hz14; clear he; clear s))
  go_wp2_with fail
  go_ret2
  exact .inl ⟨rfl, _, _, by simp, Own.wide (lo' := W.heap.size) r (by omega) (Nat.le_refl _) (Nat.le_refl _), b14⟩
theorem impl_SectorBytes (q p : Int) (A : Option Addr) (n c : Nat) (l : List UInt8) (hn : n ≤ 4611686018427387904) (W : World) (hr : Rd W W.heap.size 1 A n (Lib.byteCells l)) :
    Calls Try.prog 92 #[.agg #[.int .i64 q, .int .i64 p, .slice A n c]] W (PutB 128 (secBytes q.toNat p.toNat n l) (secOk q p n) W) := by
  rcases hok : secOk q p n with _ | _
  · go_enter Try.func92, Try.ntmps92
    go_wp2_with (go_at_call 95; refine (impl_SectorOk q p A n c hn _).mono ?_; rintro e w1 ⟨rfl, hb1⟩; rw [hok])
    go_ret2
    exact PutB.no ((below1s _ _).trans (hb1.mono (by simp)))
  · obtain ⟨h1, h2, h3, h4, h5⟩ := secOk_le hok
    obtain ⟨Q, rfl⟩ : ∃ Q : Nat, q = Q := ⟨q.toNat, by omega⟩
    obtain ⟨P, rfl⟩ : ∃ P : Nat, p = P := ⟨p.toNat, by omega⟩
    exact impl_SectorBytes_ok Q P A n c l (by omega) (by omega) (by omega) h5 hok W hr
end Go.Proofs.Ytblenfhacaecmaa
