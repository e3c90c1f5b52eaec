/- math/bits.Div64: the quotient and the rest of a number of two words. -/
import Derived.Test.YtoeegfcbicjhgaaBits
import Derived.Test.YtoeegfcbicjhgaaDv0
import Derived.Deep.QuietTactic
import Derived.BigQuiet
import Derived.Deep.DeepCutAuto
import Derived.Deep.CutBlock
namespace Go.Proofs.Ytoeegfcbicjhgaa
open Go.RowKit

theorem prod_facts (q y0 : Nat) (hq : q < 4294967296) (hy : y0 < 4294967296) : 0 ≤ (q : Int) * (y0 : Int) ∧ (q : Int) * (y0 : Int) ≤ 18446744065119617025 := by
  have : q * y0 ≤ 4294967295 * 4294967295 := Nat.mul_le_mul (by omega) (by omega)
  rw [← Int.natCast_mul]
  generalize q * y0 = z at *
  omega
theorem prod_le (q y0 X : Nat) (h : q * y0 ≤ X) : (q : Int) * (y0 : Int) ≤ (X : Int) := by rw [← Int.natCast_mul]; omega
theorem prod_gt (q y0 X : Nat) (h : X < q * y0) : (X : Int) < (q : Int) * (y0 : Int) := by rw [← Int.natCast_mul]; omega
theorem ret_uu {a a' b b' : Int} (h1 : a = a') (h2 : b = b') : Ending.returned (.tuple #[.int .u64 a, .int .u64 b]) = .returned (.tuple #[.int .u64 a', .int .u64 b']) := by rw [h1, h2]

theorem bits_Div64_lo (lo y : Nat) (hy : 0 < y) (hyb : y < 18446744073709551616) (hlo : lo < 18446744073709551616) (w : World) :
    Calls Try.prog 48 #[.int .u64 0, .int .u64 (lo : Int), .int .u64 (y : Int)] w fun e w' => e = .returned (.tuple #[.int .u64 ((lo / y : Nat) : Int), .int .u64 ((lo % y : Nat) : Int)]) ∧ Below w.heap.size w w' := by
  have e1 : (lo : Int) / (y : Int) = ((lo / y : Nat) : Int) := (Int.natCast_ediv lo y).symm
  have e2 : (lo : Int) % (y : Int) = ((lo % y : Nat) : Int) := (Int.natCast_emod lo y).symm
  have l1 : lo / y ≤ lo := Nat.div_le_self _ _
  have l2 : lo % y < y := Nat.mod_lt _ hy
  obtain ⟨q, hq⟩ : ∃ q, lo / y = q := ⟨_, rfl⟩
  obtain ⟨r, hr⟩ : ∃ r, lo % y = r := ⟨_, rfl⟩
  rw [hq] at e1 l1 ⊢
  rw [hr] at e2 l2 ⊢
  clear hq hr
  go_enter Try.func48, Try.ntmps48
  go_wp2
  go_quiet (fail)
  go_wp2
  go_ret2
  exact ⟨ret_uu rfl e2, ⟨rfl, rfl, rfl, Nat.le_refl _, fun _ _ => rfl⟩⟩

set_option maxHeartbeats 1000000 in
theorem bits_Div64_hi (hi lo y : Nat) (hy : 0 < y) (hyb : y < 18446744073709551616) (hlt : hi < y) (hlo : lo < 18446744073709551616) (h0 : 0 < hi) (w : World) :
    Calls Try.prog 48 #[.int .u64 (hi : Int), .int .u64 (lo : Int), .int .u64 (y : Int)] w fun e w' =>
      e = .returned (.tuple #[.int .u64 (((hi * 18446744073709551616 + lo) / y : Nat) : Int), .int .u64 (((hi * 18446744073709551616 + lo) % y : Nat) : Int)]) ∧ Below w.heap.size w w' := by
  obtain ⟨s, hs63, hbl, hYlo, hYhi⟩ := bitLen_facts y hy hyb
  obtain ⟨hh, hU, hor, hT⟩ := shift_two (hi := hi) (lo := lo) hs63 hlt hlo hYhi
  obtain ⟨F1, hF1⟩ : ∃ F1, (hi * 18446744073709551616 + lo) / y = F1 := ⟨_, rfl⟩
  obtain ⟨F2, hF2⟩ : ∃ F2, (hi * 18446744073709551616 + lo) % y = F2 := ⟨_, rfl⟩
  rw [hF1, hF2]
  have HF1 := Lib.hid hF1
  have HF2 := Lib.hid hF2
  clear hF1 hF2
  obtain ⟨Y, hY⟩ : ∃ Y, y * 2 ^ s = Y := ⟨_, rfl⟩
  have rY : IntKind.u64.wrap ((y : Int) * 2 ^ s) = (Y : Int) := by rw [show (y : Int) * 2 ^ s = ((y * 2 ^ s : Nat) : Int) by simp, hY]; exact wrapN _ (hY ▸ hYhi)
  have ry0 : bits .and .u64 (Y : Int) 4294967295 = ((Y % 4294967296 : Nat) : Int) := maskN _ (hY ▸ hYhi)
  have ry1 : (Y : Int) / 4294967296 = ((Y / 4294967296 : Nat) : Int) := divN _
  rw [hY] at hYlo hYhi hU
  have HY := Lib.hid hY
  clear hY
  obtain ⟨y1, hy1⟩ : ∃ y1, Y / 4294967296 = y1 := ⟨_, rfl⟩
  obtain ⟨y0, hy0⟩ : ∃ y0, Y % 4294967296 = y0 := ⟨_, rfl⟩
  have hYs : Y = y1 * 4294967296 + y0 := by omega
  have b1 : 2147483648 ≤ y1 := by omega
  have b2 : y1 < 4294967296 := by omega
  have b3 : y0 < 4294967296 := by omega
  rw [hy1] at ry1
  rw [hy0] at ry0
  clear hy1 hy0
  obtain ⟨L, hL⟩ : ∃ L, lo * 2 ^ s % 18446744073709551616 = L := ⟨_, rfl⟩
  have hLb : L < 18446744073709551616 := by omega
  have rL : IntKind.u64.wrap ((lo : Int) * 2 ^ s) = (L : Int) := by rw [show (lo : Int) * 2 ^ s = ((lo * 2 ^ s : Nat) : Int) by simp, wrapM, hL]
  have ru1 : (L : Int) / 4294967296 = ((L / 4294967296 : Nat) : Int) := divN _
  have ru0 : bits .and .u64 (L : Int) 4294967295 = ((L % 4294967296 : Nat) : Int) := maskN _ hLb
  obtain ⟨U, hUe⟩ : ∃ U, hi * 2 ^ s + lo / 2 ^ (64 - s) = U := ⟨_, rfl⟩
  have rU : bits .or .u64 (IntKind.u64.wrap ((hi : Int) * 2 ^ s)) ((lo : Int) / 2 ^ (64 - s)) = (U : Int) := by
    rw [show (hi : Int) * 2 ^ s = ((hi * 2 ^ s : Nat) : Int) by simp, wrapN _ hh, show (lo : Int) / 2 ^ (64 - s) = ((lo / 2 ^ (64 - s) : Nat) : Int) by simp,
      u64_or_nat _ _ hh (Nat.lt_of_le_of_lt (Nat.div_le_self _ _) hlo), hor, hUe]
  rw [hUe] at hU hT
  rw [hL] at hT
  have HT := Lib.hid hT
  clear hUe hL hT hor hh
  obtain ⟨u1, hu1⟩ : ∃ u1, L / 4294967296 = u1 := ⟨_, rfl⟩
  obtain ⟨u0, hu0⟩ : ∃ u0, L % 4294967296 = u0 := ⟨_, rfl⟩
  have hLs := Lib.hid (show L = u1 * 4294967296 + u0 by omega)
  have b4 : u1 < 4294967296 := by omega
  have b5 : u0 < 4294967296 := by omega
  rw [hu1] at ru1
  rw [hu0] at ru0
  clear hu1 hu0
  have hYpos : 0 < Y := by omega
  have HYs := Lib.hid hYs
  clear hYs
  -- the first digit
  obtain ⟨Q1, hQ1⟩ : ∃ Q1, (U * 4294967296 + u1) / Y = Q1 := ⟨_, rfl⟩
  obtain ⟨X, hX⟩ : ∃ X, (U * 4294967296 + u1) % Y = X := ⟨_, rfl⟩
  have D1 := dig_start (K := 4294967296) HYs.out (by omega) (by omega) b3 hU b4 hQ1.symm
  have q1K : Q1 < 4294967296 := Q_lt hU b4 hQ1.symm
  obtain ⟨s1, s2⟩ := dig_rest hYpos hQ1.symm
  rw [hX] at s1 s2
  have HQ1 := Lib.hid hQ1.symm
  have S1 := Lib.hid s1
  clear hQ1 hX s1
  have m1 : U % y1 < y1 := Nat.mod_lt _ (by omega)
  have rq : (U : Int) / (y1 : Int) = ((U / y1 : Nat) : Int) := (Int.natCast_ediv U y1).symm
  obtain ⟨qa, hqa⟩ : ∃ qa, U / y1 = qa := ⟨_, rfl⟩
  obtain ⟨ra, hra⟩ : ∃ ra, U % y1 = ra := ⟨_, rfl⟩
  rw [hqa, hra] at D1
  rw [hqa] at rq
  rw [hra] at m1
  clear hqa hra
  have pa0 : 0 ≤ (qa : Int) * (y1 : Int) := by rw [← Int.natCast_mul]; omega
  have pa1 : (qa : Int) * (y1 : Int) ≤ (U : Int) := prod_le _ _ _ (by have := D1.sum; omega)
  have rra : (U : Int) - (qa : Int) * (y1 : Int) = (ra : Int) := by rw [← Int.natCast_mul]; have := D1.sum; omega
  have rqa := wrapN qa (by have := D1.le; omega)
  have rqay : IntKind.u64.wrap ((qa : Int) * (y1 : Int)) = (qa : Int) * (y1 : Int) := by rw [IntKind.wrap_u64]; omega
  have rraw : IntKind.u64.wrap ((U : Int) - (qa : Int) * (y1 : Int)) = (ra : Int) := by rw [rra, IntKind.wrap_u64]; omega
  have rX := wrap_rest S1.out (by omega)
  -- the second digit
  obtain ⟨Q0, hQ0⟩ : ∃ Q0, (X * 4294967296 + u0) / Y = Q0 := ⟨_, rfl⟩
  obtain ⟨R, hR⟩ : ∃ R, (X * 4294967296 + u0) % Y = R := ⟨_, rfl⟩
  have D0 := dig_start (K := 4294967296) HYs.out (by omega) (by omega) b3 s2 b5 hQ0.symm
  have q0K : Q0 < 4294967296 := Q_lt s2 b5 hQ0.symm
  obtain ⟨t1, t2⟩ := dig_rest hYpos hQ0.symm
  rw [hR] at t1 t2
  have HQ0 := Lib.hid hQ0.symm
  have T1 := Lib.hid t1
  clear hQ0 hR t1
  have m0 : X % y1 < y1 := Nat.mod_lt _ (by omega)
  have rq0 : (X : Int) / (y1 : Int) = ((X / y1 : Nat) : Int) := (Int.natCast_ediv X y1).symm
  obtain ⟨qb, hqb⟩ : ∃ qb, X / y1 = qb := ⟨_, rfl⟩
  obtain ⟨rb, hrb⟩ : ∃ rb, X % y1 = rb := ⟨_, rfl⟩
  rw [hqb, hrb] at D0
  rw [hqb] at rq0
  rw [hrb] at m0
  clear hqb hrb
  have pb0 : 0 ≤ (qb : Int) * (y1 : Int) := by rw [← Int.natCast_mul]; omega
  have pb1 : (qb : Int) * (y1 : Int) ≤ (X : Int) := prod_le _ _ _ (by have := D0.sum; omega)
  have rrb : (X : Int) - (qb : Int) * (y1 : Int) = (rb : Int) := by rw [← Int.natCast_mul]; have := D0.sum; omega
  have rqb := wrapN qb (by have := D0.le; omega)
  have rqby : IntKind.u64.wrap ((qb : Int) * (y1 : Int)) = (qb : Int) * (y1 : Int) := by rw [IntKind.wrap_u64]; omega
  have rrbw : IntKind.u64.wrap ((X : Int) - (qb : Int) * (y1 : Int)) = (rb : Int) := by rw [rrb, IntKind.wrap_u64]; omega
  have rR := wrap_rest T1.out (by omega)
  obtain ⟨fin1, fin2⟩ := div_final HY.out.symm hy (by rw [HT.out, hLs.out]) S1.out T1.out t2
  have FIN1 := Lib.hid fin1
  have FIN2 := Lib.hid fin2
  clear fin1 fin2
  have hs : (64 - (Lib.bitLen y : Int)) = (s : Int) := by omega
  clear rra rrb pa0 pa1 pb0 pb1
  obtain ⟨y1i, hy1i⟩ : ∃ x : Int, x = (y1 : Int) := ⟨_, rfl⟩
  obtain ⟨y0i, hy0i⟩ : ∃ x : Int, x = (y0 : Int) := ⟨_, rfl⟩
  obtain ⟨u1i, hu1i⟩ : ∃ x : Int, x = (u1 : Int) := ⟨_, rfl⟩
  obtain ⟨u0i, hu0i⟩ : ∃ x : Int, x = (u0 : Int) := ⟨_, rfl⟩
  obtain ⟨qai, hqai⟩ : ∃ x : Int, x = (qa : Int) := ⟨_, rfl⟩
  obtain ⟨rai, hrai⟩ : ∃ x : Int, x = (ra : Int) := ⟨_, rfl⟩
  obtain ⟨qbi, hqbi⟩ : ∃ x : Int, x = (qb : Int) := ⟨_, rfl⟩
  obtain ⟨rbi, hrbi⟩ : ∃ x : Int, x = (rb : Int) := ⟨_, rfl⟩
  obtain ⟨Q1i, hQ1i⟩ : ∃ x : Int, x = (Q1 : Int) := ⟨_, rfl⟩
  obtain ⟨Q0i, hQ0i⟩ : ∃ x : Int, x = (Q0 : Int) := ⟨_, rfl⟩
  rw [← hy1i] at ry1 rq rqay rraw rq0 rqby rrbw
  rw [← hy0i] at ry0
  rw [← hu1i] at ru1 rX
  rw [← hu0i] at ru0 rR
  rw [← hqai] at rq rqa rqay rraw
  rw [← hrai] at rraw
  rw [← hqbi] at rq0 rqb rqby rrbw
  rw [← hrbi] at rrbw
  rw [← hQ1i] at rX
  rw [← hQ0i] at rR
  have c1 : 2147483648 ≤ y1i ∧ y1i < 4294967296 := by omega
  have c2 : 0 ≤ y0i ∧ y0i < 4294967296 := by omega
  have c3 : 0 ≤ u1i ∧ u1i < 4294967296 := by omega
  have c4 : 0 ≤ u0i ∧ u0i < 4294967296 := by omega
  have c5 : 0 ≤ Q1i ∧ Q1i < 4294967296 := by omega
  have c6 : 0 ≤ Q0i ∧ Q0i < 4294967296 := by omega
  obtain ⟨c1, c1'⟩ := c1
  obtain ⟨c2, c2'⟩ := c2
  obtain ⟨c3, c3'⟩ := c3
  obtain ⟨c4, c4'⟩ := c4
  obtain ⟨c5, c5'⟩ := c5
  obtain ⟨c6, c6'⟩ := c6
  have G1 := Lib.hid hy1i
  have G2 := Lib.hid hy0i
  have G3 := Lib.hid hu1i
  have G4 := Lib.hid hu0i
  have G5 := Lib.hid hqai
  have G6 := Lib.hid hrai
  have G7 := Lib.hid hqbi
  have G8 := Lib.hid hrbi
  have G9 := Lib.hid hQ1i
  have G10 := Lib.hid hQ0i
  have B3 := Lib.hid b3
  have B4 := Lib.hid b4
  have B5 := Lib.hid b5
  have K1 := Lib.hid q1K
  have K0 := Lib.hid q0K
  have M1 := Lib.hid m1
  have M0 := Lib.hid m0
  have B2 := Lib.hid b2
  clear hy1i hy0i hu1i hu0i hqai hrai hqbi hrbi hQ1i hQ0i b1 b2 b3 b4 b5 q1K q0K m1 m0
  go_enter Try.func48, Try.ntmps48
  go_upto_block 0 with (go_at_call 50; refine (bits_LeadingZeros64 _ _ (by omega) (by omega)).mono ?_; rintro e w1 ⟨rfl, rfl⟩; rw [Int.toNat_natCast, hs])
  go_cut [15, 16] (fun vq vr wx => w = wx ∧ vq = .int .u64 Q1i)
  case first =>
    clear rq0 rqb rqby rrbw rR D0
    go_wp2
    go_loop [15, 16] (fun vq vr => ∃ (qi ri : Int) (q r : Nat), vq = .int .u64 qi ∧ vr = .int .u64 ri ∧ Hid (qi = (q : Int)) ∧ Hid (ri = (r : Int)) ∧ DigInv y1 U Q1 4294967296 q r ∧ Hid (r < 4294967296)) (fun vq _ => (intOf vq).toNat)
    case atStart => exact ⟨qai, rai, qa, ra, rfl, rfl, G5, G6, D1, Lib.hid (by have := M1.out; have := B2.out; omega)⟩
    case round =>
      obtain ⟨qi, ri, q, r, rfl, rfl, hq, hr, hd, hrl⟩ := hrel
      have hle := hd.le
      have g1 : 0 ≤ qi ∧ 0 ≤ ri ∧ ri < 4294967296 := by have := hq.out; have := hr.out; have := hrl.out; omega
      obtain ⟨g1, g2, g3⟩ := g1
      have HLE := Lib.hid hle
      clear hle
      by_cases hk : 4294967296 ≤ q
      · have hki : 4294967296 ≤ qi := by have := hq.out; omega
        obtain ⟨hd', h1q, hqk⟩ := dig_dec HYs.out hYpos K1.out HQ1.out hd (.inl hk)
        by_cases hb : 4294967296 ≤ r + y1
        · have hfin : q - 1 = Q1 := dig_break HYs.out hYpos B3.out HQ1.out hd' hqk hb
          have f1 : 1 ≤ qi ∧ qi ≤ 4294967297 ∧ 4294967296 ≤ ri + y1i := by have := hq.out; have := hr.out; have := G1.out; omega
          have HF := Lib.hid (show qi - 1 = Q1i by have := hq.out; have := G9.out; omega)
          obtain ⟨f1, f2, f3⟩ := f1
          clear hb hfin h1q hqk hd'
          go_wp2
          go_meet
          exact ⟨rfl, by rw [← HF.out]⟩
        · have f1 : 1 ≤ qi ∧ qi ≤ 4294967297 ∧ ri + y1i < 4294967296 := by have := hq.out; have := hr.out; have := G1.out; omega
          have HE1 := Lib.hid (show qi - 1 = ((q - 1 : Nat) : Int) by have := hq.out; omega)
          have HE2 := Lib.hid (show ri + y1i = ((r + y1 : Nat) : Int) by have := hr.out; have := G1.out; omega)
          have HL := Lib.hid (show r + y1 < 4294967296 by omega)
          obtain ⟨f1, f2, f3⟩ := f1
          clear hb h1q hqk
          go_wp2
          go_round
          case rel => exact ⟨_, _, q - 1, r + y1, rfl, rfl, HE1, HE2, hd', HL⟩
          case measure => simp [intOf]; omega
      · have hki : qi < 4294967296 := by have := hq.out; omega
        obtain ⟨p1, p2⟩ := prod_facts q y0 (by omega) B3.out
        rw [← hq.out, ← G2.out] at p1 p2
        clear hk
        by_cases hc : 4294967296 * r + u1 < q * y0
        · have p3 := prod_gt _ _ _ hc
          rw [← hq.out, ← G2.out, show ((4294967296 * r + u1 : Nat) : Int) = 4294967296 * ri + u1i by have := hr.out; have := G3.out; omega] at p3
          obtain ⟨hd', h1q, hqk⟩ := dig_dec HYs.out hYpos K1.out HQ1.out hd (.inr hc)
          by_cases hb : 4294967296 ≤ r + y1
          · have hfin : q - 1 = Q1 := dig_break HYs.out hYpos B3.out HQ1.out hd' hqk hb
            have f1 : 1 ≤ qi ∧ qi ≤ 4294967297 ∧ 4294967296 ≤ ri + y1i := by have := hq.out; have := hr.out; have := G1.out; omega
            have HF := Lib.hid (show qi - 1 = Q1i by have := hq.out; have := G9.out; omega)
            obtain ⟨f1, f2, f3⟩ := f1
            clear hb hc hfin h1q hqk hd'
            go_wp2
            go_meet
            exact ⟨rfl, by rw [← HF.out]⟩
          · have f1 : 1 ≤ qi ∧ qi ≤ 4294967297 ∧ ri + y1i < 4294967296 := by have := hq.out; have := hr.out; have := G1.out; omega
            have HE1 := Lib.hid (show qi - 1 = ((q - 1 : Nat) : Int) by have := hq.out; omega)
            have HE2 := Lib.hid (show ri + y1i = ((r + y1 : Nat) : Int) by have := hr.out; have := G1.out; omega)
            have HL := Lib.hid (show r + y1 < 4294967296 by omega)
            obtain ⟨f1, f2, f3⟩ := f1
            clear hb hc h1q hqk
            go_wp2
            go_round
            case rel => exact ⟨_, _, q - 1, r + y1, rfl, rfl, HE1, HE2, hd', HL⟩
            case measure => simp [intOf]; omega
        · have p3 := prod_le q y0 (4294967296 * r + u1) (by omega)
          rw [← hq.out, ← G2.out, show ((4294967296 * r + u1 : Nat) : Int) = 4294967296 * ri + u1i by have := hr.out; have := G3.out; omega] at p3
          have hfin : q = Q1 := dig_exit HYs.out hYpos HQ1.out hd (by omega)
          have HF := Lib.hid (show qi = Q1i by have := hq.out; have := G9.out; omega)
          clear hfin hc
          go_wp2
          go_meet
          exact ⟨rfl, by rw [← HF.out]⟩
  case rest =>
    obtain ⟨rfl, rfl⟩ := hcut
    go_upto_block 2 with (fail)
    go_cut [18, 16] (fun vq vr wx => w = wx ∧ vq = .int .u64 Q0i)
    case first =>
      go_wp2
      go_loop [18, 16] (fun vq vr => ∃ (qi ri : Int) (q r : Nat), vq = .int .u64 qi ∧ vr = .int .u64 ri ∧ Hid (qi = (q : Int)) ∧ Hid (ri = (r : Int)) ∧ DigInv y1 X Q0 4294967296 q r ∧ Hid (r < 4294967296)) (fun vq _ => (intOf vq).toNat)
      case atStart => exact ⟨qbi, rbi, qb, rb, rfl, rfl, G7, G8, D0, Lib.hid (by have := M0.out; have := B2.out; omega)⟩
      case round =>
        obtain ⟨qi, ri, q, r, rfl, rfl, hq, hr, hd, hrl⟩ := hrel
        have hle := hd.le
        have g1 : 0 ≤ qi ∧ 0 ≤ ri ∧ ri < 4294967296 := by have := hq.out; have := hr.out; have := hrl.out; omega
        obtain ⟨g1, g2, g3⟩ := g1
        have HLE := Lib.hid hle
        clear hle
        by_cases hk : 4294967296 ≤ q
        · have hki : 4294967296 ≤ qi := by have := hq.out; omega
          obtain ⟨hd', h1q, hqk⟩ := dig_dec HYs.out hYpos K0.out HQ0.out hd (.inl hk)
          by_cases hb : 4294967296 ≤ r + y1
          · have hfin : q - 1 = Q0 := dig_break HYs.out hYpos B3.out HQ0.out hd' hqk hb
            have f1 : 1 ≤ qi ∧ qi ≤ 4294967297 ∧ 4294967296 ≤ ri + y1i := by have := hq.out; have := hr.out; have := G1.out; omega
            have HF := Lib.hid (show qi - 1 = Q0i by have := hq.out; have := G10.out; omega)
            obtain ⟨f1, f2, f3⟩ := f1
            clear hb hfin h1q hqk hd'
            go_wp2
            go_meet
            exact ⟨rfl, by rw [← HF.out]⟩
          · have f1 : 1 ≤ qi ∧ qi ≤ 4294967297 ∧ ri + y1i < 4294967296 := by have := hq.out; have := hr.out; have := G1.out; omega
            have HE1 := Lib.hid (show qi - 1 = ((q - 1 : Nat) : Int) by have := hq.out; omega)
            have HE2 := Lib.hid (show ri + y1i = ((r + y1 : Nat) : Int) by have := hr.out; have := G1.out; omega)
            have HL := Lib.hid (show r + y1 < 4294967296 by omega)
            obtain ⟨f1, f2, f3⟩ := f1
            clear hb h1q hqk
            go_wp2
            go_round
            case rel => exact ⟨_, _, q - 1, r + y1, rfl, rfl, HE1, HE2, hd', HL⟩
            case measure => simp [intOf]; omega
        · have hki : qi < 4294967296 := by have := hq.out; omega
          obtain ⟨p1, p2⟩ := prod_facts q y0 (by omega) B3.out
          rw [← hq.out, ← G2.out] at p1 p2
          clear hk
          by_cases hc : 4294967296 * r + u0 < q * y0
          · have p3 := prod_gt _ _ _ hc
            rw [← hq.out, ← G2.out, show ((4294967296 * r + u0 : Nat) : Int) = 4294967296 * ri + u0i by have := hr.out; have := G4.out; omega] at p3
            obtain ⟨hd', h1q, hqk⟩ := dig_dec HYs.out hYpos K0.out HQ0.out hd (.inr hc)
            by_cases hb : 4294967296 ≤ r + y1
            · have hfin : q - 1 = Q0 := dig_break HYs.out hYpos B3.out HQ0.out hd' hqk hb
              have f1 : 1 ≤ qi ∧ qi ≤ 4294967297 ∧ 4294967296 ≤ ri + y1i := by have := hq.out; have := hr.out; have := G1.out; omega
              have HF := Lib.hid (show qi - 1 = Q0i by have := hq.out; have := G10.out; omega)
              obtain ⟨f1, f2, f3⟩ := f1
              clear hb hc hfin h1q hqk hd'
              go_wp2
              go_meet
              exact ⟨rfl, by rw [← HF.out]⟩
            · have f1 : 1 ≤ qi ∧ qi ≤ 4294967297 ∧ ri + y1i < 4294967296 := by have := hq.out; have := hr.out; have := G1.out; omega
              have HE1 := Lib.hid (show qi - 1 = ((q - 1 : Nat) : Int) by have := hq.out; omega)
              have HE2 := Lib.hid (show ri + y1i = ((r + y1 : Nat) : Int) by have := hr.out; have := G1.out; omega)
              have HL := Lib.hid (show r + y1 < 4294967296 by omega)
              obtain ⟨f1, f2, f3⟩ := f1
              clear hb hc h1q hqk
              go_wp2
              go_round
              case rel => exact ⟨_, _, q - 1, r + y1, rfl, rfl, HE1, HE2, hd', HL⟩
              case measure => simp [intOf]; omega
          · have p3 := prod_le q y0 (4294967296 * r + u0) (by omega)
            rw [← hq.out, ← G2.out, show ((4294967296 * r + u0 : Nat) : Int) = 4294967296 * ri + u0i by have := hr.out; have := G4.out; omega] at p3
            have hfin : q = Q0 := dig_exit HYs.out hYpos HQ0.out hd (by omega)
            have HF := Lib.hid (show qi = Q0i by have := hq.out; have := G10.out; omega)
            clear hfin hc
            go_wp2
            go_meet
            exact ⟨rfl, by rw [← HF.out]⟩
    case rest =>
      obtain ⟨rfl, rfl⟩ := hcut
      go_wp2
      go_ret2
      exact ⟨ret_uu (by have := HF1.out.symm.trans FIN1.out; have := G9.out; have := G10.out; omega) (by rw [HF2.out.symm.trans FIN2.out]; simp), Below.refl _ _⟩

theorem bits_Div64 (hi lo y : Nat) (hy : 0 < y) (hyb : y < 18446744073709551616) (hlt : hi < y) (hlo : lo < 18446744073709551616) (w : World) :
    Calls Try.prog 48 #[.int .u64 (hi : Int), .int .u64 (lo : Int), .int .u64 (y : Int)] w fun e w' =>
      e = .returned (.tuple #[.int .u64 (((hi * 18446744073709551616 + lo) / y : Nat) : Int), .int .u64 (((hi * 18446744073709551616 + lo) % y : Nat) : Int)]) ∧ Below w.heap.size w w' := by
  by_cases h0 : hi = 0
  · subst h0
    have := bits_Div64_lo lo y hy hyb hlo w
    simpa using this
  · exact bits_Div64_hi hi lo y hy hyb hlt hlo (by omega) w
end Go.Proofs.Ytoeegfcbicjhgaa
