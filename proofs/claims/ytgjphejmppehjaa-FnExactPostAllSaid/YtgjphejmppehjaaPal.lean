/- PostAll, in the program and in the reference: both give what allR says. -/
import Derived.Test.YtgjphejmppehjaaPsg
import Derived.Test.YtgjphejmppehjaaPostL
import Derived.Deep.Cut
import Derived.Deep.DeepCutAuto
namespace Go.Proofs.Ytgjphejmppehjaa
open Go.RowKit
/-- One posting more. -/
noncomputable def stepR (s : Int × List Ln × Int) (x : Int × List Ln) : Int × List Ln × Int :=
  if (postR s.1 s.2.1 x.1 x.2).2.2 = 0 then ((postR s.1 s.2.1 x.1 x.2).1, (postR s.1 s.2.1 x.1 x.2).2.1, s.2.2 + 1) else s
/-- What PostAll answers. -/
noncomputable def allR (q : Int) (ls : List Ln) (ds : List (Int × List Ln)) : Int × List Ln × Int := if ledOk q ls then ds.foldl stepR (q, ls, 0) else (0, [], -1)
theorem fold_more {ds : List (Int × List Ln)} {i : Nat} {x : Int × List Ln} (h : ds[i]? = some x) (s : Int × List Ln × Int) : (ds.take (i + 1)).foldl stepR s = stepR ((ds.take i).foldl stepR s) x := by
  rw [List.take_add_one, h]; simp [List.foldl_append]
theorem allR_len (q : Int) (ls : List Ln) (ds : List (Int × List Ln)) : (allR q ls ds).2.1.length ≤ 302 := by
  unfold allR
  split
  · rename_i h
    have hl := (led_rng h).2
    have : ∀ (ds : List (Int × List Ln)) (s : Int × List Ln × Int), s.2.1.length ≤ 302 → (ds.foldl stepR s).2.1.length ≤ 302 := by
      intro ds
      induction ds with
      | nil => intro s h; exact h
      | cons x t ih =>
        intro s h
        refine ih _ ?_
        unfold stepR
        split
        · exact postR_len _ _ _ _
        · exact h
    exact this ds _ hl
  · simp
theorem made_all {b lo hi n c : Nat} {W w w' : World} {A : Option Addr} {q k : Int} {ls : List Ln} (ho : OwnL w lo hi A n c ls) (hb : Below W.heap.size W w) (he : Eff b (b + 1) w w') (h : W.heap.size ≤ b) (hl : b < lo) (hlo : W.heap.size ≤ lo) : MadePost q ls k W (.returned (.tuple #[.agg #[.int .i64 q, .slice A n c], .int .i64 k])) w' :=
  ⟨A, n, c, (lnlen_of_own ho).symm, rfl, Own.made ho he (by omega) hlo, hb.trans (he.below hb.size (.inl h))⟩
theorem copyLines_any (A : Option Addr) (n c : Nat) (ls : List Ln) (W : World) (hr : Rd W W.heap.size 3 A n (lnCells ls)) (hn : n ≤ 1099511627776) : Calls Try.prog 70 #[.slice A n c] W (MadeL n ls W) := by
  obtain ⟨i0, hi0, hj0, hj1, hj2⟩ := info_parts info_Line
  go_enter Try.func70, Try.ntmps70
  go_wp2_with (at_builtin; refine wpList_app _ rfl _ _ 25 rfl 63 i0 (.agg #[.int .i64 0, .int .i64 0, .int .i64 0]) 3 24 Try.underlying25 hi0 hj0 hj1 hj2 rfl (by omega) rfl (Own.nil _ _ W W.heap.size W.heap.size (Nat.le_refl _)) c rfl hr (lnCells_one _) (by unfold maxLen; omega) (by omega) (Nat.le_refl _) ?_; intro A2 c2 w2 hO hE _)
  simp only [Nat.zero_add, List.nil_append] at hO
  go_wp2
  go_ret
  exact ⟨A2, c2, by simp, hO, hE.below (Nat.le_refl _) (.inl (Nat.le_refl _))⟩
set_option maxRecDepth 100000 in
theorem copyLedger_any (q : Int) (A : Option Addr) (n c : Nat) (ls : List Ln) (W : World) (hr : Rd W W.heap.size 3 A n (lnCells ls)) (hn : n ≤ 1099511627776) : Calls Try.prog 64 #[.agg #[.int .i64 q, .slice A n c]] W (MadeLd q n ls W) := by
  go_enter Try.func64, Try.ntmps64
  go_wp2_with fail
  have he1 : Eff 0 0 W (W.alloc (.cells #[.int .i64 q, .slice A n c] 34)) := Eff.alloc _ _
  have hs1 : (W.alloc (.cells #[.int .i64 q, .slice A n c] 34)).heap.size = W.heap.size + 1 := (by simp)
  have l_0 : (W.alloc (.cells #[.int .i64 q, .slice A n c] 34)).cell? ⟨W.heap.size, 0, none⟩ = some (.int .i64 q) := var_cell _ _ _ _ _ rfl
  have l_1 : (W.alloc (.cells #[.int .i64 q, .slice A n c] 34)).cell? ⟨W.heap.size, 1, none⟩ = some (.slice A n c) := var_cell _ _ _ _ _ rfl
  generalize (W.alloc (.cells #[.int .i64 q, .slice A n c] 34)) = w1 at *
  have hz1 : W.heap.size ≤ w1.heap.size := he1.size
  have b1 : Below W.heap.size W w1 := he1.below (Nat.le_refl _) (by omega)
  replace hr := (hr.below (he1.below (B := W.heap.size) (by omega) (by omega)) (Nat.le_refl _))
  have l_l : W.heap.size < w1.heap.size := (by omega)
  have he2 : Eff 0 0 w1 (w1.alloc (.cells #[.int .i64 0, .slice none 0 0] 34)) := Eff.alloc _ _
  have hs2 : (w1.alloc (.cells #[.int .i64 0, .slice none 0 0] 34)).heap.size = w1.heap.size + 1 := (by simp)
  have res_0 : (w1.alloc (.cells #[.int .i64 0, .slice none 0 0] 34)).cell? ⟨w1.heap.size, 0, none⟩ = some (.int .i64 0) := var_cell _ _ _ _ _ rfl
  have res_1 : (w1.alloc (.cells #[.int .i64 0, .slice none 0 0] 34)).cell? ⟨w1.heap.size, 1, none⟩ = some (.slice none 0 0) := var_cell _ _ _ _ _ rfl
  have res_f0 : (w1.alloc (.cells #[.int .i64 0, .slice none 0 0] 34)).frozen? ⟨w1.heap.size, 0, none⟩ = false := var_frozen _ _ _ _
  have res_f1 : (w1.alloc (.cells #[.int .i64 0, .slice none 0 0] 34)).frozen? ⟨w1.heap.size, 1, none⟩ = false := var_frozen _ _ _ _
  generalize (w1.alloc (.cells #[.int .i64 0, .slice none 0 0] 34)) = w2 at *
  have hz2 : w1.heap.size ≤ w2.heap.size := he2.size
  have b2 : Below W.heap.size W w2 := b1.trans (he2.below b1.size (by omega))
  replace hr := (hr.below (he2.below (B := W.heap.size) (by omega) (by omega)) (Nat.le_refl _))
  replace l_0 := he2.cell l_0 (by simp only; omega)
  replace l_1 := he2.cell l_1 (by simp only; omega)
  replace l_l := Nat.lt_of_lt_of_le l_l hz2
  rw [hs1] at res_0 res_f0
  rw [hs1] at res_1 res_f1
  have res_l : W.heap.size + 1 < w2.heap.size := (by omega)
  have hw2 : w2.heap.size = W.heap.size + 2 := by omega
  clear hs1 hs2
  go_wp2_with fail
  have he3 : Eff 0 0 w2 w2.drew := (Eff.refl _ _ _).drew
  have hz3 : w2.heap.size ≤ w2.drew.heap.size := he3.size
  have b3 : Below W.heap.size W w2.drew := b2.trans (he3.below b2.size (by omega))
  replace hr := (hr.below (he3.below (B := W.heap.size) (by omega) (by omega)) (Nat.le_refl _))
  replace res_f0 := (he3.frozen res_0 (by simp only; omega)).trans res_f0
  replace res_f1 := (he3.frozen res_1 (by simp only; omega)).trans res_f1
  replace l_0 := he3.cell l_0 (by simp only; omega)
  replace l_1 := he3.cell l_1 (by simp only; omega)
  replace res_0 := he3.cell res_0 (by simp only; omega)
  replace res_1 := he3.cell res_1 (by simp only; omega)
  replace l_l := Nat.lt_of_lt_of_le l_l hz3
  replace res_l := Nat.lt_of_lt_of_le res_l hz3
  go_region_held3 (fun w' => w'.cell? ⟨W.heap.size, 0, none⟩ = some (.int .i64 q) ∧ w'.cell? ⟨W.heap.size, 1, none⟩ = some (.slice A n c)) ((go_split_ands; (repeat' apply And.intro) <;> (first | assumption | (exact set_other (set_other (by assumption) _ (.inl (by omega))) _ (.inl (by omega)))))) (first | (go_at_call 70; refine (copyLines_any A n c ls w2.drew (hr.more (by omega)) hn).mono ?_; rintro e w4 ⟨A1, c1, rfl, t, hb⟩; have he4 : Eff 0 0 w2.drew w4 := Eff.of hb; have hz4 : w2.drew.heap.size ≤ w4.heap.size := he4.size; have b4 : Below W.heap.size W w4 := b3.trans (he4.below b3.size (by omega)); replace hr := (hr.below (he4.below (B := W.heap.size) (by omega) (by omega)) (Nat.le_refl _)); replace res_f0 := (he4.frozen res_0 (by simp only; omega)).trans res_f0; replace res_f1 := (he4.frozen res_1 (by simp only; omega)).trans res_f1; replace l_0 := he4.cell l_0 (by simp only; omega); replace l_1 := he4.cell l_1 (by simp only; omega); replace res_0 := he4.cell res_0 (by simp only; omega); replace res_1 := he4.cell res_1 (by simp only; omega); replace l_l := Nat.lt_of_lt_of_le l_l hz4; replace res_l := Nat.lt_of_lt_of_le res_l hz4; clear hb))
  go_wp2_with fail
  have r0 : ((w4.setCell ⟨W.heap.size + 1, 0, none⟩ (.int .i64 q)).setCell ⟨W.heap.size + 1, 1, none⟩ (.slice A1 n c1)).cell? ⟨W.heap.size + 1, 0, none⟩ = some (.int .i64 q) := set_other (set_same res_0 _) _ (.inr (by omega))
  have r1 : ((w4.setCell ⟨W.heap.size + 1, 0, none⟩ (.int .i64 q)).setCell ⟨W.heap.size + 1, 1, none⟩ (.slice A1 n c1)).cell? ⟨W.heap.size + 1, 1, none⟩ = some (.slice A1 n c1) := set_same (set_other res_1 _ (.inr (by omega))) _
  refine bodyPost_ret (v := .agg #[.int .i64 q, .slice A1 n c1]) (by simp [results, Try.results64, go_sem, r0, r1]) rfl ?_
  exact ⟨A1, c1, rfl, Own.made t (eff_set2 _ _ _ _) (by omega) (by omega), b4.trans ((eff_set2 _ _ _ _).below (by omega) (by omega))⟩
set_option maxHeartbeats 8000000 in
set_option maxRecDepth 100000 in
theorem impl_PostAll (q : Int) (A : Option Addr) (n c : Nat) (ls : List Ln) (Ap : Option Addr) (np cp : Nat) (es : List Ps) (W : World) (hr : Rd W W.heap.size 3 A n (lnCells ls)) (hp : RdPosting W W.heap.size Ap np es) (hn : n ≤ 1099511627776) (hnp : np ≤ 1099511627776) (hns : ∀ x ∈ es, x.n ≤ 1099511627776) (_hc : n ≤ c ∧ c ≤ maxLen) :
    Calls Try.prog 42 #[.agg #[.int .i64 q, .slice A n c], .slice Ap np cp] W (MadePost (allR q ls (es.map Ps.d)).1 (allR q ls (es.map Ps.d)).2.1 (allR q ls (es.map Ps.d)).2.2 W) := by
  have hl := lnlen_of_rd hr
  have hel := hp.len Ps.hf (by omega)
  have HL := Lib.hid hl
  have HEL := Lib.hid hel
  have HNS := Lib.hid hns
  clear hl hel hns
  rcases hLok : ledOk q ls with _ | _
  · rw [show allR q ls (es.map Ps.d) = (0, [], -1) by simp [allR, hLok]]
    show Calls _ _ _ _ (MadePost 0 [] (-1) W)
    go_enter Try.func42, Try.ntmps42
    go_wp2_with fail
    have he1 : Eff 0 0 W (W.alloc (.cells #[.int .i64 q, .slice A n c] 34)) := Eff.alloc _ _
    have hs1 : (W.alloc (.cells #[.int .i64 q, .slice A n c] 34)).heap.size = W.heap.size + 1 := (by simp)
    have l_0 : (W.alloc (.cells #[.int .i64 q, .slice A n c] 34)).cell? ⟨W.heap.size, 0, none⟩ = some (.int .i64 q) := var_cell _ _ _ _ _ rfl
    have l_1 : (W.alloc (.cells #[.int .i64 q, .slice A n c] 34)).cell? ⟨W.heap.size, 1, none⟩ = some (.slice A n c) := var_cell _ _ _ _ _ rfl
    generalize (W.alloc (.cells #[.int .i64 q, .slice A n c] 34)) = w1 at *
    have hz1 : W.heap.size ≤ w1.heap.size := he1.size
    have b1 : Below W.heap.size W w1 := he1.below (Nat.le_refl _) (by omega)
    replace hr := (hr.below (he1.below (B := W.heap.size) (by omega) (by omega)) (Nat.le_refl _))
    replace hp := (hp.below (he1.below (B := W.heap.size) (by omega) (by omega)) (Nat.le_refl _))
    have l_l : W.heap.size < w1.heap.size := (by omega)
    have he2 : Eff 0 0 w1 (w1.alloc (.cells #[.int .i64 0, .slice none 0 0] 34)) := Eff.alloc _ _
    have hs2 : (w1.alloc (.cells #[.int .i64 0, .slice none 0 0] 34)).heap.size = w1.heap.size + 1 := (by simp)
    have res_0 : (w1.alloc (.cells #[.int .i64 0, .slice none 0 0] 34)).cell? ⟨w1.heap.size, 0, none⟩ = some (.int .i64 0) := var_cell _ _ _ _ _ rfl
    have res_1 : (w1.alloc (.cells #[.int .i64 0, .slice none 0 0] 34)).cell? ⟨w1.heap.size, 1, none⟩ = some (.slice none 0 0) := var_cell _ _ _ _ _ rfl
    have res_f0 : (w1.alloc (.cells #[.int .i64 0, .slice none 0 0] 34)).frozen? ⟨w1.heap.size, 0, none⟩ = false := var_frozen _ _ _ _
    have res_f1 : (w1.alloc (.cells #[.int .i64 0, .slice none 0 0] 34)).frozen? ⟨w1.heap.size, 1, none⟩ = false := var_frozen _ _ _ _
    generalize (w1.alloc (.cells #[.int .i64 0, .slice none 0 0] 34)) = w2 at *
    have hz2 : w1.heap.size ≤ w2.heap.size := he2.size
    have b2 : Below W.heap.size W w2 := b1.trans (he2.below b1.size (by omega))
    replace hr := (hr.below (he2.below (B := W.heap.size) (by omega) (by omega)) (Nat.le_refl _))
    replace hp := (hp.below (he2.below (B := W.heap.size) (by omega) (by omega)) (Nat.le_refl _))
    replace l_0 := he2.cell l_0 (by simp only; omega)
    replace l_1 := he2.cell l_1 (by simp only; omega)
    replace l_l := Nat.lt_of_lt_of_le l_l hz2
    rw [hs1] at res_0 res_f0
    rw [hs1] at res_1 res_f1
    have res_l : W.heap.size + 1 < w2.heap.size := (by omega)
    have hw2 : w2.heap.size = W.heap.size + 2 := by omega
    clear hs1 hs2
    refine (impl_LedgerOk q A n c ls w2 (hr.more (by omega)) hn).mono ?_
    rintro e w3 ⟨rfl, hb⟩
    have he3 : Eff 0 0 w2 w3 := Eff.of hb
    have hz3 : w2.heap.size ≤ w3.heap.size := he3.size
    have b3 : Below W.heap.size W w3 := b2.trans (he3.below b2.size (by omega))
    replace hr := (hr.below (he3.below (B := W.heap.size) (by omega) (by omega)) (Nat.le_refl _))
    replace hp := (hp.below (he3.below (B := W.heap.size) (by omega) (by omega)) (Nat.le_refl _))
    replace res_f0 := (he3.frozen res_0 (by simp only; omega)).trans res_f0
    replace res_f1 := (he3.frozen res_1 (by simp only; omega)).trans res_f1
    replace l_0 := he3.cell l_0 (by simp only; omega)
    replace l_1 := he3.cell l_1 (by simp only; omega)
    replace res_0 := he3.cell res_0 (by simp only; omega)
    replace res_1 := he3.cell res_1 (by simp only; omega)
    replace l_l := Nat.lt_of_lt_of_le l_l hz3
    replace res_l := Nat.lt_of_lt_of_le res_l hz3
    clear hb
    rw [hLok]
    go_wp2_with fail
    have r0 : ((w3.setCell ⟨W.heap.size + 1, 0, none⟩ (.int .i64 0)).setCell ⟨W.heap.size + 1, 1, none⟩ (.slice none 0 0)).cell? ⟨W.heap.size + 1, 0, none⟩ = some (.int .i64 0) := set_other (set_same res_0 _) _ (.inr (by omega))
    have r1 : ((w3.setCell ⟨W.heap.size + 1, 0, none⟩ (.int .i64 0)).setCell ⟨W.heap.size + 1, 1, none⟩ (.slice none 0 0)).cell? ⟨W.heap.size + 1, 1, none⟩ = some (.slice none 0 0) := set_same (set_other res_1 _ (.inr (by omega))) _
    refine bodyPost_ret (v := .tuple #[.agg #[.int .i64 0, .slice none 0 0], .int .i64 (-1)]) (by simp [results, Try.results42, go_sem, r0, r1]) rfl ?_
    exact made_zero (b := W.heap.size + 1) (-1) b3 (eff_set2 _ _ _ _) (by omega)
  have hLr := led_rng hLok
  rw [HL.out] at hLr
  obtain ⟨-, hLn⟩ := hLr
  have HAR : Hid (allR q ls (es.map Ps.d) = (es.map Ps.d).foldl stepR (q, ls, 0)) := Lib.hid (by simp [allR, hLok])
  obtain ⟨i0, hi0, hj0, hj1, hj2⟩ := info_parts info_Line
  go_enter Try.func42, Try.ntmps42
  go_wp2_with fail
  have he1 : Eff 0 0 W (W.alloc (.cells #[.int .i64 q, .slice A n c] 34)) := Eff.alloc _ _
  have hs1 : (W.alloc (.cells #[.int .i64 q, .slice A n c] 34)).heap.size = W.heap.size + 1 := (by simp)
  have l_0 : (W.alloc (.cells #[.int .i64 q, .slice A n c] 34)).cell? ⟨W.heap.size, 0, none⟩ = some (.int .i64 q) := var_cell _ _ _ _ _ rfl
  have l_1 : (W.alloc (.cells #[.int .i64 q, .slice A n c] 34)).cell? ⟨W.heap.size, 1, none⟩ = some (.slice A n c) := var_cell _ _ _ _ _ rfl
  generalize (W.alloc (.cells #[.int .i64 q, .slice A n c] 34)) = w1 at *
  have hz1 : W.heap.size ≤ w1.heap.size := he1.size
  have b1 : Below W.heap.size W w1 := he1.below (Nat.le_refl _) (by omega)
  replace hr := (hr.below (he1.below (B := W.heap.size) (by omega) (by omega)) (Nat.le_refl _))
  replace hp := (hp.below (he1.below (B := W.heap.size) (by omega) (by omega)) (Nat.le_refl _))
  have l_l : W.heap.size < w1.heap.size := (by omega)
  have he2 : Eff 0 0 w1 (w1.alloc (.cells #[.int .i64 0, .slice none 0 0] 34)) := Eff.alloc _ _
  have hs2 : (w1.alloc (.cells #[.int .i64 0, .slice none 0 0] 34)).heap.size = w1.heap.size + 1 := (by simp)
  have res_0 : (w1.alloc (.cells #[.int .i64 0, .slice none 0 0] 34)).cell? ⟨w1.heap.size, 0, none⟩ = some (.int .i64 0) := var_cell _ _ _ _ _ rfl
  have res_1 : (w1.alloc (.cells #[.int .i64 0, .slice none 0 0] 34)).cell? ⟨w1.heap.size, 1, none⟩ = some (.slice none 0 0) := var_cell _ _ _ _ _ rfl
  have res_f0 : (w1.alloc (.cells #[.int .i64 0, .slice none 0 0] 34)).frozen? ⟨w1.heap.size, 0, none⟩ = false := var_frozen _ _ _ _
  have res_f1 : (w1.alloc (.cells #[.int .i64 0, .slice none 0 0] 34)).frozen? ⟨w1.heap.size, 1, none⟩ = false := var_frozen _ _ _ _
  generalize (w1.alloc (.cells #[.int .i64 0, .slice none 0 0] 34)) = w2 at *
  have hz2 : w1.heap.size ≤ w2.heap.size := he2.size
  have b2 : Below W.heap.size W w2 := b1.trans (he2.below b1.size (by omega))
  replace hr := (hr.below (he2.below (B := W.heap.size) (by omega) (by omega)) (Nat.le_refl _))
  replace hp := (hp.below (he2.below (B := W.heap.size) (by omega) (by omega)) (Nat.le_refl _))
  replace l_0 := he2.cell l_0 (by simp only; omega)
  replace l_1 := he2.cell l_1 (by simp only; omega)
  replace l_l := Nat.lt_of_lt_of_le l_l hz2
  rw [hs1] at res_0 res_f0
  rw [hs1] at res_1 res_f1
  have res_l : W.heap.size + 1 < w2.heap.size := (by omega)
  have hw2 : w2.heap.size = W.heap.size + 2 := by omega
  clear hs1 hs2
  refine (impl_LedgerOk q A n c ls w2 (hr.more (by omega)) hn).mono ?_
  rintro e w3 ⟨rfl, hb⟩
  have he3 : Eff 0 0 w2 w3 := Eff.of hb
  have hz3 : w2.heap.size ≤ w3.heap.size := he3.size
  have b3 : Below W.heap.size W w3 := b2.trans (he3.below b2.size (by omega))
  replace hr := (hr.below (he3.below (B := W.heap.size) (by omega) (by omega)) (Nat.le_refl _))
  replace hp := (hp.below (he3.below (B := W.heap.size) (by omega) (by omega)) (Nat.le_refl _))
  replace res_f0 := (he3.frozen res_0 (by simp only; omega)).trans res_f0
  replace res_f1 := (he3.frozen res_1 (by simp only; omega)).trans res_f1
  replace l_0 := he3.cell l_0 (by simp only; omega)
  replace l_1 := he3.cell l_1 (by simp only; omega)
  replace res_0 := he3.cell res_0 (by simp only; omega)
  replace res_1 := he3.cell res_1 (by simp only; omega)
  replace l_l := Nat.lt_of_lt_of_le l_l hz3
  replace res_l := Nat.lt_of_lt_of_le res_l hz3
  clear hb
  rw [hLok]
  have HLO := Lib.hid hLok
  clear hLok
  go_wp2_with fail
  refine (copyLedger_any q A n c ls w3 (hr.more (by omega)) hn).mono ?_
  rintro e w4 ⟨A1, c1, rfl, o, hb⟩
  have he4 : Eff 0 0 w3 w4 := Eff.of hb
  have hz4 : w3.heap.size ≤ w4.heap.size := he4.size
  have b4 : Below W.heap.size W w4 := b3.trans (he4.below b3.size (by omega))
  replace hr := (hr.below (he4.below (B := W.heap.size) (by omega) (by omega)) (Nat.le_refl _))
  replace hp := (hp.below (he4.below (B := W.heap.size) (by omega) (by omega)) (Nat.le_refl _))
  replace res_f0 := (he4.frozen res_0 (by simp only; omega)).trans res_f0
  replace res_f1 := (he4.frozen res_1 (by simp only; omega)).trans res_f1
  replace l_0 := he4.cell l_0 (by simp only; omega)
  replace l_1 := he4.cell l_1 (by simp only; omega)
  replace res_0 := he4.cell res_0 (by simp only; omega)
  replace res_1 := he4.cell res_1 (by simp only; omega)
  replace l_l := Nat.lt_of_lt_of_le l_l hz4
  replace res_l := Nat.lt_of_lt_of_le res_l hz4
  clear hb
  go_upto_region 4 with fail
  have he5 : Eff 0 0 w4 (w4.alloc (.cells #[.int .i64 q, .slice A1 n c1] 34)) := Eff.alloc _ _
  have hs5 : (w4.alloc (.cells #[.int .i64 q, .slice A1 n c1] 34)).heap.size = w4.heap.size + 1 := (by simp)
  have v_0 : (w4.alloc (.cells #[.int .i64 q, .slice A1 n c1] 34)).cell? ⟨w4.heap.size, 0, none⟩ = some (.int .i64 q) := var_cell _ _ _ _ _ rfl
  have v_1 : (w4.alloc (.cells #[.int .i64 q, .slice A1 n c1] 34)).cell? ⟨w4.heap.size, 1, none⟩ = some (.slice A1 n c1) := var_cell _ _ _ _ _ rfl
  have v_f0 : (w4.alloc (.cells #[.int .i64 q, .slice A1 n c1] 34)).frozen? ⟨w4.heap.size, 0, none⟩ = false := var_frozen _ _ _ _
  have v_f1 : (w4.alloc (.cells #[.int .i64 q, .slice A1 n c1] 34)).frozen? ⟨w4.heap.size, 1, none⟩ = false := var_frozen _ _ _ _
  generalize (w4.alloc (.cells #[.int .i64 q, .slice A1 n c1] 34)) = w5 at *
  have hz5 : w4.heap.size ≤ w5.heap.size := he5.size
  have b5 : Below W.heap.size W w5 := b4.trans (he5.below b4.size (by omega))
  replace hr := (hr.below (he5.below (B := W.heap.size) (by omega) (by omega)) (Nat.le_refl _))
  replace hp := (hp.below (he5.below (B := W.heap.size) (by omega) (by omega)) (Nat.le_refl _))
  replace o := Own.keep o he5 (by omega)
  replace res_f0 := (he5.frozen res_0 (by simp only; omega)).trans res_f0
  replace res_f1 := (he5.frozen res_1 (by simp only; omega)).trans res_f1
  replace l_0 := he5.cell l_0 (by simp only; omega)
  replace l_1 := he5.cell l_1 (by simp only; omega)
  replace res_0 := he5.cell res_0 (by simp only; omega)
  replace res_1 := he5.cell res_1 (by simp only; omega)
  replace l_l := Nat.lt_of_lt_of_le l_l hz5
  replace res_l := Nat.lt_of_lt_of_le res_l hz5
  have v_l : w4.heap.size < w5.heap.size := (by omega)
  have hne : ∀ k, (Value.slice A1 n c1).ownBlock = some k → k ≠ w4.heap.size := fun k hk => by have := Own.blk o k hk; omega
  clear hs5
  go_wp2_with fail
  have hob : W.heap.size + 2 ≤ w4.heap.size := by omega
  go_loopw [7, 20] (fun vk vi wr => ∃ (i m c2 k lo hi : Nat) (q2 : Int) (A2 : Option Addr) (rs : List Ln), i ≤ np ∧ k ≤ i ∧ m ≤ 302 ∧ vi = .int .i64 (i : Int) ∧ vk = .int .i64 (k : Int) ∧ Hid (((es.map Ps.d).take i).foldl stepR (q, ls, 0) = (q2, rs, (k : Int))) ∧ OwnL wr lo hi A2 m c2 rs ∧ (∀ x, (Value.slice A2 m c2).ownBlock = some x → x ≠ w4.heap.size) ∧ W.heap.size + 2 ≤ lo ∧ wr.cell? ⟨w4.heap.size, 0, none⟩ = some (.int .i64 q2) ∧ wr.cell? ⟨w4.heap.size, 1, none⟩ = some (.slice A2 m c2) ∧ wr.frozen? ⟨w4.heap.size, 0, none⟩ = false ∧ wr.frozen? ⟨w4.heap.size, 1, none⟩ = false ∧ Eff w4.heap.size (w4.heap.size + 1) w5 wr) (fun _ vi _ => np - (intOf vi).toNat)
  case atStart => exact ⟨0, n, c1, 0, _, _, q, A1, ls, by omega, by omega, hLn, rfl, rfl, Lib.hid rfl, o, hne, by omega, v_0, v_1, v_f0, v_f1, Eff.refl _ _ _⟩
  clear o hne v_0 v_1 v_f0 v_f1
  case round =>
    obtain ⟨i, m, c2, k, lo, hi, q2, A2, rs, hi1, hki, hm, rfl, rfl, HF, o, hne, hlo, v_0, v_1, v_f0, v_f1, hE⟩ := hrel
    have hzr := hE.size
    have hbW : Below W.heap.size W wr := b5.trans (hE.below b5.size (.inl (by omega)))
    replace hp := hp.below (hE.below (B := W.heap.size) (by omega) (.inl (by omega))) (Nat.le_refl _)
    by_cases hlt : i < np
    · skip
      obtain ⟨b, off, ⟨s_idn, Ax, nx, cx, lx⟩, rfl, hbB, hx, hcell, hi, hcap⟩ := (hp).elem Ps.hf (by omega) hlt
      have cc0 : wr.cell? ⟨b, off + i * 2, none⟩ = some (.int .i64 s_idn) := by have := hcell 0 _ rfl; simpa [Nat.mul_one, Nat.add_assoc] using this
      have cc1 : wr.cell? ⟨b, off + i * 2 + 1, none⟩ = some (.slice Ax nx cx) := by have := hcell 1 _ rfl; simpa [Nat.mul_one, Nat.add_assoc] using this
      have HX := Lib.hid hx
      clear hcell hx
      have hnx : nx ≤ 1099511627776 := HNS.out _ (List.mem_of_getElem? HX.out)
      have HD : Hid ((es.map Ps.d)[i]? = some (s_idn, lx)) := Lib.hid (by rw [List.getElem?_map, HX.out]; rfl)
      have HF2 := Lib.hid (fold_more HD.out (q, ls, 0))
      have j0 : (0 : Int) ≤ (i : Int) := by omega
      have j1 : (i : Int) < (np : Int) := by omega
      have hvl : w4.heap.size < wr.heap.size := by omega
      have HI := Lib.hid hi
      have HCAP := Lib.hid hcap
      obtain ⟨Q, hQ⟩ : ∃ x, (postR q2 rs s_idn lx).1 = x := ⟨_, rfl⟩
      obtain ⟨R, hR⟩ : ∃ x, (postR q2 rs s_idn lx).2.1 = x := ⟨_, rfl⟩
      obtain ⟨Cd, hC⟩ : ∃ x, (postR q2 rs s_idn lx).2.2 = x := ⟨_, rfl⟩
      have hRl : R.length ≤ 302 := by rw [← hR]; exact postR_len _ _ _ _
      have HST : Hid (stepR (q2, rs, (k : Int)) (s_idn, lx) = if Cd = 0 then (Q, R, (k : Int) + 1) else (q2, rs, (k : Int))) := Lib.hid (by unfold stepR; simp only; rw [hQ, hR, hC])
      have HQ := Lib.hid hQ
      have HR := Lib.hid hR
      have HC := Lib.hid hC
      clear hQ hR hC hi hcap
      have v_0P := (Eff.alloc wr (.cells #[.int .i64 s_idn, .slice Ax nx cx] 43)).cell v_0 (by simp only; omega)
      have v_1P := (Eff.alloc wr (.cells #[.int .i64 s_idn, .slice Ax nx cx] 43)).cell v_1 (by simp only; omega)
      go_wp2_with fail
      have he1 : Eff 0 0 wr (wr.alloc (.cells #[.int .i64 s_idn, .slice Ax nx cx] 43)) := Eff.alloc _ _
      have hs1 : (wr.alloc (.cells #[.int .i64 s_idn, .slice Ax nx cx] 43)).heap.size = wr.heap.size + 1 := (by simp)
      have p_0 : (wr.alloc (.cells #[.int .i64 s_idn, .slice Ax nx cx] 43)).cell? ⟨wr.heap.size, 0, none⟩ = some (.int .i64 s_idn) := var_cell _ _ _ _ _ rfl
      have p_1 : (wr.alloc (.cells #[.int .i64 s_idn, .slice Ax nx cx] 43)).cell? ⟨wr.heap.size, 1, none⟩ = some (.slice Ax nx cx) := var_cell _ _ _ _ _ rfl
      generalize (wr.alloc (.cells #[.int .i64 s_idn, .slice Ax nx cx] 43)) = z1 at *
      have hz1 : wr.heap.size ≤ z1.heap.size := he1.size
      have b1 : Below W.heap.size W z1 := hbW.trans (he1.below hbW.size (by omega))
      replace o := Own.keep o he1 (by omega)
      replace v_f0 := (he1.frozen v_0 (by simp only; omega)).trans v_f0
      replace v_f1 := (he1.frozen v_1 (by simp only; omega)).trans v_f1
      replace v_0 := he1.cell v_0 (by simp only; omega)
      replace v_1 := he1.cell v_1 (by simp only; omega)
      have p_l : wr.heap.size < z1.heap.size := (by omega)
      clear v_0P v_1P
      clear hs1
      have hix := (HI.out.below (he1.below (B := W.heap.size) (by omega) (.inr (Nat.le_refl _))) (Nat.le_refl _))
      refine (impl_PostR HQ.out HR.out HC.out _ m _ _ nx _ z1 (Own.rd o (Own.le o)) (hix.more (by omega)) (by omega) hnx (Own.caps o) HCAP.out).mono ?_
      rintro e z2 ⟨Ar, nr, cr, hnr, rfl, r, hb⟩
      have hnr2 : nr ≤ 302 := by omega
      clear hnr
      have he2 : Eff 0 0 z1 z2 := Eff.of hb
      have hz2 : z1.heap.size ≤ z2.heap.size := he2.size
      have b2 : Below W.heap.size W z2 := b1.trans (he2.below b1.size (by omega))
      replace o := Own.keep o he2 (by omega)
      replace v_f0 := (he2.frozen v_0 (by simp only; omega)).trans v_f0
      replace v_f1 := (he2.frozen v_1 (by simp only; omega)).trans v_f1
      replace v_0 := he2.cell v_0 (by simp only; omega)
      replace v_1 := he2.cell v_1 (by simp only; omega)
      replace p_0 := he2.cell p_0 (by simp only; omega)
      replace p_1 := he2.cell p_1 (by simp only; omega)
      replace p_l := Nat.lt_of_lt_of_le p_l hz2
      clear hb
      by_cases hcd : Cd = 0
      · skip
        have HCD := Lib.hid hcd
        subst hcd
        go_upto_region 10 with fail
        have he3 : Eff 0 0 z2 (z2.alloc (.cells #[.int .i64 Q, .slice Ar nr cr] 34)) := Eff.alloc _ _
        have hs3 : (z2.alloc (.cells #[.int .i64 Q, .slice Ar nr cr] 34)).heap.size = z2.heap.size + 1 := (by simp)
        have nx0_0 : (z2.alloc (.cells #[.int .i64 Q, .slice Ar nr cr] 34)).cell? ⟨z2.heap.size, 0, none⟩ = some (.int .i64 Q) := var_cell _ _ _ _ _ rfl
        have nx0_1 : (z2.alloc (.cells #[.int .i64 Q, .slice Ar nr cr] 34)).cell? ⟨z2.heap.size, 1, none⟩ = some (.slice Ar nr cr) := var_cell _ _ _ _ _ rfl
        generalize (z2.alloc (.cells #[.int .i64 Q, .slice Ar nr cr] 34)) = z3 at *
        have hz3 : z2.heap.size ≤ z3.heap.size := he3.size
        have b3 : Below W.heap.size W z3 := b2.trans (he3.below b2.size (by omega))
        replace o := Own.keep o he3 (by omega)
        replace r := Own.keep r he3 (by omega)
        replace v_f0 := (he3.frozen v_0 (by simp only; omega)).trans v_f0
        replace v_f1 := (he3.frozen v_1 (by simp only; omega)).trans v_f1
        replace v_0 := he3.cell v_0 (by simp only; omega)
        replace v_1 := he3.cell v_1 (by simp only; omega)
        replace p_0 := he3.cell p_0 (by simp only; omega)
        replace p_1 := he3.cell p_1 (by simp only; omega)
        replace p_l := Nat.lt_of_lt_of_le p_l hz3
        have nx0_l : z2.heap.size < z3.heap.size := (by omega)
        clear hs3
        have hro := Own.blk r
        go_upto_region 11 with fail
        have es2 : Eff w4.heap.size (w4.heap.size + 1) z3 ((z3.setCell ⟨w4.heap.size, 0, none⟩ (.int .i64 Q)).setCell ⟨w4.heap.size, 1, none⟩ (.slice Ar nr cr)) := eff_set2 _ _ _ _
        have hv0 : ((z3.setCell ⟨w4.heap.size, 0, none⟩ (.int .i64 Q)).setCell ⟨w4.heap.size, 1, none⟩ (.slice Ar nr cr)).cell? ⟨w4.heap.size, 0, none⟩ = some (.int .i64 Q) := set_other (set_same v_0 _) _ (.inr (by omega))
        have hv1 : ((z3.setCell ⟨w4.heap.size, 0, none⟩ (.int .i64 Q)).setCell ⟨w4.heap.size, 1, none⟩ (.slice Ar nr cr)).cell? ⟨w4.heap.size, 1, none⟩ = some (.slice Ar nr cr) := set_same (set_other v_1 _ (.inr (by omega))) _
        replace v_f0 : ((z3.setCell ⟨w4.heap.size, 0, none⟩ (.int .i64 Q)).setCell ⟨w4.heap.size, 1, none⟩ (.slice Ar nr cr)).frozen? ⟨w4.heap.size, 0, none⟩ = false := set_frozen (set_frozen v_f0 _) _
        replace v_f1 : ((z3.setCell ⟨w4.heap.size, 0, none⟩ (.int .i64 Q)).setCell ⟨w4.heap.size, 1, none⟩ (.slice Ar nr cr)).frozen? ⟨w4.heap.size, 1, none⟩ = false := set_frozen (set_frozen v_f1 _) _
        clear v_0 v_1
        replace r := Own.keep r es2 (by omega)
        generalize ((z3.setCell ⟨w4.heap.size, 0, none⟩ (.int .i64 Q)).setCell ⟨w4.heap.size, 1, none⟩ (.slice Ar nr cr)) = wz at *
        have kw : IntKind.i64.wrap ((k : Int) + 1) = (k : Int) + 1 := IntWalk.i64_in _ (by omega)
        go_wp2_with fail
        go_roundw
        case rel => exact ⟨i + 1, nr, cr, k + 1, _, _, Q, Ar, R, by omega, by omega, by omega, by go_num, by go_num, Lib.hid (by rw [HF2.out, HF.out, HST.out]; simp), r, fun x hx => by have := hro x hx; omega, by omega, hv0, hv1, v_f0, v_f1, (hE.trans (((he1.any).trans he2.any).trans he3.any)).trans es2⟩
        case measure => simp [intOf]; omega
      · skip
        have hcd0 : (Cd == 0) = false := by simp; exact hcd
        have HST2 := Lib.hid (HST.out.trans (if_neg hcd))
        go_wp2_with fail
        go_roundw
        case rel => exact ⟨i + 1, m, c2, k, _, _, q2, A2, rs, by omega, by omega, hm, by go_num, rfl, Lib.hid (by rw [HF2.out, HF.out, HST2.out]), Own.alloc o _, hne, hlo, (Eff.alloc _ _).cell v_0 (.inr (Nat.zero_le _)), (Eff.alloc _ _).cell v_1 (.inr (Nat.zero_le _)), ((Eff.alloc _ _).frozen v_0 (.inr (Nat.zero_le _))).trans v_f0, ((Eff.alloc _ _).frozen v_1 (.inr (Nat.zero_le _))).trans v_f1, (hE.trans ((he1.any).trans he2.any)).new _⟩
        case measure => simp [intOf]; omega
    · obtain rfl : np = i := by omega
      have i1 : ¬ (np : Int) < (np : Int) := by omega
      replace res_f0 := (hE.frozen res_0 (.inl (by simp only; omega))).trans res_f0
      replace res_f1 := (hE.frozen res_1 (.inl (by simp only; omega))).trans res_f1
      replace res_0 := hE.cell res_0 (.inl (by simp only; omega))
      replace res_1 := hE.cell res_1 (.inl (by simp only; omega))
      have hfl : allR q ls (es.map Ps.d) = (q2, rs, (k : Int)) := by
        rw [HAR.out, ← HF.out, List.take_of_length_le (by rw [List.length_map, HEL.out]; exact Nat.le_refl _)]
      have HFL := Lib.hid hfl
      clear hfl
      go_wp2_with fail
      have r0 : ((wr.setCell ⟨W.heap.size + 1, 0, none⟩ (.int .i64 q2)).setCell ⟨W.heap.size + 1, 1, none⟩ (.slice A2 m c2)).cell? ⟨W.heap.size + 1, 0, none⟩ = some (.int .i64 q2) := set_other (set_same res_0 _) _ (.inr (by omega))
      have r1 : ((wr.setCell ⟨W.heap.size + 1, 0, none⟩ (.int .i64 q2)).setCell ⟨W.heap.size + 1, 1, none⟩ (.slice A2 m c2)).cell? ⟨W.heap.size + 1, 1, none⟩ = some (.slice A2 m c2) := set_same (set_other res_1 _ (.inr (by omega))) _
      refine bodyPost_ret (v := .tuple #[.agg #[.int .i64 q2, .slice A2 m c2], .int .i64 (k : Int)]) (by simp [results, Try.results42, go_sem, r0, r1]) rfl ?_
      rw [HFL.out]
      exact made_all o hbW (eff_set2 _ _ _ _) (by omega) (by omega) (by omega)
set_option maxHeartbeats 8000000 in
set_option maxRecDepth 100000 in
theorem spec_PostAll (q : Int) (A : Option Addr) (n c : Nat) (ls : List Ln) (Ap : Option Addr) (np cp : Nat) (es : List Ps) (W : World) (hr : Rd W W.heap.size 3 A n (lnCells ls)) (hp : RdPosting W W.heap.size Ap np es) (hn : n ≤ 1099511627776) (hnp : np ≤ 1099511627776) (hns : ∀ x ∈ es, x.n ≤ 1099511627776) (_hc : n ≤ c ∧ c ≤ maxLen) :
    Calls Try.prog 40 #[.agg #[.int .i64 q, .slice A n c], .slice Ap np cp] W (MadePost (allR q ls (es.map Ps.d)).1 (allR q ls (es.map Ps.d)).2.1 (allR q ls (es.map Ps.d)).2.2 W) := by
  have hl := lnlen_of_rd hr
  have hel := hp.len Ps.hf (by omega)
  have HL := Lib.hid hl
  have HEL := Lib.hid hel
  have HNS := Lib.hid hns
  clear hl hel hns
  rcases hLok : ledOk q ls with _ | _
  · rw [show allR q ls (es.map Ps.d) = (0, [], -1) by simp [allR, hLok]]
    show Calls _ _ _ _ (MadePost 0 [] (-1) W)
    go_enter Try.func40, Try.ntmps40
    go_wp2_with fail
    have he1 : Eff 0 0 W (W.alloc (.cells #[.int .i64 q, .slice A n c] 34)) := Eff.alloc _ _
    have hs1 : (W.alloc (.cells #[.int .i64 q, .slice A n c] 34)).heap.size = W.heap.size + 1 := (by simp)
    have l_0 : (W.alloc (.cells #[.int .i64 q, .slice A n c] 34)).cell? ⟨W.heap.size, 0, none⟩ = some (.int .i64 q) := var_cell _ _ _ _ _ rfl
    have l_1 : (W.alloc (.cells #[.int .i64 q, .slice A n c] 34)).cell? ⟨W.heap.size, 1, none⟩ = some (.slice A n c) := var_cell _ _ _ _ _ rfl
    generalize (W.alloc (.cells #[.int .i64 q, .slice A n c] 34)) = w1 at *
    have hz1 : W.heap.size ≤ w1.heap.size := he1.size
    have b1 : Below W.heap.size W w1 := he1.below (Nat.le_refl _) (by omega)
    replace hr := (hr.below (he1.below (B := W.heap.size) (by omega) (by omega)) (Nat.le_refl _))
    replace hp := (hp.below (he1.below (B := W.heap.size) (by omega) (by omega)) (Nat.le_refl _))
    have l_l : W.heap.size < w1.heap.size := (by omega)
    have he2 : Eff 0 0 w1 (w1.alloc (.cells #[.int .i64 0, .slice none 0 0] 34)) := Eff.alloc _ _
    have hs2 : (w1.alloc (.cells #[.int .i64 0, .slice none 0 0] 34)).heap.size = w1.heap.size + 1 := (by simp)
    have res_0 : (w1.alloc (.cells #[.int .i64 0, .slice none 0 0] 34)).cell? ⟨w1.heap.size, 0, none⟩ = some (.int .i64 0) := var_cell _ _ _ _ _ rfl
    have res_1 : (w1.alloc (.cells #[.int .i64 0, .slice none 0 0] 34)).cell? ⟨w1.heap.size, 1, none⟩ = some (.slice none 0 0) := var_cell _ _ _ _ _ rfl
    have res_f0 : (w1.alloc (.cells #[.int .i64 0, .slice none 0 0] 34)).frozen? ⟨w1.heap.size, 0, none⟩ = false := var_frozen _ _ _ _
    have res_f1 : (w1.alloc (.cells #[.int .i64 0, .slice none 0 0] 34)).frozen? ⟨w1.heap.size, 1, none⟩ = false := var_frozen _ _ _ _
    generalize (w1.alloc (.cells #[.int .i64 0, .slice none 0 0] 34)) = w2 at *
    have hz2 : w1.heap.size ≤ w2.heap.size := he2.size
    have b2 : Below W.heap.size W w2 := b1.trans (he2.below b1.size (by omega))
    replace hr := (hr.below (he2.below (B := W.heap.size) (by omega) (by omega)) (Nat.le_refl _))
    replace hp := (hp.below (he2.below (B := W.heap.size) (by omega) (by omega)) (Nat.le_refl _))
    replace l_0 := he2.cell l_0 (by simp only; omega)
    replace l_1 := he2.cell l_1 (by simp only; omega)
    replace l_l := Nat.lt_of_lt_of_le l_l hz2
    rw [hs1] at res_0 res_f0
    rw [hs1] at res_1 res_f1
    have res_l : W.heap.size + 1 < w2.heap.size := (by omega)
    have hw2 : w2.heap.size = W.heap.size + 2 := by omega
    clear hs1 hs2
    refine (spec_LedgerOk q A n c ls w2 (hr.more (by omega)) hn).mono ?_
    rintro e w3 ⟨rfl, hb⟩
    have he3 : Eff 0 0 w2 w3 := Eff.of hb
    have hz3 : w2.heap.size ≤ w3.heap.size := he3.size
    have b3 : Below W.heap.size W w3 := b2.trans (he3.below b2.size (by omega))
    replace hr := (hr.below (he3.below (B := W.heap.size) (by omega) (by omega)) (Nat.le_refl _))
    replace hp := (hp.below (he3.below (B := W.heap.size) (by omega) (by omega)) (Nat.le_refl _))
    replace res_f0 := (he3.frozen res_0 (by simp only; omega)).trans res_f0
    replace res_f1 := (he3.frozen res_1 (by simp only; omega)).trans res_f1
    replace l_0 := he3.cell l_0 (by simp only; omega)
    replace l_1 := he3.cell l_1 (by simp only; omega)
    replace res_0 := he3.cell res_0 (by simp only; omega)
    replace res_1 := he3.cell res_1 (by simp only; omega)
    replace l_l := Nat.lt_of_lt_of_le l_l hz3
    replace res_l := Nat.lt_of_lt_of_le res_l hz3
    clear hb
    rw [hLok]
    go_wp2_with fail
    have r0 : ((w3.setCell ⟨W.heap.size + 1, 0, none⟩ (.int .i64 0)).setCell ⟨W.heap.size + 1, 1, none⟩ (.slice none 0 0)).cell? ⟨W.heap.size + 1, 0, none⟩ = some (.int .i64 0) := set_other (set_same res_0 _) _ (.inr (by omega))
    have r1 : ((w3.setCell ⟨W.heap.size + 1, 0, none⟩ (.int .i64 0)).setCell ⟨W.heap.size + 1, 1, none⟩ (.slice none 0 0)).cell? ⟨W.heap.size + 1, 1, none⟩ = some (.slice none 0 0) := set_same (set_other res_1 _ (.inr (by omega))) _
    refine bodyPost_ret (v := .tuple #[.agg #[.int .i64 0, .slice none 0 0], .int .i64 (-1)]) (by simp [results, Try.results40, go_sem, r0, r1]) rfl ?_
    exact made_zero (b := W.heap.size + 1) (-1) b3 (eff_set2 _ _ _ _) (by omega)
  have hLr := led_rng hLok
  rw [HL.out] at hLr
  obtain ⟨-, hLn⟩ := hLr
  have HAR : Hid (allR q ls (es.map Ps.d) = (es.map Ps.d).foldl stepR (q, ls, 0)) := Lib.hid (by simp [allR, hLok])
  obtain ⟨i0, hi0, hj0, hj1, hj2⟩ := info_parts info_Line
  go_enter Try.func40, Try.ntmps40
  go_wp2_with fail
  have he1 : Eff 0 0 W (W.alloc (.cells #[.int .i64 q, .slice A n c] 34)) := Eff.alloc _ _
  have hs1 : (W.alloc (.cells #[.int .i64 q, .slice A n c] 34)).heap.size = W.heap.size + 1 := (by simp)
  have l_0 : (W.alloc (.cells #[.int .i64 q, .slice A n c] 34)).cell? ⟨W.heap.size, 0, none⟩ = some (.int .i64 q) := var_cell _ _ _ _ _ rfl
  have l_1 : (W.alloc (.cells #[.int .i64 q, .slice A n c] 34)).cell? ⟨W.heap.size, 1, none⟩ = some (.slice A n c) := var_cell _ _ _ _ _ rfl
  generalize (W.alloc (.cells #[.int .i64 q, .slice A n c] 34)) = w1 at *
  have hz1 : W.heap.size ≤ w1.heap.size := he1.size
  have b1 : Below W.heap.size W w1 := he1.below (Nat.le_refl _) (by omega)
  replace hr := (hr.below (he1.below (B := W.heap.size) (by omega) (by omega)) (Nat.le_refl _))
  replace hp := (hp.below (he1.below (B := W.heap.size) (by omega) (by omega)) (Nat.le_refl _))
  have l_l : W.heap.size < w1.heap.size := (by omega)
  have he2 : Eff 0 0 w1 (w1.alloc (.cells #[.int .i64 0, .slice none 0 0] 34)) := Eff.alloc _ _
  have hs2 : (w1.alloc (.cells #[.int .i64 0, .slice none 0 0] 34)).heap.size = w1.heap.size + 1 := (by simp)
  have res_0 : (w1.alloc (.cells #[.int .i64 0, .slice none 0 0] 34)).cell? ⟨w1.heap.size, 0, none⟩ = some (.int .i64 0) := var_cell _ _ _ _ _ rfl
  have res_1 : (w1.alloc (.cells #[.int .i64 0, .slice none 0 0] 34)).cell? ⟨w1.heap.size, 1, none⟩ = some (.slice none 0 0) := var_cell _ _ _ _ _ rfl
  have res_f0 : (w1.alloc (.cells #[.int .i64 0, .slice none 0 0] 34)).frozen? ⟨w1.heap.size, 0, none⟩ = false := var_frozen _ _ _ _
  have res_f1 : (w1.alloc (.cells #[.int .i64 0, .slice none 0 0] 34)).frozen? ⟨w1.heap.size, 1, none⟩ = false := var_frozen _ _ _ _
  generalize (w1.alloc (.cells #[.int .i64 0, .slice none 0 0] 34)) = w2 at *
  have hz2 : w1.heap.size ≤ w2.heap.size := he2.size
  have b2 : Below W.heap.size W w2 := b1.trans (he2.below b1.size (by omega))
  replace hr := (hr.below (he2.below (B := W.heap.size) (by omega) (by omega)) (Nat.le_refl _))
  replace hp := (hp.below (he2.below (B := W.heap.size) (by omega) (by omega)) (Nat.le_refl _))
  replace l_0 := he2.cell l_0 (by simp only; omega)
  replace l_1 := he2.cell l_1 (by simp only; omega)
  replace l_l := Nat.lt_of_lt_of_le l_l hz2
  rw [hs1] at res_0 res_f0
  rw [hs1] at res_1 res_f1
  have res_l : W.heap.size + 1 < w2.heap.size := (by omega)
  have hw2 : w2.heap.size = W.heap.size + 2 := by omega
  clear hs1 hs2
  refine (spec_LedgerOk q A n c ls w2 (hr.more (by omega)) hn).mono ?_
  rintro e w3 ⟨rfl, hb⟩
  have he3 : Eff 0 0 w2 w3 := Eff.of hb
  have hz3 : w2.heap.size ≤ w3.heap.size := he3.size
  have b3 : Below W.heap.size W w3 := b2.trans (he3.below b2.size (by omega))
  replace hr := (hr.below (he3.below (B := W.heap.size) (by omega) (by omega)) (Nat.le_refl _))
  replace hp := (hp.below (he3.below (B := W.heap.size) (by omega) (by omega)) (Nat.le_refl _))
  replace res_f0 := (he3.frozen res_0 (by simp only; omega)).trans res_f0
  replace res_f1 := (he3.frozen res_1 (by simp only; omega)).trans res_f1
  replace l_0 := he3.cell l_0 (by simp only; omega)
  replace l_1 := he3.cell l_1 (by simp only; omega)
  replace res_0 := he3.cell res_0 (by simp only; omega)
  replace res_1 := he3.cell res_1 (by simp only; omega)
  replace l_l := Nat.lt_of_lt_of_le l_l hz3
  replace res_l := Nat.lt_of_lt_of_le res_l hz3
  clear hb
  rw [hLok]
  have HLO := Lib.hid hLok
  clear hLok
  go_wp2_with fail
  go_cut [6] (fun v6 wx => MidPost q ls w3 v6 wx)
  case first =>
    refine wp_region_held_drew (S := fun w' => w'.cell? ⟨W.heap.size, 0, none⟩ = some (.int .i64 q) ∧ w'.cell? ⟨W.heap.size, 1, none⟩ = some (.slice A n c)) (by kernel_rfl) ?rg1 (fun hHeld => ?_)
    case rg1 => ((try dsimp only); (go_split_ands; (repeat' apply And.intro) <;> (first | assumption | exact keepA _ (by assumption) | exact set_other (set_other (by assumption) _ (.inl (by first | omega | (simp; omega)))) _ (.inl (by first | omega | (simp; omega))))))
    refine wpAnyH_take (i := 0) (oi := { dst := some 16, op := Go.Op.fieldAddr 34 (Go.Operand.tmp 2) 0, type := 0, pos := "l02_ledger.go:128", after := #[], guard := none }) (v := ?v2) rfl (by kernel_rfl) (by kernel_rfl) (by kernel_rfl) (fun _ _ _ h => h) (Or.inl ⟨by rfl, ?y2⟩) (by assumption) ?_
    case y2 => (intro w hSw; (try dsimp only at hSw); go_simp; first | done | with_reducible rfl)
    try simp only [Act.put, List.setIfInBounds_toArray, List.set_cons_zero, List.set_cons_succ]
    refine wpAnyH_take (i := 1) (oi := { dst := some 17, op := Go.Op.load 3 (Go.Operand.tmp 16), type := 3, pos := "l02_ledger.go:128", after := #[{ on := 0, ground := Go.Ground.data }], guard := none }) (v := ?v3) rfl (by kernel_rfl) (by kernel_rfl) (by kernel_rfl) (fun _ _ _ h => h) (Or.inl ⟨by rfl, ?y3⟩) (by assumption) ?_
    case y3 => (intro w hSw; (try dsimp only at hSw); go_simp; first | done | with_reducible rfl)
    try simp only [Act.put, List.setIfInBounds_toArray, List.set_cons_zero, List.set_cons_succ]
    refine wpAnyH_take (i := 3) (oi := { dst := some 19, op := Go.Op.fieldAddr 34 (Go.Operand.tmp 2) 1, type := 0, pos := "l02_ledger.go:128", after := #[], guard := none }) (v := ?v4) rfl (by kernel_rfl) (by kernel_rfl) (by kernel_rfl) (fun _ _ _ h => h) (Or.inl ⟨by rfl, ?y4⟩) (by assumption) ?_
    case y4 => (intro w hSw; (try dsimp only at hSw); go_simp; first | done | with_reducible rfl)
    try simp only [Act.put, List.setIfInBounds_toArray, List.set_cons_zero, List.set_cons_succ]
    refine wpAnyH_take (i := 4) (oi := { dst := some 20, op := Go.Op.load 25 (Go.Operand.tmp 19), type := 25, pos := "l02_ledger.go:128", after := #[{ on := 3, ground := Go.Ground.data }], guard := none }) (v := ?v5) rfl (by kernel_rfl) (by kernel_rfl) (by kernel_rfl) (fun _ _ _ h => h) (Or.inl ⟨by rfl, ?y5⟩) (by assumption) ?_
    case y5 => (intro w hSw; (try dsimp only at hSw); go_simp; first | done | with_reducible rfl)
    try simp only [Act.put, List.setIfInBounds_toArray, List.set_cons_zero, List.set_cons_succ]
    refine wpAnyH_ready (rs := [2, 7]) (by kernel_rfl) (by simp) ?_
    refine AllReadyH.cons (o := { dst := some 18, op := Go.Op.buildSlice 25 0 #[], type := 25, pos := "l02_ledger.go:128", after := #[], guard := none }) rfl (fun K hK => ?k6) ?m6
    case k6 =>
      go_simp
      refine hK.out _ _ ?s6 (fun hHeld => ?_)
      case s6 => ((try dsimp only); (go_split_ands; (repeat' apply And.intro) <;> (first | assumption | exact keepA _ (by assumption) | exact set_other (set_other (by assumption) _ (.inl (by first | omega | (simp; omega)))) _ (.inl (by first | omega | (simp; omega))))))
      clear hK K
      try simp only [Act.put, List.setIfInBounds_toArray, List.set_cons_zero, List.set_cons_succ]
      refine wpAnyH_ready (rs := [5, 7]) (by kernel_rfl) (by simp) ?_
      refine AllReadyH.cons (o := { dst := some 21, op := Go.Op.call { callee := Go.Callee.builtin Go.Builtin.append, args := #[Go.Operand.tmp 18, Go.Operand.tmp 20], argTypes := #[25, 25] }, type := 25, pos := "l02_ledger.go:128", after := #[{ on := 2, ground := Go.Ground.data }, { on := 4, ground := Go.Ground.data }], guard := none }) rfl (fun K hK => ?k7) ?m7
      case k7 =>
        refine step_app _ (by rfl) _ _ 25 (by rfl) 63 i0 (.agg #[.int .i64 0, .int .i64 0, .int .i64 0]) 3 24 Try.underlying25 hi0 hj0 hj1 hj2 rfl (by omega) (by rfl) (new_empty w3.drew 63 3) c (by rfl) (hr.drew.alloc (by show _ ≤ w3.heap.size; omega) _) (lnCells_one _) (by unfold maxLen; omega) (by omega) (by first | (simp; done) | (simp; omega)) ?_
        intro A2 c2 wz hO hE hK2
        simp only [Nat.zero_add, List.nil_append] at hO hK2 ⊢
        have hzz := hE.size
        simp at hzz
        have s0 := hE.cell (keepA _ (by assumption : w3.drew.cell? ⟨W.heap.size, 0, none⟩ = some (.int .i64 q))) (.inl (by first | (simp; done) | (simp; omega)))
        have s1 := hE.cell (keepA _ (by assumption : w3.drew.cell? ⟨W.heap.size, 1, none⟩ = some (.slice A n c))) (.inl (by first | (simp; done) | (simp; omega)))
        refine hK.out _ _ ?s7 (fun hHeld => ?_)
        case s7 => ((try dsimp only); (go_split_ands; (repeat' apply And.intro) <;> (first | assumption | exact keepA _ (by assumption) | exact set_other (set_other (by assumption) _ (.inl (by first | omega | (simp; omega)))) _ (.inl (by first | omega | (simp; omega))))))
        clear hK K
        try simp only [Act.put, List.setIfInBounds_toArray, List.set_cons_zero, List.set_cons_succ]
        refine wpAnyH_take (i := 6) (oi := { dst := some 22, op := Go.Op.build 34 #[(0, Go.Operand.tmp 17), (1, Go.Operand.tmp 21)], type := 34, pos := "l02_ledger.go:128", after := #[{ on := 1, ground := Go.Ground.data }, { on := 5, ground := Go.Ground.data }], guard := none }) (v := ?v8) rfl (by kernel_rfl) (by kernel_rfl) (by kernel_rfl) (fun _ _ _ h => h) (Or.inl ⟨by rfl, ?y8⟩) (by assumption) ?_
        case y8 => (intro w hSw; (try dsimp only at hSw); go_simp; first | done | with_reducible rfl)
        try simp only [Act.put, List.setIfInBounds_toArray, List.set_cons_zero, List.set_cons_succ]
        refine wpAnyH_ready (rs := [7]) (by kernel_rfl) (by simp) ?_
        refine AllReadyH.cons (o := { dst := some 6, op := Go.Op.alloc 34, type := 0, pos := "l02_ledger.go:128", after := #[], guard := none }) rfl (fun K hK => ?k9) AllReadyH.nil
        go_simp
        refine hK.out _ _ ?s9 (fun hHeld => ?_)
        case s9 => ((try dsimp only); (go_split_ands; (repeat' apply And.intro) <;> (first | assumption | exact keepA _ (by assumption) | exact set_other (set_other (by assumption) _ (.inl (by first | omega | (simp; omega)))) _ (.inl (by first | omega | (simp; omega))))))
        clear hK K
        try simp only [Act.put, List.setIfInBounds_toArray, List.set_cons_zero, List.set_cons_succ]
        refine wpAnyH_ready (rs := [8]) (by kernel_rfl) (by simp) ?_
        refine AllReadyH.cons (o := { dst := none, op := Go.Op.store 34 (Go.Operand.tmp 6) (Go.Operand.tmp 22), type := 0, pos := "l02_ledger.go:128", after := #[{ on := 7, ground := Go.Ground.data }, { on := 6, ground := Go.Ground.data }, { on := 5, ground := Go.Ground.chain }, { on := 0, ground := Go.Ground.phase }, { on := 1, ground := Go.Ground.phase }, { on := 2, ground := Go.Ground.phase }, { on := 3, ground := Go.Ground.phase }, { on := 4, ground := Go.Ground.phase }, { on := 5, ground := Go.Ground.phase }, { on := 6, ground := Go.Ground.phase }, { on := 7, ground := Go.Ground.phase }], guard := none }) rfl (fun K hK => ?k10) AllReadyH.nil
        go_simp
        refine hK.out _ _ ?s10 (fun hHeld => ?_)
        case s10 => ((try dsimp only); (go_split_ands; (repeat' apply And.intro) <;> (first | assumption | exact keepA _ (by assumption) | exact set_other (set_other (by assumption) _ (.inl (by first | omega | (simp; omega)))) _ (.inl (by first | omega | (simp; omega))))))
        clear hK K
        try simp only [Act.put]
        refine wpAnyH_done (by kernel_rfl) ?_ _
        go_wp2_with fail
        go_meet
        exact MidPost.mkN _ hO HL.out.symm (Eff.join (Eff.undrewL (Eff.alloc _ _)) hE (by simp)) (by simp)
      case m7 =>
        refine AllReadyH.cons (o := { dst := some 6, op := Go.Op.alloc 34, type := 0, pos := "l02_ledger.go:128", after := #[], guard := none }) rfl (fun K hK => ?k11) AllReadyH.nil
        case k11 =>
          go_simp
          refine hK.out _ _ ?s11 (fun hHeld => ?_)
          case s11 => ((try dsimp only); (go_split_ands; (repeat' apply And.intro) <;> (first | assumption | exact keepA _ (by assumption) | exact set_other (set_other (by assumption) _ (.inl (by first | omega | (simp; omega)))) _ (.inl (by first | omega | (simp; omega))))))
          clear hK K
          try simp only [Act.put, List.setIfInBounds_toArray, List.set_cons_zero, List.set_cons_succ]
          refine wpAnyH_ready (rs := [5]) (by kernel_rfl) (by simp) ?_
          refine AllReadyH.cons (o := { dst := some 21, op := Go.Op.call { callee := Go.Callee.builtin Go.Builtin.append, args := #[Go.Operand.tmp 18, Go.Operand.tmp 20], argTypes := #[25, 25] }, type := 25, pos := "l02_ledger.go:128", after := #[{ on := 2, ground := Go.Ground.data }, { on := 4, ground := Go.Ground.data }], guard := none }) rfl (fun K hK => ?k12) AllReadyH.nil
          refine step_app _ (by rfl) _ _ 25 (by rfl) 63 i0 (.agg #[.int .i64 0, .int .i64 0, .int .i64 0]) 3 24 Try.underlying25 hi0 hj0 hj1 hj2 rfl (by omega) (by rfl) (Own.alloc (new_empty w3.drew 63 3) _) c (by rfl) ((hr.drew.alloc (by show _ ≤ w3.heap.size; omega) _).alloc (by simp; omega) _) (lnCells_one _) (by unfold maxLen; omega) (by omega) (by first | (simp; done) | (simp; omega)) ?_
          intro A2 c2 wz hO hE hK2
          simp only [Nat.zero_add, List.nil_append] at hO hK2 ⊢
          have bx := (var4 (w3.drew.alloc (.cells #[] 63)) (.int .i64 0) (.slice none 0 0) 34 (g := w3.heap.size + 1) (by simp)).eff hE (by simp)
          obtain ⟨q0, q1, q2, q3⟩ := bx
          have hzz := hE.size
          simp at hzz
          have s0 := hE.cell (keepA _ (keepA _ (by assumption : w3.drew.cell? ⟨W.heap.size, 0, none⟩ = some (.int .i64 q)))) (.inl (by first | (simp; done) | (simp; omega)))
          have s1 := hE.cell (keepA _ (keepA _ (by assumption : w3.drew.cell? ⟨W.heap.size, 1, none⟩ = some (.slice A n c)))) (.inl (by first | (simp; done) | (simp; omega)))
          refine hK.out _ _ ?s12 (fun hHeld => ?_)
          case s12 => ((try dsimp only); (go_split_ands; (repeat' apply And.intro) <;> (first | assumption | exact keepA _ (by assumption) | exact set_other (set_other (by assumption) _ (.inl (by first | omega | (simp; omega)))) _ (.inl (by first | omega | (simp; omega))))))
          clear hK K
          try simp only [Act.put, List.setIfInBounds_toArray, List.set_cons_zero, List.set_cons_succ]
          refine wpAnyH_take (i := 6) (oi := { dst := some 22, op := Go.Op.build 34 #[(0, Go.Operand.tmp 17), (1, Go.Operand.tmp 21)], type := 34, pos := "l02_ledger.go:128", after := #[{ on := 1, ground := Go.Ground.data }, { on := 5, ground := Go.Ground.data }], guard := none }) (v := ?v13) rfl (by kernel_rfl) (by kernel_rfl) (by kernel_rfl) (fun _ _ _ h => h) (Or.inl ⟨by rfl, ?y13⟩) (by assumption) ?_
          case y13 => (intro w hSw; (try dsimp only at hSw); go_simp; first | done | with_reducible rfl)
          try simp only [Act.put, List.setIfInBounds_toArray, List.set_cons_zero, List.set_cons_succ]
          refine wpAnyH_ready (rs := [8]) (by kernel_rfl) (by simp) ?_
          refine AllReadyH.cons (o := { dst := none, op := Go.Op.store 34 (Go.Operand.tmp 6) (Go.Operand.tmp 22), type := 0, pos := "l02_ledger.go:128", after := #[{ on := 7, ground := Go.Ground.data }, { on := 6, ground := Go.Ground.data }, { on := 5, ground := Go.Ground.chain }, { on := 0, ground := Go.Ground.phase }, { on := 1, ground := Go.Ground.phase }, { on := 2, ground := Go.Ground.phase }, { on := 3, ground := Go.Ground.phase }, { on := 4, ground := Go.Ground.phase }, { on := 5, ground := Go.Ground.phase }, { on := 6, ground := Go.Ground.phase }, { on := 7, ground := Go.Ground.phase }], guard := none }) rfl (fun K hK => ?k14) AllReadyH.nil
          go_simp
          refine hK.out _ _ ?s14 (fun hHeld => ?_)
          case s14 => ((try dsimp only); (go_split_ands; (repeat' apply And.intro) <;> (first | assumption | exact keepA _ (by assumption) | exact set_other (set_other (by assumption) _ (.inl (by first | omega | (simp; omega)))) _ (.inl (by first | omega | (simp; omega))))))
          clear hK K
          try simp only [Act.put]
          refine wpAnyH_done (by kernel_rfl) ?_ _
          go_wp2_with fail
          go_meet
          exact MidPost.mk hO HL.out.symm (fun k hk => by have := hK2 k hk; have := hO.blk k hk; simp at this; simp at *; omega) (Eff.join (Eff.undrewL (Eff.allocs _ _)) hE (by simp)) (by simp) (by omega) ⟨q0, q1, q2, q3⟩
    case m6 =>
      refine AllReadyH.cons (o := { dst := some 6, op := Go.Op.alloc 34, type := 0, pos := "l02_ledger.go:128", after := #[], guard := none }) rfl (fun K hK => ?k15) AllReadyH.nil
      case k15 =>
        go_simp
        refine hK.out _ _ ?s15 (fun hHeld => ?_)
        case s15 => ((try dsimp only); (go_split_ands; (repeat' apply And.intro) <;> (first | assumption | exact keepA _ (by assumption) | exact set_other (set_other (by assumption) _ (.inl (by first | omega | (simp; omega)))) _ (.inl (by first | omega | (simp; omega))))))
        clear hK K
        try simp only [Act.put, List.setIfInBounds_toArray, List.set_cons_zero, List.set_cons_succ]
        refine wpAnyH_ready (rs := [2]) (by kernel_rfl) (by simp) ?_
        refine AllReadyH.cons (o := { dst := some 18, op := Go.Op.buildSlice 25 0 #[], type := 25, pos := "l02_ledger.go:128", after := #[], guard := none }) rfl (fun K hK => ?k16) AllReadyH.nil
        go_simp
        refine hK.out _ _ ?s16 (fun hHeld => ?_)
        case s16 => ((try dsimp only); (go_split_ands; (repeat' apply And.intro) <;> (first | assumption | exact keepA _ (by assumption) | exact set_other (set_other (by assumption) _ (.inl (by first | omega | (simp; omega)))) _ (.inl (by first | omega | (simp; omega))))))
        clear hK K
        try simp only [Act.put, List.setIfInBounds_toArray, List.set_cons_zero, List.set_cons_succ]
        refine wpAnyH_ready (rs := [5]) (by kernel_rfl) (by simp) ?_
        refine AllReadyH.cons (o := { dst := some 21, op := Go.Op.call { callee := Go.Callee.builtin Go.Builtin.append, args := #[Go.Operand.tmp 18, Go.Operand.tmp 20], argTypes := #[25, 25] }, type := 25, pos := "l02_ledger.go:128", after := #[{ on := 2, ground := Go.Ground.data }, { on := 4, ground := Go.Ground.data }], guard := none }) rfl (fun K hK => ?k17) AllReadyH.nil
        refine step_app _ (by rfl) _ _ 25 (by rfl) 63 i0 (.agg #[.int .i64 0, .int .i64 0, .int .i64 0]) 3 24 Try.underlying25 hi0 hj0 hj1 hj2 rfl (by omega) (by rfl) (new_empty' (w3.drew.alloc (.cells #[.int .i64 0, .slice none 0 0] 34)) 63 3 (g := w3.heap.size + 1) (by simp)) c (by rfl) ((hr.drew.alloc (by show _ ≤ w3.heap.size; omega) _).alloc (by simp; omega) _) (lnCells_one _) (by unfold maxLen; omega) (by omega) (by first | (simp; done) | (simp; omega)) ?_
        intro A2 c2 wz hO hE hK2
        simp only [Nat.zero_add, List.nil_append] at hO hK2 ⊢
        have bx := ((var4 w3.drew (.int .i64 0) (.slice none 0 0) 34 (g := w3.heap.size) (by simp)).eff (Eff.alloc _ _) (.inr (Nat.zero_le _))).eff hE (by simp)
        obtain ⟨q0, q1, q2, q3⟩ := bx
        have hzz := hE.size
        simp at hzz
        have s0 := hE.cell (keepA _ (keepA _ (by assumption : w3.drew.cell? ⟨W.heap.size, 0, none⟩ = some (.int .i64 q)))) (.inl (by first | (simp; done) | (simp; omega)))
        have s1 := hE.cell (keepA _ (keepA _ (by assumption : w3.drew.cell? ⟨W.heap.size, 1, none⟩ = some (.slice A n c)))) (.inl (by first | (simp; done) | (simp; omega)))
        refine hK.out _ _ ?s17 (fun hHeld => ?_)
        case s17 => ((try dsimp only); (go_split_ands; (repeat' apply And.intro) <;> (first | assumption | exact keepA _ (by assumption) | exact set_other (set_other (by assumption) _ (.inl (by first | omega | (simp; omega)))) _ (.inl (by first | omega | (simp; omega))))))
        clear hK K
        try simp only [Act.put, List.setIfInBounds_toArray, List.set_cons_zero, List.set_cons_succ]
        refine wpAnyH_take (i := 6) (oi := { dst := some 22, op := Go.Op.build 34 #[(0, Go.Operand.tmp 17), (1, Go.Operand.tmp 21)], type := 34, pos := "l02_ledger.go:128", after := #[{ on := 1, ground := Go.Ground.data }, { on := 5, ground := Go.Ground.data }], guard := none }) (v := ?v18) rfl (by kernel_rfl) (by kernel_rfl) (by kernel_rfl) (fun _ _ _ h => h) (Or.inl ⟨by rfl, ?y18⟩) (by assumption) ?_
        case y18 => (intro w hSw; (try dsimp only at hSw); go_simp; first | done | with_reducible rfl)
        try simp only [Act.put, List.setIfInBounds_toArray, List.set_cons_zero, List.set_cons_succ]
        refine wpAnyH_ready (rs := [8]) (by kernel_rfl) (by simp) ?_
        refine AllReadyH.cons (o := { dst := none, op := Go.Op.store 34 (Go.Operand.tmp 6) (Go.Operand.tmp 22), type := 0, pos := "l02_ledger.go:128", after := #[{ on := 7, ground := Go.Ground.data }, { on := 6, ground := Go.Ground.data }, { on := 5, ground := Go.Ground.chain }, { on := 0, ground := Go.Ground.phase }, { on := 1, ground := Go.Ground.phase }, { on := 2, ground := Go.Ground.phase }, { on := 3, ground := Go.Ground.phase }, { on := 4, ground := Go.Ground.phase }, { on := 5, ground := Go.Ground.phase }, { on := 6, ground := Go.Ground.phase }, { on := 7, ground := Go.Ground.phase }], guard := none }) rfl (fun K hK => ?k19) AllReadyH.nil
        go_simp
        refine hK.out _ _ ?s19 (fun hHeld => ?_)
        case s19 => ((try dsimp only); (go_split_ands; (repeat' apply And.intro) <;> (first | assumption | exact keepA _ (by assumption) | exact set_other (set_other (by assumption) _ (.inl (by first | omega | (simp; omega)))) _ (.inl (by first | omega | (simp; omega))))))
        clear hK K
        try simp only [Act.put]
        refine wpAnyH_done (by kernel_rfl) ?_ _
        go_wp2_with fail
        go_meet
        exact MidPost.mk hO HL.out.symm (fun k hk => by have := hO.blk k hk; omega) (Eff.join (Eff.undrewL (Eff.allocs _ _)) hE (by simp)) (by simp) (Nat.le_refl _) ⟨q0, q1, q2, q3⟩
  case rest =>
    obtain ⟨ob, A1, n1, c1, lo1, hi1, rfl, hn1, hg1, hgx, hne, hlo1, ⟨v_0, v_1, v_f0, v_f1⟩, o, hE⟩ := hcut
    rw [HL.out] at hn1
    obtain rfl : n = n1 := hn1.symm
    clear hn1
    obtain ⟨wp, rfl⟩ : ∃ x : World, x = wc := ⟨wc, rfl⟩
    have he4 : Eff 0 0 w3 wp := hE
    have hz4 : w3.heap.size ≤ wp.heap.size := he4.size
    have b4 : Below W.heap.size W wp := b3.trans (he4.below b3.size (by omega))
    replace hr := (hr.below (he4.below (B := W.heap.size) (by omega) (by omega)) (Nat.le_refl _))
    replace hp := (hp.below (he4.below (B := W.heap.size) (by omega) (by omega)) (Nat.le_refl _))
    replace res_f0 := (he4.frozen res_0 (by simp only; omega)).trans res_f0
    replace res_f1 := (he4.frozen res_1 (by simp only; omega)).trans res_f1
    replace l_0 := he4.cell l_0 (by simp only; omega)
    replace l_1 := he4.cell l_1 (by simp only; omega)
    replace res_0 := he4.cell res_0 (by simp only; omega)
    replace res_1 := he4.cell res_1 (by simp only; omega)
    replace l_l := Nat.lt_of_lt_of_le l_l hz4
    replace res_l := Nat.lt_of_lt_of_le res_l hz4
    clear hE
    have v_l : ob < wp.heap.size := hgx
    go_wp2_with fail
    have hob : W.heap.size + 2 ≤ ob := by omega
    go_loopw [7, 25] (fun vk vi wr => ∃ (i m c2 k lo hi : Nat) (q2 : Int) (A2 : Option Addr) (rs : List Ln), i ≤ np ∧ k ≤ i ∧ m ≤ 302 ∧ vi = .int .i64 (i : Int) ∧ vk = .int .i64 (k : Int) ∧ Hid (((es.map Ps.d).take i).foldl stepR (q, ls, 0) = (q2, rs, (k : Int))) ∧ OwnL wr lo hi A2 m c2 rs ∧ (∀ x, (Value.slice A2 m c2).ownBlock = some x → x ≠ ob) ∧ W.heap.size + 2 ≤ lo ∧ wr.cell? ⟨ob, 0, none⟩ = some (.int .i64 q2) ∧ wr.cell? ⟨ob, 1, none⟩ = some (.slice A2 m c2) ∧ wr.frozen? ⟨ob, 0, none⟩ = false ∧ wr.frozen? ⟨ob, 1, none⟩ = false ∧ Eff ob (ob + 1) wp wr) (fun _ vi _ => np - (intOf vi).toNat)
    case atStart => exact ⟨0, n, c1, 0, _, _, q, A1, ls, by omega, by omega, hLn, rfl, rfl, Lib.hid rfl, o, hne, by omega, v_0, v_1, v_f0, v_f1, Eff.refl _ _ _⟩
    clear o hne v_0 v_1 v_f0 v_f1
    case round =>
      obtain ⟨i, m, c2, k, lo, hi, q2, A2, rs, hi1, hki, hm, rfl, rfl, HF, o, hne, hlo, v_0, v_1, v_f0, v_f1, hE⟩ := hrel
      have hzr := hE.size
      have hbW : Below W.heap.size W wr := b4.trans (hE.below b4.size (.inl (by omega)))
      replace hp := hp.below (hE.below (B := W.heap.size) (by omega) (.inl (by omega))) (Nat.le_refl _)
      by_cases hlt : i < np
      · skip
        obtain ⟨b, off, ⟨s_idn, Ax, nx, cx, lx⟩, rfl, hbB, hx, hcell, hi, hcap⟩ := (hp).elem Ps.hf (by omega) hlt
        have cc0 : wr.cell? ⟨b, off + i * 2, none⟩ = some (.int .i64 s_idn) := by have := hcell 0 _ rfl; simpa [Nat.mul_one, Nat.add_assoc] using this
        have cc1 : wr.cell? ⟨b, off + i * 2 + 1, none⟩ = some (.slice Ax nx cx) := by have := hcell 1 _ rfl; simpa [Nat.mul_one, Nat.add_assoc] using this
        have HX := Lib.hid hx
        clear hcell hx
        have hnx : nx ≤ 1099511627776 := HNS.out _ (List.mem_of_getElem? HX.out)
        have HD : Hid ((es.map Ps.d)[i]? = some (s_idn, lx)) := Lib.hid (by rw [List.getElem?_map, HX.out]; rfl)
        have HF2 := Lib.hid (fold_more HD.out (q, ls, 0))
        have j0 : (0 : Int) ≤ (i : Int) := by omega
        have j1 : (i : Int) < (np : Int) := by omega
        have hvl : ob < wr.heap.size := by omega
        have HI := Lib.hid hi
        have HCAP := Lib.hid hcap
        obtain ⟨Q, hQ⟩ : ∃ x, (postR q2 rs s_idn lx).1 = x := ⟨_, rfl⟩
        obtain ⟨R, hR⟩ : ∃ x, (postR q2 rs s_idn lx).2.1 = x := ⟨_, rfl⟩
        obtain ⟨Cd, hC⟩ : ∃ x, (postR q2 rs s_idn lx).2.2 = x := ⟨_, rfl⟩
        have hRl : R.length ≤ 302 := by rw [← hR]; exact postR_len _ _ _ _
        have HST : Hid (stepR (q2, rs, (k : Int)) (s_idn, lx) = if Cd = 0 then (Q, R, (k : Int) + 1) else (q2, rs, (k : Int))) := Lib.hid (by unfold stepR; simp only; rw [hQ, hR, hC])
        have HQ := Lib.hid hQ
        have HR := Lib.hid hR
        have HC := Lib.hid hC
        clear hQ hR hC hi hcap
        have v_0P := (Eff.alloc wr (.cells #[.int .i64 s_idn, .slice Ax nx cx] 43)).cell v_0 (by simp only; omega)
        have v_1P := (Eff.alloc wr (.cells #[.int .i64 s_idn, .slice Ax nx cx] 43)).cell v_1 (by simp only; omega)
        go_wp2_with fail
        have he1 : Eff 0 0 wr (wr.alloc (.cells #[.int .i64 s_idn, .slice Ax nx cx] 43)) := Eff.alloc _ _
        have hs1 : (wr.alloc (.cells #[.int .i64 s_idn, .slice Ax nx cx] 43)).heap.size = wr.heap.size + 1 := (by simp)
        have p_0 : (wr.alloc (.cells #[.int .i64 s_idn, .slice Ax nx cx] 43)).cell? ⟨wr.heap.size, 0, none⟩ = some (.int .i64 s_idn) := var_cell _ _ _ _ _ rfl
        have p_1 : (wr.alloc (.cells #[.int .i64 s_idn, .slice Ax nx cx] 43)).cell? ⟨wr.heap.size, 1, none⟩ = some (.slice Ax nx cx) := var_cell _ _ _ _ _ rfl
        generalize (wr.alloc (.cells #[.int .i64 s_idn, .slice Ax nx cx] 43)) = z1 at *
        have hz1 : wr.heap.size ≤ z1.heap.size := he1.size
        have b1 : Below W.heap.size W z1 := hbW.trans (he1.below hbW.size (by omega))
        replace o := Own.keep o he1 (by omega)
        replace v_f0 := (he1.frozen v_0 (by simp only; omega)).trans v_f0
        replace v_f1 := (he1.frozen v_1 (by simp only; omega)).trans v_f1
        replace v_0 := he1.cell v_0 (by simp only; omega)
        replace v_1 := he1.cell v_1 (by simp only; omega)
        have p_l : wr.heap.size < z1.heap.size := (by omega)
        clear v_0P v_1P
        clear hs1
        have hix := (HI.out.below (he1.below (B := W.heap.size) (by omega) (.inr (Nat.le_refl _))) (Nat.le_refl _))
        refine (spec_PostR HQ.out HR.out HC.out _ m _ _ nx _ z1 (Own.rd o (Own.le o)) (hix.more (by omega)) (by omega) hnx (Own.caps o) HCAP.out).mono ?_
        rintro e z2 ⟨Ar, nr, cr, hnr, rfl, r, hb⟩
        have hnr2 : nr ≤ 302 := by omega
        clear hnr
        have he2 : Eff 0 0 z1 z2 := Eff.of hb
        have hz2 : z1.heap.size ≤ z2.heap.size := he2.size
        have b2 : Below W.heap.size W z2 := b1.trans (he2.below b1.size (by omega))
        replace o := Own.keep o he2 (by omega)
        replace v_f0 := (he2.frozen v_0 (by simp only; omega)).trans v_f0
        replace v_f1 := (he2.frozen v_1 (by simp only; omega)).trans v_f1
        replace v_0 := he2.cell v_0 (by simp only; omega)
        replace v_1 := he2.cell v_1 (by simp only; omega)
        replace p_0 := he2.cell p_0 (by simp only; omega)
        replace p_1 := he2.cell p_1 (by simp only; omega)
        replace p_l := Nat.lt_of_lt_of_le p_l hz2
        clear hb
        by_cases hcd : Cd = 0
        · skip
          have HCD := Lib.hid hcd
          subst hcd
          go_upto_region 10 with fail
          have he3 : Eff 0 0 z2 (z2.alloc (.cells #[.int .i64 Q, .slice Ar nr cr] 34)) := Eff.alloc _ _
          have hs3 : (z2.alloc (.cells #[.int .i64 Q, .slice Ar nr cr] 34)).heap.size = z2.heap.size + 1 := (by simp)
          have nx0_0 : (z2.alloc (.cells #[.int .i64 Q, .slice Ar nr cr] 34)).cell? ⟨z2.heap.size, 0, none⟩ = some (.int .i64 Q) := var_cell _ _ _ _ _ rfl
          have nx0_1 : (z2.alloc (.cells #[.int .i64 Q, .slice Ar nr cr] 34)).cell? ⟨z2.heap.size, 1, none⟩ = some (.slice Ar nr cr) := var_cell _ _ _ _ _ rfl
          generalize (z2.alloc (.cells #[.int .i64 Q, .slice Ar nr cr] 34)) = z3 at *
          have hz3 : z2.heap.size ≤ z3.heap.size := he3.size
          have b3 : Below W.heap.size W z3 := b2.trans (he3.below b2.size (by omega))
          replace o := Own.keep o he3 (by omega)
          replace r := Own.keep r he3 (by omega)
          replace v_f0 := (he3.frozen v_0 (by simp only; omega)).trans v_f0
          replace v_f1 := (he3.frozen v_1 (by simp only; omega)).trans v_f1
          replace v_0 := he3.cell v_0 (by simp only; omega)
          replace v_1 := he3.cell v_1 (by simp only; omega)
          replace p_0 := he3.cell p_0 (by simp only; omega)
          replace p_1 := he3.cell p_1 (by simp only; omega)
          replace p_l := Nat.lt_of_lt_of_le p_l hz3
          have nx0_l : z2.heap.size < z3.heap.size := (by omega)
          clear hs3
          have hro := Own.blk r
          go_upto_region 11 with fail
          have es2 : Eff ob (ob + 1) z3 ((z3.setCell ⟨ob, 0, none⟩ (.int .i64 Q)).setCell ⟨ob, 1, none⟩ (.slice Ar nr cr)) := eff_set2 _ _ _ _
          have hv0 : ((z3.setCell ⟨ob, 0, none⟩ (.int .i64 Q)).setCell ⟨ob, 1, none⟩ (.slice Ar nr cr)).cell? ⟨ob, 0, none⟩ = some (.int .i64 Q) := set_other (set_same v_0 _) _ (.inr (by omega))
          have hv1 : ((z3.setCell ⟨ob, 0, none⟩ (.int .i64 Q)).setCell ⟨ob, 1, none⟩ (.slice Ar nr cr)).cell? ⟨ob, 1, none⟩ = some (.slice Ar nr cr) := set_same (set_other v_1 _ (.inr (by omega))) _
          replace v_f0 : ((z3.setCell ⟨ob, 0, none⟩ (.int .i64 Q)).setCell ⟨ob, 1, none⟩ (.slice Ar nr cr)).frozen? ⟨ob, 0, none⟩ = false := set_frozen (set_frozen v_f0 _) _
          replace v_f1 : ((z3.setCell ⟨ob, 0, none⟩ (.int .i64 Q)).setCell ⟨ob, 1, none⟩ (.slice Ar nr cr)).frozen? ⟨ob, 1, none⟩ = false := set_frozen (set_frozen v_f1 _) _
          clear v_0 v_1
          replace r := Own.keep r es2 (by omega)
          generalize ((z3.setCell ⟨ob, 0, none⟩ (.int .i64 Q)).setCell ⟨ob, 1, none⟩ (.slice Ar nr cr)) = wz at *
          have kw : IntKind.i64.wrap ((k : Int) + 1) = (k : Int) + 1 := IntWalk.i64_in _ (by omega)
          go_wp2_with fail
          go_roundw
          case rel => exact ⟨i + 1, nr, cr, k + 1, _, _, Q, Ar, R, by omega, by omega, by omega, by go_num, by go_num, Lib.hid (by rw [HF2.out, HF.out, HST.out]; simp), r, fun x hx => by have := hro x hx; omega, by omega, hv0, hv1, v_f0, v_f1, (hE.trans (((he1.any).trans he2.any).trans he3.any)).trans es2⟩
          case measure => simp [intOf]; omega
        · skip
          have hcd0 : (Cd == 0) = false := by simp; exact hcd
          have HST2 := Lib.hid (HST.out.trans (if_neg hcd))
          go_wp2_with fail
          go_roundw
          case rel => exact ⟨i + 1, m, c2, k, _, _, q2, A2, rs, by omega, by omega, hm, by go_num, rfl, Lib.hid (by rw [HF2.out, HF.out, HST2.out]), Own.alloc o _, hne, hlo, (Eff.alloc _ _).cell v_0 (.inr (Nat.zero_le _)), (Eff.alloc _ _).cell v_1 (.inr (Nat.zero_le _)), ((Eff.alloc _ _).frozen v_0 (.inr (Nat.zero_le _))).trans v_f0, ((Eff.alloc _ _).frozen v_1 (.inr (Nat.zero_le _))).trans v_f1, (hE.trans ((he1.any).trans he2.any)).new _⟩
          case measure => simp [intOf]; omega
      · obtain rfl : np = i := by omega
        have i1 : ¬ (np : Int) < (np : Int) := by omega
        replace res_f0 := (hE.frozen res_0 (.inl (by simp only; omega))).trans res_f0
        replace res_f1 := (hE.frozen res_1 (.inl (by simp only; omega))).trans res_f1
        replace res_0 := hE.cell res_0 (.inl (by simp only; omega))
        replace res_1 := hE.cell res_1 (.inl (by simp only; omega))
        have hfl : allR q ls (es.map Ps.d) = (q2, rs, (k : Int)) := by
          rw [HAR.out, ← HF.out, List.take_of_length_le (by rw [List.length_map, HEL.out]; exact Nat.le_refl _)]
        have HFL := Lib.hid hfl
        clear hfl
        go_wp2_with fail
        have r0 : ((wr.setCell ⟨W.heap.size + 1, 0, none⟩ (.int .i64 q2)).setCell ⟨W.heap.size + 1, 1, none⟩ (.slice A2 m c2)).cell? ⟨W.heap.size + 1, 0, none⟩ = some (.int .i64 q2) := set_other (set_same res_0 _) _ (.inr (by omega))
        have r1 : ((wr.setCell ⟨W.heap.size + 1, 0, none⟩ (.int .i64 q2)).setCell ⟨W.heap.size + 1, 1, none⟩ (.slice A2 m c2)).cell? ⟨W.heap.size + 1, 1, none⟩ = some (.slice A2 m c2) := set_same (set_other res_1 _ (.inr (by omega))) _
        refine bodyPost_ret (v := .tuple #[.agg #[.int .i64 q2, .slice A2 m c2], .int .i64 (k : Int)]) (by simp [results, Try.results40, go_sem, r0, r1]) rfl ?_
        rw [HFL.out]
        exact made_all o hbW (eff_set2 _ _ _ _) (by omega) (by omega) (by omega)
end Go.Proofs.Ytgjphejmppehjaa
