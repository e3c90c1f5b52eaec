/- Post in the reference. -/
import Derived.Test.YtgjphejmppehjaaPost
import Derived.Test.YtgjphejmppehjaaApp
import Derived.Deep.DeepCutAuto
import Derived.Deep.RegionHeld3
namespace Go.Proofs.Ytgjphejmppehjaa
open Go.RowKit
/-- A variable of two cells that may be written. -/
def Quad (w : World) (g : Nat) (u0 u1 : Value) : Prop := w.cell? ⟨g, 0, none⟩ = some u0 ∧ w.cell? ⟨g, 1, none⟩ = some u1 ∧ w.frozen? ⟨g, 0, none⟩ = false ∧ w.frozen? ⟨g, 1, none⟩ = false
theorem var4 (w : World) (u0 u1 : Value) (t : TypeId) {g : Nat} (hg : w.heap.size = g) : Quad (w.alloc (.cells #[u0, u1] t)) g u0 u1 := by
  subst hg
  exact ⟨var_cell _ _ _ _ _ rfl, var_cell _ _ _ _ _ rfl, var_frozen _ _ _ _, var_frozen _ _ _ _⟩
theorem Quad.eff {w w' : World} {g lo hi : Nat} {u0 u1 : Value} (h : Quad w g u0 u1) (he : Eff lo hi w w') (hg : g < lo ∨ hi ≤ g) : Quad w' g u0 u1 :=
  ⟨he.cell h.1 hg, he.cell h.2.1 hg, (he.frozen h.1 hg).trans h.2.2.1, (he.frozen h.2.1 hg).trans h.2.2.2⟩
theorem lnCells_one (ls : List Ln) : ∀ u ∈ lnCells ls, u.oneCell' = true := by
  intro u hu
  obtain ⟨x, _, hx⟩ := List.mem_flatMap.1 hu
  simp only [List.mem_cons, List.not_mem_nil, or_false] at hx
  rcases hx with rfl | rfl | rfl <;> rfl
theorem Own.keepNe {e s lo hi g g' n c : Nat} {w w' : World} {A : Option Addr} {xs : List Value} (h : Own e s w lo hi A n c xs) (he : Eff g g' w w') (hd : ∀ k, (Value.slice A n c).ownBlock = some k → k < g ∨ g' ≤ k) : Own e s w' lo hi A n c xs := by
  refine ⟨⟨h.row.1, ?_⟩, h.top, Nat.le_trans h.le he.size⟩
  rcases h.row.2 with hx | ⟨k, cap, cur, hv, hb, hh, r⟩
  · exact .inl hx
  · exact .inr ⟨k, cap, cur, hv, hb, (he.block k (lt_of_block hh) (hd k (by rw [hv]; rfl))).trans hh, r⟩
theorem Own.blk {e s lo hi n c : Nat} {w : World} {A : Option Addr} {xs : List Value} (h : Own e s w lo hi A n c xs) : ∀ k, (Value.slice A n c).ownBlock = some k → lo ≤ k ∧ k < hi := fun k hk => ⟨(h.row.lt k hk).1, h.top k hk⟩
/-- Behind the copy of the ledger: a new variable that holds a number and lines of the call's own. -/
def MidPost (q : Int) (ls : List Ln) (w : World) (v : Value) (wx : World) : Prop :=
  ∃ g A n c lo hi, v = .pointer (some ⟨g, 0, none⟩) ∧ n = ls.length ∧ w.heap.size ≤ g ∧ g < wx.heap.size ∧ (∀ k, (Value.slice A n c).ownBlock = some k → k ≠ g) ∧ w.heap.size ≤ lo ∧ Quad wx g (.int .i64 q) (.slice A n c) ∧ OwnL wx lo hi A n c ls ∧ Eff 0 0 w wx
theorem MidPost.mk {q : Int} {ls : List Ln} {w wE : World} {g n c lo hi : Nat} {A : Option Addr} {u0 u1 : Value} (hO : OwnL wE lo hi A n c ls) (hn : n = ls.length) (hg : ∀ k, (Value.slice A n c).ownBlock = some k → k ≠ g) (he : Eff 0 0 w wE) (hlo : w.heap.size ≤ lo) (h1 : w.heap.size ≤ g) (h : Quad wE g u0 u1) :
    MidPost q ls w (.pointer (some ⟨g, 0, none⟩)) ((wE.setCell ⟨g, 0, none⟩ (.int .i64 q)).setCell ⟨g, 1, none⟩ (.slice A n c)) := by
  obtain ⟨c0, c1, f0, f1⟩ := h
  have E := eff_set2 wE g (.int .i64 q) (.slice A n c)
  have hgl : g < wE.heap.size := block_lt_of_cell c0
  exact ⟨g, A, n, c, lo, hi, rfl, hn, h1, Nat.lt_of_lt_of_le hgl E.size, hg, hlo, ⟨set_other (set_same c0 _) _ (.inr (by omega)), set_same (set_other c1 _ (.inr (by omega))) _, set_frozen (set_frozen f0 _) _, set_frozen (set_frozen f1 _) _⟩, Own.keepNe hO E (fun k hk => by have := hg k hk; omega), Eff.join he E h1⟩
theorem MidPost.mkN {q : Int} {ls : List Ln} {w wE : World} {n c lo hi : Nat} {A : Option Addr} (t : TypeId) (hO : OwnL wE lo hi A n c ls) (hn : n = ls.length) (he : Eff 0 0 w wE) (hlo : w.heap.size ≤ lo) :
    MidPost q ls w (.pointer (some ⟨wE.heap.size, 0, none⟩)) (wE.alloc (.cells #[.int .i64 q, .slice A n c] t)) :=
  ⟨wE.heap.size, A, n, c, lo, hi, rfl, hn, he.size, by simp, fun k hk => by have := Own.blk hO k hk; have := Own.le hO; omega, hlo, var4 _ _ _ _ rfl, Own.alloc hO _, he.trans (Eff.alloc _ _)⟩
theorem Eff.allocs {w : World} (o o' : Obj) : Eff 0 0 w ((w.alloc o).alloc o') := (Eff.alloc w o).trans (Eff.alloc _ o')
theorem Eff.any {lo hi : Nat} {w w' : World} (h : Eff 0 0 w w') : Eff lo hi w w' := ⟨h.os, h.tape, h.output, h.size, fun k hk _ => h.block k hk (.inr (Nat.zero_le _))⟩
theorem Eff.undrewL {lo hi : Nat} {w w' : World} (h : Eff lo hi w.drew w') : Eff lo hi w w' := ⟨h.os, h.tape, h.output, h.size, h.block⟩
theorem new_empty' (w : World) (e s : Nat) {g : Nat} (hg : w.heap.size = g) : Own e s (w.alloc (.cells #[] e)) g (g + 1) (some ⟨g, 0, none⟩) 0 0 [] := by subst hg; exact new_empty w e s
theorem keepA {w : World} {p : Addr} {u : Value} (o : Obj) (h : w.cell? p = some u) : (w.alloc o).cell? p = some u := (Eff.alloc w o).cell h (.inr (Nat.zero_le _))
theorem addL_len (x : Ln) (ls : List Ln) : (addL x ls).length ≤ ls.length + 1 := by
  induction ls with
  | nil => simp [addL]
  | cons y t ih => simp only [addL]; split <;> (try split) <;> (try split) <;> simp only [List.length_cons] <;> omega
theorem addL_bd {x : Ln} {ls : List Ln} {k m : Int} (hx : -m ≤ x.a ∧ x.a ≤ m) (h0 : 0 ≤ k) (hm : 0 ≤ m) (h : ∀ y ∈ ls, -k ≤ y.a ∧ y.a ≤ k) : ∀ y ∈ addL x ls, -(k + m) ≤ y.a ∧ y.a ≤ k + m := by
  induction ls with
  | nil => intro y hy; simp only [addL, List.mem_cons, List.not_mem_nil, or_false] at hy; subst hy; omega
  | cons z t ih =>
    have hz := h z (by simp)
    have ht := ih (fun y hy => h y (List.mem_cons_of_mem _ hy))
    intro y hy
    have old : y ∈ t → -(k + m) ≤ y.a ∧ y.a ≤ k + m := fun hy => by have := h y (List.mem_cons_of_mem _ hy); omega
    simp only [addL] at hy
    split at hy
    · rcases List.mem_cons.1 hy with rfl | hy
      · omega
      · exact ht y hy
    · split at hy
      · split at hy
        · exact old hy
        · rcases List.mem_cons.1 hy with rfl | hy
          · simp only; omega
          · exact old hy
      · rcases List.mem_cons.1 hy with rfl | hy
        · omega
        · rcases List.mem_cons.1 hy with rfl | hy
          · omega
          · exact old hy
theorem foldl_at {ps os : List Ln} {i : Nat} {y : Ln} (hy : lnAt ps i = y) (h : i < ps.length) : (ps.drop i).foldl (fun l y => addL y l) os = (ps.drop (i + 1)).foldl (fun l y => addL y l) (addL y os) := by
  rw [ln_drop hy h]; rfl
set_option maxHeartbeats 4000000 in
set_option maxRecDepth 100000 in
theorem spec_Post (q : Int) (A : Option Addr) (n c : Nat) (ls : List Ln) (p : Int) (A' : Option Addr) (n' c' : Nat) (ps : List Ln) (W : World) (hr : Rd W W.heap.size 3 A n (lnCells ls)) (hr' : Rd W W.heap.size 3 A' n' (lnCells ps)) (hn : n ≤ 1099511627776) (hn' : n' ≤ 1099511627776) (hc : n ≤ c ∧ c ≤ maxLen) (hc' : n' ≤ c' ∧ c' ≤ maxLen) :
    Calls Try.prog 32 #[.agg #[.int .i64 q, .slice A n c], .agg #[.int .i64 p, .slice A' n' c']] W (MadePost (postR q ls p ps).1 (postR q ls p ps).2.1 (postR q ls p ps).2.2 W) := by
  have hl := lnlen_of_rd hr
  have hl' := lnlen_of_rd hr'
  have HL := Lib.hid hl
  have HL' := Lib.hid hl'
  clear hl hl'
  rcases hLok : ledOk q ls with _ | _
  · skip
    rw [show postR q ls p ps = (0, [], 1) by simp [postR, hLok]]
    show Calls _ _ _ _ (MadePost 0 [] 1 W)
    go_enter Try.func32, Try.ntmps32
    go_wp2_with fail
    have he1 : Eff 0 0 W (W.alloc (.cells #[.int .i64 q, .slice A n c] 34)) := Eff.alloc _ _
    have hs1 : (W.alloc (.cells #[.int .i64 q, .slice A n c] 34)).heap.size = W.heap.size + 1 := (by simp)
    have aL_0 : (W.alloc (.cells #[.int .i64 q, .slice A n c] 34)).cell? ⟨W.heap.size, 0, none⟩ = some (.int .i64 q) := var_cell _ _ _ _ _ rfl
    have aL_1 : (W.alloc (.cells #[.int .i64 q, .slice A n c] 34)).cell? ⟨W.heap.size, 1, none⟩ = some (.slice A n c) := var_cell _ _ _ _ _ rfl
    generalize (W.alloc (.cells #[.int .i64 q, .slice A n c] 34)) = w1 at *
    have hz1 : W.heap.size ≤ w1.heap.size := he1.size
    have b1 : Below W.heap.size W w1 := he1.below (Nat.le_refl _) (by omega)
    replace hr := (hr.below (he1.below (B := W.heap.size) (by omega) (by omega)) (Nat.le_refl _))
    replace hr' := (hr'.below (he1.below (B := W.heap.size) (by omega) (by omega)) (Nat.le_refl _))
    have aL_l : W.heap.size < w1.heap.size := (by omega)
    have he2 : Eff 0 0 w1 (w1.alloc (.cells #[.int .i64 p, .slice A' n' c'] 43)) := Eff.alloc _ _
    have hs2 : (w1.alloc (.cells #[.int .i64 p, .slice A' n' c'] 43)).heap.size = w1.heap.size + 1 := (by simp)
    have aP_0 : (w1.alloc (.cells #[.int .i64 p, .slice A' n' c'] 43)).cell? ⟨w1.heap.size, 0, none⟩ = some (.int .i64 p) := var_cell _ _ _ _ _ rfl
    have aP_1 : (w1.alloc (.cells #[.int .i64 p, .slice A' n' c'] 43)).cell? ⟨w1.heap.size, 1, none⟩ = some (.slice A' n' c') := var_cell _ _ _ _ _ rfl
    generalize (w1.alloc (.cells #[.int .i64 p, .slice A' n' c'] 43)) = w2 at *
    have hz2 : w1.heap.size ≤ w2.heap.size := he2.size
    have b2 : Below W.heap.size W w2 := b1.trans (he2.below b1.size (by omega))
    replace hr := (hr.below (he2.below (B := W.heap.size) (by omega) (by omega)) (Nat.le_refl _))
    replace hr' := (hr'.below (he2.below (B := W.heap.size) (by omega) (by omega)) (Nat.le_refl _))
    replace aL_0 := he2.cell aL_0 (by simp only; omega)
    replace aL_1 := he2.cell aL_1 (by simp only; omega)
    replace aL_l := Nat.lt_of_lt_of_le aL_l hz2
    rw [hs1] at aP_0
    rw [hs1] at aP_1
    have aP_l : W.heap.size + 1 < w2.heap.size := (by omega)
    have he3 : Eff 0 0 w2 (w2.alloc (.cells #[.int .i64 0, .slice none 0 0] 34)) := Eff.alloc _ _
    have hs3 : (w2.alloc (.cells #[.int .i64 0, .slice none 0 0] 34)).heap.size = w2.heap.size + 1 := (by simp)
    have res_0 : (w2.alloc (.cells #[.int .i64 0, .slice none 0 0] 34)).cell? ⟨w2.heap.size, 0, none⟩ = some (.int .i64 0) := var_cell _ _ _ _ _ rfl
    have res_1 : (w2.alloc (.cells #[.int .i64 0, .slice none 0 0] 34)).cell? ⟨w2.heap.size, 1, none⟩ = some (.slice none 0 0) := var_cell _ _ _ _ _ rfl
    have res_f0 : (w2.alloc (.cells #[.int .i64 0, .slice none 0 0] 34)).frozen? ⟨w2.heap.size, 0, none⟩ = false := var_frozen _ _ _ _
    have res_f1 : (w2.alloc (.cells #[.int .i64 0, .slice none 0 0] 34)).frozen? ⟨w2.heap.size, 1, none⟩ = false := var_frozen _ _ _ _
    generalize (w2.alloc (.cells #[.int .i64 0, .slice none 0 0] 34)) = w3 at *
    have hz3 : w2.heap.size ≤ w3.heap.size := he3.size
    have b3 : Below W.heap.size W w3 := b2.trans (he3.below b2.size (by omega))
    replace hr := (hr.below (he3.below (B := W.heap.size) (by omega) (by omega)) (Nat.le_refl _))
    replace hr' := (hr'.below (he3.below (B := W.heap.size) (by omega) (by omega)) (Nat.le_refl _))
    replace aL_0 := he3.cell aL_0 (by simp only; omega)
    replace aL_1 := he3.cell aL_1 (by simp only; omega)
    replace aP_0 := he3.cell aP_0 (by simp only; omega)
    replace aP_1 := he3.cell aP_1 (by simp only; omega)
    replace aL_l := Nat.lt_of_lt_of_le aL_l hz3
    replace aP_l := Nat.lt_of_lt_of_le aP_l hz3
    rw [hs2, hs1] at res_0 res_f0
    rw [hs2, hs1] at res_1 res_f1
    have res_l : W.heap.size + 1 + 1 < w3.heap.size := (by omega)
    refine (spec_LedgerOk q A n c ls w3 (hr.more (by omega)) hn).mono ?_
    rintro e w4 ⟨rfl, hb⟩
    have he4 : Eff 0 0 w3 w4 := Eff.of hb
    have hz4 : w3.heap.size ≤ w4.heap.size := he4.size
    have b4 : Below W.heap.size W w4 := b3.trans (he4.below b3.size (by omega))
    replace hr := (hr.below (he4.below (B := W.heap.size) (by omega) (by omega)) (Nat.le_refl _))
    replace hr' := (hr'.below (he4.below (B := W.heap.size) (by omega) (by omega)) (Nat.le_refl _))
    replace res_f0 := (he4.frozen res_0 (by simp only; omega)).trans res_f0
    replace res_f1 := (he4.frozen res_1 (by simp only; omega)).trans res_f1
    replace aL_0 := he4.cell aL_0 (by simp only; omega)
    replace aL_1 := he4.cell aL_1 (by simp only; omega)
    replace aP_0 := he4.cell aP_0 (by simp only; omega)
    replace aP_1 := he4.cell aP_1 (by simp only; omega)
    replace res_0 := he4.cell res_0 (by simp only; omega)
    replace res_1 := he4.cell res_1 (by simp only; omega)
    replace aL_l := Nat.lt_of_lt_of_le aL_l hz4
    replace aP_l := Nat.lt_of_lt_of_le aP_l hz4
    replace res_l := Nat.lt_of_lt_of_le res_l hz4
    clear hb
    rw [hLok]
    go_wp2
    refine bodyPost_ret (v := .tuple #[.agg #[.int .i64 0, .slice none 0 0], .int .i64 1]) (by simp [results, Try.results32, go_sem, *]) rfl ?_
    exact made_zero (b := W.heap.size + 1 + 1) 1 b4 (eff_set2 _ _ _ _) (by omega)
  rcases hPok : pstOk p ps with _ | _
  · skip
    rw [show postR q ls p ps = (0, [], 1) by simp [postR, hLok, hPok]]
    show Calls _ _ _ _ (MadePost 0 [] 1 W)
    go_enter Try.func32, Try.ntmps32
    go_wp2_with fail
    have he1 : Eff 0 0 W (W.alloc (.cells #[.int .i64 q, .slice A n c] 34)) := Eff.alloc _ _
    have hs1 : (W.alloc (.cells #[.int .i64 q, .slice A n c] 34)).heap.size = W.heap.size + 1 := (by simp)
    have aL_0 : (W.alloc (.cells #[.int .i64 q, .slice A n c] 34)).cell? ⟨W.heap.size, 0, none⟩ = some (.int .i64 q) := var_cell _ _ _ _ _ rfl
    have aL_1 : (W.alloc (.cells #[.int .i64 q, .slice A n c] 34)).cell? ⟨W.heap.size, 1, none⟩ = some (.slice A n c) := var_cell _ _ _ _ _ rfl
    generalize (W.alloc (.cells #[.int .i64 q, .slice A n c] 34)) = w1 at *
    have hz1 : W.heap.size ≤ w1.heap.size := he1.size
    have b1 : Below W.heap.size W w1 := he1.below (Nat.le_refl _) (by omega)
    replace hr := (hr.below (he1.below (B := W.heap.size) (by omega) (by omega)) (Nat.le_refl _))
    replace hr' := (hr'.below (he1.below (B := W.heap.size) (by omega) (by omega)) (Nat.le_refl _))
    have aL_l : W.heap.size < w1.heap.size := (by omega)
    have he2 : Eff 0 0 w1 (w1.alloc (.cells #[.int .i64 p, .slice A' n' c'] 43)) := Eff.alloc _ _
    have hs2 : (w1.alloc (.cells #[.int .i64 p, .slice A' n' c'] 43)).heap.size = w1.heap.size + 1 := (by simp)
    have aP_0 : (w1.alloc (.cells #[.int .i64 p, .slice A' n' c'] 43)).cell? ⟨w1.heap.size, 0, none⟩ = some (.int .i64 p) := var_cell _ _ _ _ _ rfl
    have aP_1 : (w1.alloc (.cells #[.int .i64 p, .slice A' n' c'] 43)).cell? ⟨w1.heap.size, 1, none⟩ = some (.slice A' n' c') := var_cell _ _ _ _ _ rfl
    generalize (w1.alloc (.cells #[.int .i64 p, .slice A' n' c'] 43)) = w2 at *
    have hz2 : w1.heap.size ≤ w2.heap.size := he2.size
    have b2 : Below W.heap.size W w2 := b1.trans (he2.below b1.size (by omega))
    replace hr := (hr.below (he2.below (B := W.heap.size) (by omega) (by omega)) (Nat.le_refl _))
    replace hr' := (hr'.below (he2.below (B := W.heap.size) (by omega) (by omega)) (Nat.le_refl _))
    replace aL_0 := he2.cell aL_0 (by simp only; omega)
    replace aL_1 := he2.cell aL_1 (by simp only; omega)
    replace aL_l := Nat.lt_of_lt_of_le aL_l hz2
    rw [hs1] at aP_0
    rw [hs1] at aP_1
    have aP_l : W.heap.size + 1 < w2.heap.size := (by omega)
    have he3 : Eff 0 0 w2 (w2.alloc (.cells #[.int .i64 0, .slice none 0 0] 34)) := Eff.alloc _ _
    have hs3 : (w2.alloc (.cells #[.int .i64 0, .slice none 0 0] 34)).heap.size = w2.heap.size + 1 := (by simp)
    have res_0 : (w2.alloc (.cells #[.int .i64 0, .slice none 0 0] 34)).cell? ⟨w2.heap.size, 0, none⟩ = some (.int .i64 0) := var_cell _ _ _ _ _ rfl
    have res_1 : (w2.alloc (.cells #[.int .i64 0, .slice none 0 0] 34)).cell? ⟨w2.heap.size, 1, none⟩ = some (.slice none 0 0) := var_cell _ _ _ _ _ rfl
    have res_f0 : (w2.alloc (.cells #[.int .i64 0, .slice none 0 0] 34)).frozen? ⟨w2.heap.size, 0, none⟩ = false := var_frozen _ _ _ _
    have res_f1 : (w2.alloc (.cells #[.int .i64 0, .slice none 0 0] 34)).frozen? ⟨w2.heap.size, 1, none⟩ = false := var_frozen _ _ _ _
    generalize (w2.alloc (.cells #[.int .i64 0, .slice none 0 0] 34)) = w3 at *
    have hz3 : w2.heap.size ≤ w3.heap.size := he3.size
    have b3 : Below W.heap.size W w3 := b2.trans (he3.below b2.size (by omega))
    replace hr := (hr.below (he3.below (B := W.heap.size) (by omega) (by omega)) (Nat.le_refl _))
    replace hr' := (hr'.below (he3.below (B := W.heap.size) (by omega) (by omega)) (Nat.le_refl _))
    replace aL_0 := he3.cell aL_0 (by simp only; omega)
    replace aL_1 := he3.cell aL_1 (by simp only; omega)
    replace aP_0 := he3.cell aP_0 (by simp only; omega)
    replace aP_1 := he3.cell aP_1 (by simp only; omega)
    replace aL_l := Nat.lt_of_lt_of_le aL_l hz3
    replace aP_l := Nat.lt_of_lt_of_le aP_l hz3
    rw [hs2, hs1] at res_0 res_f0
    rw [hs2, hs1] at res_1 res_f1
    have res_l : W.heap.size + 1 + 1 < w3.heap.size := (by omega)
    refine (spec_LedgerOk q A n c ls w3 (hr.more (by omega)) hn).mono ?_
    rintro e w4 ⟨rfl, hb⟩
    have he4 : Eff 0 0 w3 w4 := Eff.of hb
    have hz4 : w3.heap.size ≤ w4.heap.size := he4.size
    have b4 : Below W.heap.size W w4 := b3.trans (he4.below b3.size (by omega))
    replace hr := (hr.below (he4.below (B := W.heap.size) (by omega) (by omega)) (Nat.le_refl _))
    replace hr' := (hr'.below (he4.below (B := W.heap.size) (by omega) (by omega)) (Nat.le_refl _))
    replace res_f0 := (he4.frozen res_0 (by simp only; omega)).trans res_f0
    replace res_f1 := (he4.frozen res_1 (by simp only; omega)).trans res_f1
    replace aL_0 := he4.cell aL_0 (by simp only; omega)
    replace aL_1 := he4.cell aL_1 (by simp only; omega)
    replace aP_0 := he4.cell aP_0 (by simp only; omega)
    replace aP_1 := he4.cell aP_1 (by simp only; omega)
    replace res_0 := he4.cell res_0 (by simp only; omega)
    replace res_1 := he4.cell res_1 (by simp only; omega)
    replace aL_l := Nat.lt_of_lt_of_le aL_l hz4
    replace aP_l := Nat.lt_of_lt_of_le aP_l hz4
    replace res_l := Nat.lt_of_lt_of_le res_l hz4
    clear hb
    rw [hLok]
    go_wp2_with fail
    refine (spec_PostingOk p A' n' c' ps w4 (hr'.more (by omega)) hn').mono ?_
    rintro e w5 ⟨rfl, hb⟩
    have he5 : Eff 0 0 w4 w5 := Eff.of hb
    have hz5 : w4.heap.size ≤ w5.heap.size := he5.size
    have b5 : Below W.heap.size W w5 := b4.trans (he5.below b4.size (by omega))
    replace hr := (hr.below (he5.below (B := W.heap.size) (by omega) (by omega)) (Nat.le_refl _))
    replace hr' := (hr'.below (he5.below (B := W.heap.size) (by omega) (by omega)) (Nat.le_refl _))
    replace res_f0 := (he5.frozen res_0 (by simp only; omega)).trans res_f0
    replace res_f1 := (he5.frozen res_1 (by simp only; omega)).trans res_f1
    replace aL_0 := he5.cell aL_0 (by simp only; omega)
    replace aL_1 := he5.cell aL_1 (by simp only; omega)
    replace aP_0 := he5.cell aP_0 (by simp only; omega)
    replace aP_1 := he5.cell aP_1 (by simp only; omega)
    replace res_0 := he5.cell res_0 (by simp only; omega)
    replace res_1 := he5.cell res_1 (by simp only; omega)
    replace aL_l := Nat.lt_of_lt_of_le aL_l hz5
    replace aP_l := Nat.lt_of_lt_of_le aP_l hz5
    replace res_l := Nat.lt_of_lt_of_le res_l hz5
    clear hb
    rw [hPok]
    go_wp2
    refine bodyPost_ret (v := .tuple #[.agg #[.int .i64 0, .slice none 0 0], .int .i64 1]) (by simp [results, Try.results32, go_sem, *]) rfl ?_
    exact made_zero (b := W.heap.size + 1 + 1) 1 b5 (eff_set2 _ _ _ _) (by omega)
  have hLr := led_rng hLok
  have hPr := pst_rng hPok
  rw [HL.out] at hLr
  rw [HL'.out] at hPr
  obtain ⟨hLa, hLn⟩ := hLr
  obtain ⟨hPa, hPn, hp1, hp2⟩ := hPr
  have HLa := Lib.hid hLa
  have HPa := Lib.hid hPa
  clear hLa hPa
  by_cases hid : p ≤ q
  · skip
    rw [show postR q ls p ps = (0, [], 2) by simp [postR, hLok, hPok, hid]]
    show Calls _ _ _ _ (MadePost 0 [] 2 W)
    go_enter Try.func32, Try.ntmps32
    go_wp2_with fail
    have he1 : Eff 0 0 W (W.alloc (.cells #[.int .i64 q, .slice A n c] 34)) := Eff.alloc _ _
    have hs1 : (W.alloc (.cells #[.int .i64 q, .slice A n c] 34)).heap.size = W.heap.size + 1 := (by simp)
    have aL_0 : (W.alloc (.cells #[.int .i64 q, .slice A n c] 34)).cell? ⟨W.heap.size, 0, none⟩ = some (.int .i64 q) := var_cell _ _ _ _ _ rfl
    have aL_1 : (W.alloc (.cells #[.int .i64 q, .slice A n c] 34)).cell? ⟨W.heap.size, 1, none⟩ = some (.slice A n c) := var_cell _ _ _ _ _ rfl
    generalize (W.alloc (.cells #[.int .i64 q, .slice A n c] 34)) = w1 at *
    have hz1 : W.heap.size ≤ w1.heap.size := he1.size
    have b1 : Below W.heap.size W w1 := he1.below (Nat.le_refl _) (by omega)
    replace hr := (hr.below (he1.below (B := W.heap.size) (by omega) (by omega)) (Nat.le_refl _))
    replace hr' := (hr'.below (he1.below (B := W.heap.size) (by omega) (by omega)) (Nat.le_refl _))
    have aL_l : W.heap.size < w1.heap.size := (by omega)
    have he2 : Eff 0 0 w1 (w1.alloc (.cells #[.int .i64 p, .slice A' n' c'] 43)) := Eff.alloc _ _
    have hs2 : (w1.alloc (.cells #[.int .i64 p, .slice A' n' c'] 43)).heap.size = w1.heap.size + 1 := (by simp)
    have aP_0 : (w1.alloc (.cells #[.int .i64 p, .slice A' n' c'] 43)).cell? ⟨w1.heap.size, 0, none⟩ = some (.int .i64 p) := var_cell _ _ _ _ _ rfl
    have aP_1 : (w1.alloc (.cells #[.int .i64 p, .slice A' n' c'] 43)).cell? ⟨w1.heap.size, 1, none⟩ = some (.slice A' n' c') := var_cell _ _ _ _ _ rfl
    generalize (w1.alloc (.cells #[.int .i64 p, .slice A' n' c'] 43)) = w2 at *
    have hz2 : w1.heap.size ≤ w2.heap.size := he2.size
    have b2 : Below W.heap.size W w2 := b1.trans (he2.below b1.size (by omega))
    replace hr := (hr.below (he2.below (B := W.heap.size) (by omega) (by omega)) (Nat.le_refl _))
    replace hr' := (hr'.below (he2.below (B := W.heap.size) (by omega) (by omega)) (Nat.le_refl _))
    replace aL_0 := he2.cell aL_0 (by simp only; omega)
    replace aL_1 := he2.cell aL_1 (by simp only; omega)
    replace aL_l := Nat.lt_of_lt_of_le aL_l hz2
    rw [hs1] at aP_0
    rw [hs1] at aP_1
    have aP_l : W.heap.size + 1 < w2.heap.size := (by omega)
    have he3 : Eff 0 0 w2 (w2.alloc (.cells #[.int .i64 0, .slice none 0 0] 34)) := Eff.alloc _ _
    have hs3 : (w2.alloc (.cells #[.int .i64 0, .slice none 0 0] 34)).heap.size = w2.heap.size + 1 := (by simp)
    have res_0 : (w2.alloc (.cells #[.int .i64 0, .slice none 0 0] 34)).cell? ⟨w2.heap.size, 0, none⟩ = some (.int .i64 0) := var_cell _ _ _ _ _ rfl
    have res_1 : (w2.alloc (.cells #[.int .i64 0, .slice none 0 0] 34)).cell? ⟨w2.heap.size, 1, none⟩ = some (.slice none 0 0) := var_cell _ _ _ _ _ rfl
    have res_f0 : (w2.alloc (.cells #[.int .i64 0, .slice none 0 0] 34)).frozen? ⟨w2.heap.size, 0, none⟩ = false := var_frozen _ _ _ _
    have res_f1 : (w2.alloc (.cells #[.int .i64 0, .slice none 0 0] 34)).frozen? ⟨w2.heap.size, 1, none⟩ = false := var_frozen _ _ _ _
    generalize (w2.alloc (.cells #[.int .i64 0, .slice none 0 0] 34)) = w3 at *
    have hz3 : w2.heap.size ≤ w3.heap.size := he3.size
    have b3 : Below W.heap.size W w3 := b2.trans (he3.below b2.size (by omega))
    replace hr := (hr.below (he3.below (B := W.heap.size) (by omega) (by omega)) (Nat.le_refl _))
    replace hr' := (hr'.below (he3.below (B := W.heap.size) (by omega) (by omega)) (Nat.le_refl _))
    replace aL_0 := he3.cell aL_0 (by simp only; omega)
    replace aL_1 := he3.cell aL_1 (by simp only; omega)
    replace aP_0 := he3.cell aP_0 (by simp only; omega)
    replace aP_1 := he3.cell aP_1 (by simp only; omega)
    replace aL_l := Nat.lt_of_lt_of_le aL_l hz3
    replace aP_l := Nat.lt_of_lt_of_le aP_l hz3
    rw [hs2, hs1] at res_0 res_f0
    rw [hs2, hs1] at res_1 res_f1
    have res_l : W.heap.size + 1 + 1 < w3.heap.size := (by omega)
    refine (spec_LedgerOk q A n c ls w3 (hr.more (by omega)) hn).mono ?_
    rintro e w4 ⟨rfl, hb⟩
    have he4 : Eff 0 0 w3 w4 := Eff.of hb
    have hz4 : w3.heap.size ≤ w4.heap.size := he4.size
    have b4 : Below W.heap.size W w4 := b3.trans (he4.below b3.size (by omega))
    replace hr := (hr.below (he4.below (B := W.heap.size) (by omega) (by omega)) (Nat.le_refl _))
    replace hr' := (hr'.below (he4.below (B := W.heap.size) (by omega) (by omega)) (Nat.le_refl _))
    replace res_f0 := (he4.frozen res_0 (by simp only; omega)).trans res_f0
    replace res_f1 := (he4.frozen res_1 (by simp only; omega)).trans res_f1
    replace aL_0 := he4.cell aL_0 (by simp only; omega)
    replace aL_1 := he4.cell aL_1 (by simp only; omega)
    replace aP_0 := he4.cell aP_0 (by simp only; omega)
    replace aP_1 := he4.cell aP_1 (by simp only; omega)
    replace res_0 := he4.cell res_0 (by simp only; omega)
    replace res_1 := he4.cell res_1 (by simp only; omega)
    replace aL_l := Nat.lt_of_lt_of_le aL_l hz4
    replace aP_l := Nat.lt_of_lt_of_le aP_l hz4
    replace res_l := Nat.lt_of_lt_of_le res_l hz4
    clear hb
    rw [hLok]
    go_wp2_with fail
    refine (spec_PostingOk p A' n' c' ps w4 (hr'.more (by omega)) hn').mono ?_
    rintro e w5 ⟨rfl, hb⟩
    have he5 : Eff 0 0 w4 w5 := Eff.of hb
    have hz5 : w4.heap.size ≤ w5.heap.size := he5.size
    have b5 : Below W.heap.size W w5 := b4.trans (he5.below b4.size (by omega))
    replace hr := (hr.below (he5.below (B := W.heap.size) (by omega) (by omega)) (Nat.le_refl _))
    replace hr' := (hr'.below (he5.below (B := W.heap.size) (by omega) (by omega)) (Nat.le_refl _))
    replace res_f0 := (he5.frozen res_0 (by simp only; omega)).trans res_f0
    replace res_f1 := (he5.frozen res_1 (by simp only; omega)).trans res_f1
    replace aL_0 := he5.cell aL_0 (by simp only; omega)
    replace aL_1 := he5.cell aL_1 (by simp only; omega)
    replace aP_0 := he5.cell aP_0 (by simp only; omega)
    replace aP_1 := he5.cell aP_1 (by simp only; omega)
    replace res_0 := he5.cell res_0 (by simp only; omega)
    replace res_1 := he5.cell res_1 (by simp only; omega)
    replace aL_l := Nat.lt_of_lt_of_le aL_l hz5
    replace aP_l := Nat.lt_of_lt_of_le aP_l hz5
    replace res_l := Nat.lt_of_lt_of_le res_l hz5
    clear hb
    rw [hPok]
    go_wp2
    refine bodyPost_ret (v := .tuple #[.agg #[.int .i64 0, .slice none 0 0], .int .i64 2]) (by simp [results, Try.results32, go_sem, *]) rfl ?_
    exact made_zero (b := W.heap.size + 1 + 1) 2 b5 (eff_set2 _ _ _ _) (by omega)
  have hid1 : q < p := by omega
  have HM := Lib.hid (mrg_ok hLok hPok)
  have HLed := Lib.hid (mrg_led hLok hPok)
  have HLi := Lib.hid (mrg_lines hLok hPok)
  have HF := Lib.hid (post_fold (ls := ls) hPok)
  have HPS : Hid (postR q ls p ps = if ledOk p (mrgU ls ps) then (p, mrgU ls ps, 0) else (0, [], 3)) := Lib.hid (by rw [HLed.out]; simp [postR, hLok, hPok, hid])
  clear hid HM HLed HLi
  obtain ⟨i0, hi0, hj0, hj1, hj2⟩ := info_parts info_Line
  go_enter Try.func32, Try.ntmps32
  go_wp2_with fail
  have he1 : Eff 0 0 W (W.alloc (.cells #[.int .i64 q, .slice A n c] 34)) := Eff.alloc _ _
  have hs1 : (W.alloc (.cells #[.int .i64 q, .slice A n c] 34)).heap.size = W.heap.size + 1 := (by simp)
  have aL_0 : (W.alloc (.cells #[.int .i64 q, .slice A n c] 34)).cell? ⟨W.heap.size, 0, none⟩ = some (.int .i64 q) := var_cell _ _ _ _ _ rfl
  have aL_1 : (W.alloc (.cells #[.int .i64 q, .slice A n c] 34)).cell? ⟨W.heap.size, 1, none⟩ = some (.slice A n c) := var_cell _ _ _ _ _ rfl
  generalize (W.alloc (.cells #[.int .i64 q, .slice A n c] 34)) = w1 at *
  have hz1 : W.heap.size ≤ w1.heap.size := he1.size
  have b1 : Below W.heap.size W w1 := he1.below (Nat.le_refl _) (by omega)
  replace hr := (hr.below (he1.below (B := W.heap.size) (by omega) (by omega)) (Nat.le_refl _))
  replace hr' := (hr'.below (he1.below (B := W.heap.size) (by omega) (by omega)) (Nat.le_refl _))
  have aL_l : W.heap.size < w1.heap.size := (by omega)
  have he2 : Eff 0 0 w1 (w1.alloc (.cells #[.int .i64 p, .slice A' n' c'] 43)) := Eff.alloc _ _
  have hs2 : (w1.alloc (.cells #[.int .i64 p, .slice A' n' c'] 43)).heap.size = w1.heap.size + 1 := (by simp)
  have aP_0 : (w1.alloc (.cells #[.int .i64 p, .slice A' n' c'] 43)).cell? ⟨w1.heap.size, 0, none⟩ = some (.int .i64 p) := var_cell _ _ _ _ _ rfl
  have aP_1 : (w1.alloc (.cells #[.int .i64 p, .slice A' n' c'] 43)).cell? ⟨w1.heap.size, 1, none⟩ = some (.slice A' n' c') := var_cell _ _ _ _ _ rfl
  generalize (w1.alloc (.cells #[.int .i64 p, .slice A' n' c'] 43)) = w2 at *
  have hz2 : w1.heap.size ≤ w2.heap.size := he2.size
  have b2 : Below W.heap.size W w2 := b1.trans (he2.below b1.size (by omega))
  replace hr := (hr.below (he2.below (B := W.heap.size) (by omega) (by omega)) (Nat.le_refl _))
  replace hr' := (hr'.below (he2.below (B := W.heap.size) (by omega) (by omega)) (Nat.le_refl _))
  replace aL_0 := he2.cell aL_0 (by simp only; omega)
  replace aL_1 := he2.cell aL_1 (by simp only; omega)
  replace aL_l := Nat.lt_of_lt_of_le aL_l hz2
  rw [hs1] at aP_0
  rw [hs1] at aP_1
  have aP_l : W.heap.size + 1 < w2.heap.size := (by omega)
  have he3 : Eff 0 0 w2 (w2.alloc (.cells #[.int .i64 0, .slice none 0 0] 34)) := Eff.alloc _ _
  have hs3 : (w2.alloc (.cells #[.int .i64 0, .slice none 0 0] 34)).heap.size = w2.heap.size + 1 := (by simp)
  have res_0 : (w2.alloc (.cells #[.int .i64 0, .slice none 0 0] 34)).cell? ⟨w2.heap.size, 0, none⟩ = some (.int .i64 0) := var_cell _ _ _ _ _ rfl
  have res_1 : (w2.alloc (.cells #[.int .i64 0, .slice none 0 0] 34)).cell? ⟨w2.heap.size, 1, none⟩ = some (.slice none 0 0) := var_cell _ _ _ _ _ rfl
  have res_f0 : (w2.alloc (.cells #[.int .i64 0, .slice none 0 0] 34)).frozen? ⟨w2.heap.size, 0, none⟩ = false := var_frozen _ _ _ _
  have res_f1 : (w2.alloc (.cells #[.int .i64 0, .slice none 0 0] 34)).frozen? ⟨w2.heap.size, 1, none⟩ = false := var_frozen _ _ _ _
  generalize (w2.alloc (.cells #[.int .i64 0, .slice none 0 0] 34)) = w3 at *
  have hz3 : w2.heap.size ≤ w3.heap.size := he3.size
  have b3 : Below W.heap.size W w3 := b2.trans (he3.below b2.size (by omega))
  replace hr := (hr.below (he3.below (B := W.heap.size) (by omega) (by omega)) (Nat.le_refl _))
  replace hr' := (hr'.below (he3.below (B := W.heap.size) (by omega) (by omega)) (Nat.le_refl _))
  replace aL_0 := he3.cell aL_0 (by simp only; omega)
  replace aL_1 := he3.cell aL_1 (by simp only; omega)
  replace aP_0 := he3.cell aP_0 (by simp only; omega)
  replace aP_1 := he3.cell aP_1 (by simp only; omega)
  replace aL_l := Nat.lt_of_lt_of_le aL_l hz3
  replace aP_l := Nat.lt_of_lt_of_le aP_l hz3
  rw [hs2, hs1] at res_0 res_f0
  rw [hs2, hs1] at res_1 res_f1
  have res_l : W.heap.size + 1 + 1 < w3.heap.size := (by omega)
  refine (spec_LedgerOk q A n c ls w3 (hr.more (by omega)) hn).mono ?_
  rintro e w4 ⟨rfl, hb⟩
  have he4 : Eff 0 0 w3 w4 := Eff.of hb
  have hz4 : w3.heap.size ≤ w4.heap.size := he4.size
  have b4 : Below W.heap.size W w4 := b3.trans (he4.below b3.size (by omega))
  replace hr := (hr.below (he4.below (B := W.heap.size) (by omega) (by omega)) (Nat.le_refl _))
  replace hr' := (hr'.below (he4.below (B := W.heap.size) (by omega) (by omega)) (Nat.le_refl _))
  replace res_f0 := (he4.frozen res_0 (by simp only; omega)).trans res_f0
  replace res_f1 := (he4.frozen res_1 (by simp only; omega)).trans res_f1
  replace aL_0 := he4.cell aL_0 (by simp only; omega)
  replace aL_1 := he4.cell aL_1 (by simp only; omega)
  replace aP_0 := he4.cell aP_0 (by simp only; omega)
  replace aP_1 := he4.cell aP_1 (by simp only; omega)
  replace res_0 := he4.cell res_0 (by simp only; omega)
  replace res_1 := he4.cell res_1 (by simp only; omega)
  replace aL_l := Nat.lt_of_lt_of_le aL_l hz4
  replace aP_l := Nat.lt_of_lt_of_le aP_l hz4
  replace res_l := Nat.lt_of_lt_of_le res_l hz4
  clear hb
  rw [hLok]
  go_wp2_with fail
  refine (spec_PostingOk p A' n' c' ps w4 (hr'.more (by omega)) hn').mono ?_
  rintro e w5 ⟨rfl, hb⟩
  have he5 : Eff 0 0 w4 w5 := Eff.of hb
  have hz5 : w4.heap.size ≤ w5.heap.size := he5.size
  have b5 : Below W.heap.size W w5 := b4.trans (he5.below b4.size (by omega))
  replace hr := (hr.below (he5.below (B := W.heap.size) (by omega) (by omega)) (Nat.le_refl _))
  replace hr' := (hr'.below (he5.below (B := W.heap.size) (by omega) (by omega)) (Nat.le_refl _))
  replace res_f0 := (he5.frozen res_0 (by simp only; omega)).trans res_f0
  replace res_f1 := (he5.frozen res_1 (by simp only; omega)).trans res_f1
  replace aL_0 := he5.cell aL_0 (by simp only; omega)
  replace aL_1 := he5.cell aL_1 (by simp only; omega)
  replace aP_0 := he5.cell aP_0 (by simp only; omega)
  replace aP_1 := he5.cell aP_1 (by simp only; omega)
  replace res_0 := he5.cell res_0 (by simp only; omega)
  replace res_1 := he5.cell res_1 (by simp only; omega)
  replace aL_l := Nat.lt_of_lt_of_le aL_l hz5
  replace aP_l := Nat.lt_of_lt_of_le aP_l hz5
  replace res_l := Nat.lt_of_lt_of_le res_l hz5
  clear hb
  rw [hPok]
  go_wp2_with fail
  go_cut [6] (fun v6 wx => MidPost p ls w5 v6 wx)
  case first =>
    refine wp_region_held_drew (S := fun w' => w'.cell? ⟨W.heap.size + 1, 0, none⟩ = some (.int .i64 p) ∧ w'.cell? ⟨W.heap.size, 1, none⟩ = some (.slice A n c)) (by kernel_rfl) ?rg1 (fun hHeld => ?_)
    case rg1 => ((try dsimp only); (go_split_ands; (repeat' apply And.intro) <;> (first | assumption | exact keepA _ (by assumption) | exact set_other (set_other (by assumption) _ (.inl (by first | omega | (simp; omega)))) _ (.inl (by first | omega | (simp; omega))))))
    refine wpAnyH_take (i := 0) (oi := { dst := some 24, op := Go.Op.fieldAddr 43 (Go.Operand.tmp 3) 0, type := 0, pos := "l02_ledger.go:100", after := #[], guard := none }) (v := ?v2) rfl (by kernel_rfl) (by kernel_rfl) (by kernel_rfl) (fun _ _ _ h => h) (Or.inl ⟨by rfl, ?y2⟩) (by assumption) ?_
    case y2 => (intro w hSw; (try dsimp only at hSw); go_simp; first | done | with_reducible rfl)
    try simp only [Act.put, List.setIfInBounds_toArray, List.set_cons_zero, List.set_cons_succ]
    refine wpAnyH_take (i := 1) (oi := { dst := some 25, op := Go.Op.load 3 (Go.Operand.tmp 24), type := 3, pos := "l02_ledger.go:100", after := #[{ on := 0, ground := Go.Ground.data }], guard := none }) (v := ?v3) rfl (by kernel_rfl) (by kernel_rfl) (by kernel_rfl) (fun _ _ _ h => h) (Or.inl ⟨by rfl, ?y3⟩) (by assumption) ?_
    case y3 => (intro w hSw; (try dsimp only at hSw); go_simp; first | done | with_reducible rfl)
    try simp only [Act.put, List.setIfInBounds_toArray, List.set_cons_zero, List.set_cons_succ]
    refine wpAnyH_take (i := 3) (oi := { dst := some 27, op := Go.Op.fieldAddr 34 (Go.Operand.tmp 2) 1, type := 0, pos := "l02_ledger.go:100", after := #[], guard := none }) (v := ?v4) rfl (by kernel_rfl) (by kernel_rfl) (by kernel_rfl) (fun _ _ _ h => h) (Or.inl ⟨by rfl, ?y4⟩) (by assumption) ?_
    case y4 => (intro w hSw; (try dsimp only at hSw); go_simp; first | done | with_reducible rfl)
    try simp only [Act.put, List.setIfInBounds_toArray, List.set_cons_zero, List.set_cons_succ]
    refine wpAnyH_take (i := 4) (oi := { dst := some 28, op := Go.Op.load 25 (Go.Operand.tmp 27), type := 25, pos := "l02_ledger.go:100", after := #[{ on := 3, ground := Go.Ground.data }], guard := none }) (v := ?v5) rfl (by kernel_rfl) (by kernel_rfl) (by kernel_rfl) (fun _ _ _ h => h) (Or.inl ⟨by rfl, ?y5⟩) (by assumption) ?_
    case y5 => (intro w hSw; (try dsimp only at hSw); go_simp; first | done | with_reducible rfl)
    try simp only [Act.put, List.setIfInBounds_toArray, List.set_cons_zero, List.set_cons_succ]
    refine wpAnyH_ready (rs := [2, 7]) (by kernel_rfl) (by simp) ?_
    refine AllReadyH.cons (o := { dst := some 26, op := Go.Op.buildSlice 25 0 #[], type := 25, pos := "l02_ledger.go:100", after := #[], guard := none }) rfl (fun K hK => ?k6) ?m6
    case k6 =>
      go_simp
      refine hK.out _ _ ?s6 (fun hHeld => ?_)
      case s6 => ((try dsimp only); (go_split_ands; (repeat' apply And.intro) <;> (first | assumption | exact keepA _ (by assumption) | exact set_other (set_other (by assumption) _ (.inl (by first | omega | (simp; omega)))) _ (.inl (by first | omega | (simp; omega))))))
      clear hK K
      try simp only [Act.put, List.setIfInBounds_toArray, List.set_cons_zero, List.set_cons_succ]
      refine wpAnyH_ready (rs := [5, 7]) (by kernel_rfl) (by simp) ?_
      refine AllReadyH.cons (o := { dst := some 29, op := Go.Op.call { callee := Go.Callee.builtin Go.Builtin.append, args := #[Go.Operand.tmp 26, Go.Operand.tmp 28], argTypes := #[25, 25] }, type := 25, pos := "l02_ledger.go:100", after := #[{ on := 2, ground := Go.Ground.data }, { on := 4, ground := Go.Ground.data }], guard := none }) rfl (fun K hK => ?k7) ?m7
      case k7 =>
        refine step_app _ (by rfl) _ _ 25 (by rfl) 63 i0 (.agg #[.int .i64 0, .int .i64 0, .int .i64 0]) 3 24 Try.underlying25 hi0 hj0 hj1 hj2 rfl (by omega) (by rfl) (new_empty w5.drew 63 3) c (by rfl) (hr.drew.alloc (by show _ ≤ w5.heap.size; omega) _) (lnCells_one _) (by unfold maxLen; omega) (by omega) (by first | (simp; done) | (simp; omega)) ?_
        intro A2 c2 wz hO hE hK2
        simp only [Nat.zero_add, List.nil_append] at hO hK2 ⊢
        have hzz := hE.size
        simp at hzz
        have s0 := hE.cell (keepA _ (by assumption : w5.drew.cell? ⟨W.heap.size + 1, 0, none⟩ = some (.int .i64 p))) (.inl (by first | (simp; done) | (simp; omega)))
        have s1 := hE.cell (keepA _ (by assumption : w5.drew.cell? ⟨W.heap.size, 1, none⟩ = some (.slice A n c))) (.inl (by first | (simp; done) | (simp; omega)))
        refine hK.out _ _ ?s7 (fun hHeld => ?_)
        case s7 => ((try dsimp only); (go_split_ands; (repeat' apply And.intro) <;> (first | assumption | exact keepA _ (by assumption) | exact set_other (set_other (by assumption) _ (.inl (by first | omega | (simp; omega)))) _ (.inl (by first | omega | (simp; omega))))))
        clear hK K
        try simp only [Act.put, List.setIfInBounds_toArray, List.set_cons_zero, List.set_cons_succ]
        refine wpAnyH_take (i := 6) (oi := { dst := some 30, op := Go.Op.build 34 #[(0, Go.Operand.tmp 25), (1, Go.Operand.tmp 29)], type := 34, pos := "l02_ledger.go:100", after := #[{ on := 1, ground := Go.Ground.data }, { on := 5, ground := Go.Ground.data }], guard := none }) (v := ?v8) rfl (by kernel_rfl) (by kernel_rfl) (by kernel_rfl) (fun _ _ _ h => h) (Or.inl ⟨by rfl, ?y8⟩) (by assumption) ?_
        case y8 => (intro w hSw; (try dsimp only at hSw); go_simp; first | done | with_reducible rfl)
        try simp only [Act.put, List.setIfInBounds_toArray, List.set_cons_zero, List.set_cons_succ]
        refine wpAnyH_ready (rs := [7]) (by kernel_rfl) (by simp) ?_
        refine AllReadyH.cons (o := { dst := some 6, op := Go.Op.alloc 34, type := 0, pos := "l02_ledger.go:100", after := #[], guard := none }) rfl (fun K hK => ?k9) AllReadyH.nil
        go_simp
        refine hK.out _ _ ?s9 (fun hHeld => ?_)
        case s9 => ((try dsimp only); (go_split_ands; (repeat' apply And.intro) <;> (first | assumption | exact keepA _ (by assumption) | exact set_other (set_other (by assumption) _ (.inl (by first | omega | (simp; omega)))) _ (.inl (by first | omega | (simp; omega))))))
        clear hK K
        try simp only [Act.put, List.setIfInBounds_toArray, List.set_cons_zero, List.set_cons_succ]
        refine wpAnyH_ready (rs := [8]) (by kernel_rfl) (by simp) ?_
        refine AllReadyH.cons (o := { dst := none, op := Go.Op.store 34 (Go.Operand.tmp 6) (Go.Operand.tmp 30), type := 0, pos := "l02_ledger.go:100", after := #[{ on := 7, ground := Go.Ground.data }, { on := 6, ground := Go.Ground.data }, { on := 5, ground := Go.Ground.chain }, { on := 0, ground := Go.Ground.phase }, { on := 1, ground := Go.Ground.phase }, { on := 2, ground := Go.Ground.phase }, { on := 3, ground := Go.Ground.phase }, { on := 4, ground := Go.Ground.phase }, { on := 5, ground := Go.Ground.phase }, { on := 6, ground := Go.Ground.phase }, { on := 7, ground := Go.Ground.phase }], guard := none }) rfl (fun K hK => ?k10) AllReadyH.nil
        go_simp
        refine hK.out _ _ ?s10 (fun hHeld => ?_)
        case s10 => ((try dsimp only); (go_split_ands; (repeat' apply And.intro) <;> (first | assumption | exact keepA _ (by assumption) | exact set_other (set_other (by assumption) _ (.inl (by first | omega | (simp; omega)))) _ (.inl (by first | omega | (simp; omega))))))
        clear hK K
        try simp only [Act.put]
        refine wpAnyH_done (by kernel_rfl) ?_ _
        go_wp2_with fail
        go_meet
        exact MidPost.mkN _ hO HL.out.symm (Eff.join (Eff.undrewL (Eff.alloc _ _)) hE (by simp)) (by simp)
      case m7 =>
        refine AllReadyH.cons (o := { dst := some 6, op := Go.Op.alloc 34, type := 0, pos := "l02_ledger.go:100", after := #[], guard := none }) rfl (fun K hK => ?k11) AllReadyH.nil
        case k11 =>
          go_simp
          refine hK.out _ _ ?s11 (fun hHeld => ?_)
          case s11 => ((try dsimp only); (go_split_ands; (repeat' apply And.intro) <;> (first | assumption | exact keepA _ (by assumption) | exact set_other (set_other (by assumption) _ (.inl (by first | omega | (simp; omega)))) _ (.inl (by first | omega | (simp; omega))))))
          clear hK K
          try simp only [Act.put, List.setIfInBounds_toArray, List.set_cons_zero, List.set_cons_succ]
          refine wpAnyH_ready (rs := [5]) (by kernel_rfl) (by simp) ?_
          refine AllReadyH.cons (o := { dst := some 29, op := Go.Op.call { callee := Go.Callee.builtin Go.Builtin.append, args := #[Go.Operand.tmp 26, Go.Operand.tmp 28], argTypes := #[25, 25] }, type := 25, pos := "l02_ledger.go:100", after := #[{ on := 2, ground := Go.Ground.data }, { on := 4, ground := Go.Ground.data }], guard := none }) rfl (fun K hK => ?k12) AllReadyH.nil
          refine step_app _ (by rfl) _ _ 25 (by rfl) 63 i0 (.agg #[.int .i64 0, .int .i64 0, .int .i64 0]) 3 24 Try.underlying25 hi0 hj0 hj1 hj2 rfl (by omega) (by rfl) (Own.alloc (new_empty w5.drew 63 3) _) c (by rfl) ((hr.drew.alloc (by show _ ≤ w5.heap.size; omega) _).alloc (by simp; omega) _) (lnCells_one _) (by unfold maxLen; omega) (by omega) (by first | (simp; done) | (simp; omega)) ?_
          intro A2 c2 wz hO hE hK2
          simp only [Nat.zero_add, List.nil_append] at hO hK2 ⊢
          have bx := (var4 (w5.drew.alloc (.cells #[] 63)) (.int .i64 0) (.slice none 0 0) 34 (g := w5.heap.size + 1) (by simp)).eff hE (by simp)
          obtain ⟨q0, q1, q2, q3⟩ := bx
          have hzz := hE.size
          simp at hzz
          have s0 := hE.cell (keepA _ (keepA _ (by assumption : w5.drew.cell? ⟨W.heap.size + 1, 0, none⟩ = some (.int .i64 p)))) (.inl (by first | (simp; done) | (simp; omega)))
          have s1 := hE.cell (keepA _ (keepA _ (by assumption : w5.drew.cell? ⟨W.heap.size, 1, none⟩ = some (.slice A n c)))) (.inl (by first | (simp; done) | (simp; omega)))
          refine hK.out _ _ ?s12 (fun hHeld => ?_)
          case s12 => ((try dsimp only); (go_split_ands; (repeat' apply And.intro) <;> (first | assumption | exact keepA _ (by assumption) | exact set_other (set_other (by assumption) _ (.inl (by first | omega | (simp; omega)))) _ (.inl (by first | omega | (simp; omega))))))
          clear hK K
          try simp only [Act.put, List.setIfInBounds_toArray, List.set_cons_zero, List.set_cons_succ]
          refine wpAnyH_take (i := 6) (oi := { dst := some 30, op := Go.Op.build 34 #[(0, Go.Operand.tmp 25), (1, Go.Operand.tmp 29)], type := 34, pos := "l02_ledger.go:100", after := #[{ on := 1, ground := Go.Ground.data }, { on := 5, ground := Go.Ground.data }], guard := none }) (v := ?v13) rfl (by kernel_rfl) (by kernel_rfl) (by kernel_rfl) (fun _ _ _ h => h) (Or.inl ⟨by rfl, ?y13⟩) (by assumption) ?_
          case y13 => (intro w hSw; (try dsimp only at hSw); go_simp; first | done | with_reducible rfl)
          try simp only [Act.put, List.setIfInBounds_toArray, List.set_cons_zero, List.set_cons_succ]
          refine wpAnyH_ready (rs := [8]) (by kernel_rfl) (by simp) ?_
          refine AllReadyH.cons (o := { dst := none, op := Go.Op.store 34 (Go.Operand.tmp 6) (Go.Operand.tmp 30), type := 0, pos := "l02_ledger.go:100", after := #[{ on := 7, ground := Go.Ground.data }, { on := 6, ground := Go.Ground.data }, { on := 5, ground := Go.Ground.chain }, { on := 0, ground := Go.Ground.phase }, { on := 1, ground := Go.Ground.phase }, { on := 2, ground := Go.Ground.phase }, { on := 3, ground := Go.Ground.phase }, { on := 4, ground := Go.Ground.phase }, { on := 5, ground := Go.Ground.phase }, { on := 6, ground := Go.Ground.phase }, { on := 7, ground := Go.Ground.phase }], guard := none }) rfl (fun K hK => ?k14) AllReadyH.nil
          go_simp
          refine hK.out _ _ ?s14 (fun hHeld => ?_)
          case s14 => ((try dsimp only); (go_split_ands; (repeat' apply And.intro) <;> (first | assumption | exact keepA _ (by assumption) | exact set_other (set_other (by assumption) _ (.inl (by first | omega | (simp; omega)))) _ (.inl (by first | omega | (simp; omega))))))
          clear hK K
          try simp only [Act.put]
          refine wpAnyH_done (by kernel_rfl) ?_ _
          go_wp2_with fail
          go_meet
          exact MidPost.mk hO HL.out.symm (fun k hk => by have := hK2 k hk; have := hO.blk k hk; simp at this; simp at *; omega) (Eff.join (Eff.undrewL (Eff.allocs _ _)) hE (by simp)) (by simp) (by omega) ⟨q0, q1, q2, q3⟩
    case m6 =>
      refine AllReadyH.cons (o := { dst := some 6, op := Go.Op.alloc 34, type := 0, pos := "l02_ledger.go:100", after := #[], guard := none }) rfl (fun K hK => ?k15) AllReadyH.nil
      case k15 =>
        go_simp
        refine hK.out _ _ ?s15 (fun hHeld => ?_)
        case s15 => ((try dsimp only); (go_split_ands; (repeat' apply And.intro) <;> (first | assumption | exact keepA _ (by assumption) | exact set_other (set_other (by assumption) _ (.inl (by first | omega | (simp; omega)))) _ (.inl (by first | omega | (simp; omega))))))
        clear hK K
        try simp only [Act.put, List.setIfInBounds_toArray, List.set_cons_zero, List.set_cons_succ]
        refine wpAnyH_ready (rs := [2]) (by kernel_rfl) (by simp) ?_
        refine AllReadyH.cons (o := { dst := some 26, op := Go.Op.buildSlice 25 0 #[], type := 25, pos := "l02_ledger.go:100", after := #[], guard := none }) rfl (fun K hK => ?k16) AllReadyH.nil
        go_simp
        refine hK.out _ _ ?s16 (fun hHeld => ?_)
        case s16 => ((try dsimp only); (go_split_ands; (repeat' apply And.intro) <;> (first | assumption | exact keepA _ (by assumption) | exact set_other (set_other (by assumption) _ (.inl (by first | omega | (simp; omega)))) _ (.inl (by first | omega | (simp; omega))))))
        clear hK K
        try simp only [Act.put, List.setIfInBounds_toArray, List.set_cons_zero, List.set_cons_succ]
        refine wpAnyH_ready (rs := [5]) (by kernel_rfl) (by simp) ?_
        refine AllReadyH.cons (o := { dst := some 29, op := Go.Op.call { callee := Go.Callee.builtin Go.Builtin.append, args := #[Go.Operand.tmp 26, Go.Operand.tmp 28], argTypes := #[25, 25] }, type := 25, pos := "l02_ledger.go:100", after := #[{ on := 2, ground := Go.Ground.data }, { on := 4, ground := Go.Ground.data }], guard := none }) rfl (fun K hK => ?k17) AllReadyH.nil
        refine step_app _ (by rfl) _ _ 25 (by rfl) 63 i0 (.agg #[.int .i64 0, .int .i64 0, .int .i64 0]) 3 24 Try.underlying25 hi0 hj0 hj1 hj2 rfl (by omega) (by rfl) (new_empty' (w5.drew.alloc (.cells #[.int .i64 0, .slice none 0 0] 34)) 63 3 (g := w5.heap.size + 1) (by simp)) c (by rfl) ((hr.drew.alloc (by show _ ≤ w5.heap.size; omega) _).alloc (by simp; omega) _) (lnCells_one _) (by unfold maxLen; omega) (by omega) (by first | (simp; done) | (simp; omega)) ?_
        intro A2 c2 wz hO hE hK2
        simp only [Nat.zero_add, List.nil_append] at hO hK2 ⊢
        have bx := ((var4 w5.drew (.int .i64 0) (.slice none 0 0) 34 (g := w5.heap.size) (by simp)).eff (Eff.alloc _ _) (.inr (Nat.zero_le _))).eff hE (by simp)
        obtain ⟨q0, q1, q2, q3⟩ := bx
        have hzz := hE.size
        simp at hzz
        have s0 := hE.cell (keepA _ (keepA _ (by assumption : w5.drew.cell? ⟨W.heap.size + 1, 0, none⟩ = some (.int .i64 p)))) (.inl (by first | (simp; done) | (simp; omega)))
        have s1 := hE.cell (keepA _ (keepA _ (by assumption : w5.drew.cell? ⟨W.heap.size, 1, none⟩ = some (.slice A n c)))) (.inl (by first | (simp; done) | (simp; omega)))
        refine hK.out _ _ ?s17 (fun hHeld => ?_)
        case s17 => ((try dsimp only); (go_split_ands; (repeat' apply And.intro) <;> (first | assumption | exact keepA _ (by assumption) | exact set_other (set_other (by assumption) _ (.inl (by first | omega | (simp; omega)))) _ (.inl (by first | omega | (simp; omega))))))
        clear hK K
        try simp only [Act.put, List.setIfInBounds_toArray, List.set_cons_zero, List.set_cons_succ]
        refine wpAnyH_take (i := 6) (oi := { dst := some 30, op := Go.Op.build 34 #[(0, Go.Operand.tmp 25), (1, Go.Operand.tmp 29)], type := 34, pos := "l02_ledger.go:100", after := #[{ on := 1, ground := Go.Ground.data }, { on := 5, ground := Go.Ground.data }], guard := none }) (v := ?v18) rfl (by kernel_rfl) (by kernel_rfl) (by kernel_rfl) (fun _ _ _ h => h) (Or.inl ⟨by rfl, ?y18⟩) (by assumption) ?_
        case y18 => (intro w hSw; (try dsimp only at hSw); go_simp; first | done | with_reducible rfl)
        try simp only [Act.put, List.setIfInBounds_toArray, List.set_cons_zero, List.set_cons_succ]
        refine wpAnyH_ready (rs := [8]) (by kernel_rfl) (by simp) ?_
        refine AllReadyH.cons (o := { dst := none, op := Go.Op.store 34 (Go.Operand.tmp 6) (Go.Operand.tmp 30), type := 0, pos := "l02_ledger.go:100", after := #[{ on := 7, ground := Go.Ground.data }, { on := 6, ground := Go.Ground.data }, { on := 5, ground := Go.Ground.chain }, { on := 0, ground := Go.Ground.phase }, { on := 1, ground := Go.Ground.phase }, { on := 2, ground := Go.Ground.phase }, { on := 3, ground := Go.Ground.phase }, { on := 4, ground := Go.Ground.phase }, { on := 5, ground := Go.Ground.phase }, { on := 6, ground := Go.Ground.phase }, { on := 7, ground := Go.Ground.phase }], guard := none }) rfl (fun K hK => ?k19) AllReadyH.nil
        go_simp
        refine hK.out _ _ ?s19 (fun hHeld => ?_)
        case s19 => ((try dsimp only); (go_split_ands; (repeat' apply And.intro) <;> (first | assumption | exact keepA _ (by assumption) | exact set_other (set_other (by assumption) _ (.inl (by first | omega | (simp; omega)))) _ (.inl (by first | omega | (simp; omega))))))
        clear hK K
        try simp only [Act.put]
        refine wpAnyH_done (by kernel_rfl) ?_ _
        go_wp2_with fail
        go_meet
        exact MidPost.mk hO HL.out.symm (fun k hk => by have := hO.blk k hk; omega) (Eff.join (Eff.undrewL (Eff.allocs _ _)) hE (by simp)) (by simp) (Nat.le_refl _) ⟨q0, q1, q2, q3⟩
  case rest =>
    obtain ⟨g, Ac, nc, cc, lo, hi, rfl, hnc, hg1, hgx, hne, hlo, hQ, hO, hE⟩ := hcut
    rw [HL.out] at hnc
    obtain rfl : n = nc := hnc.symm
    clear hnc
    have he6 : Eff 0 0 w5 wc := hE
    have hz6 : w5.heap.size ≤ wc.heap.size := he6.size
    have b6 : Below W.heap.size W wc := b5.trans (he6.below b5.size (by omega))
    replace hr := (hr.below (he6.below (B := W.heap.size) (by omega) (by omega)) (Nat.le_refl _))
    replace hr' := (hr'.below (he6.below (B := W.heap.size) (by omega) (by omega)) (Nat.le_refl _))
    replace res_f0 := (he6.frozen res_0 (by simp only; omega)).trans res_f0
    replace res_f1 := (he6.frozen res_1 (by simp only; omega)).trans res_f1
    replace aL_0 := he6.cell aL_0 (by simp only; omega)
    replace aL_1 := he6.cell aL_1 (by simp only; omega)
    replace aP_0 := he6.cell aP_0 (by simp only; omega)
    replace aP_1 := he6.cell aP_1 (by simp only; omega)
    replace res_0 := he6.cell res_0 (by simp only; omega)
    replace res_1 := he6.cell res_1 (by simp only; omega)
    replace aL_l := Nat.lt_of_lt_of_le aL_l hz6
    replace aP_l := Nat.lt_of_lt_of_le aP_l hz6
    replace res_l := Nat.lt_of_lt_of_le res_l hz6
    clear hE
    have HFa : Hid (∀ y ∈ ls, -(1125899906842624 : Int) ≤ y.a ∧ y.a ≤ 1125899906842624) := Lib.hid (fun y hy => rngA_iff.1 (HLa.out y hy))
    go_wp2
    go_loopw [34] (fun vi wr => ∃ (i : Nat) (Ao : Option Addr) (no co : Nat) (os : List Ln) (lo hi : Nat), i ≤ n' ∧ vi = .int .i64 (i : Int) ∧ Quad wr g (.int .i64 p) (.slice Ao no co) ∧ (∀ k, (Value.slice Ao no co).ownBlock = some k → k ≠ g) ∧ w5.heap.size ≤ lo ∧ OwnL wr lo hi Ao no co os ∧ no ≤ 302 + i ∧ Hid ((ps.drop i).foldl (fun l y => addL y l) os = mrgU ls ps) ∧ Hid (∀ y ∈ os, -(1125899906842624 * ((i : Int) + 1)) ≤ y.a ∧ y.a ≤ 1125899906842624 * ((i : Int) + 1)) ∧ Eff g (g + 1) wc wr) (fun vi _ => n' - (intOf vi).toNat)
    case atStart => exact ⟨0, Ac, n, cc, ls, lo, hi, Nat.zero_le _, rfl, hQ, hne, hlo, hO, by omega, Lib.hid HF.out, Lib.hid (fun y hy => by have := HFa.out y hy; simp; omega), Eff.refl _ _ _⟩
    clear hQ hne hO hlo
    case round =>
      obtain ⟨i, Ao, no, co, os, lo, hi, hi0, rfl, hQ, hne, hlo, hO, hno, HB, HA, hEr⟩ := hrel
      have hzr := hEr.size
      have hbW : Below W.heap.size W wr := b6.trans (hEr.below b6.size (.inl (by omega)))
      replace hr' := hr'.eff hEr (.inl (by omega))
      obtain ⟨k0, k1, f0, f1⟩ := hQ
      by_cases hlt : i < n'
      · obtain ⟨y0, y1, y2, hy⟩ : ∃ y0 y1 y2, lnAt ps i = ⟨y0, y1, y2⟩ := ⟨_, _, _, rfl⟩
        have HF2 := Lib.hid (foldl_at (os := os) hy (by have := HL'.out; omega))
        have hyr := rngA_iff.1 (HPa.out _ (ln_mem hy (by have := HL'.out; omega)))
        simp only at hyr
        obtain ⟨b, off, rfl, hbB, hcell⟩ := hr'.form (by omega)
        obtain ⟨g0, g1', g2⟩ := lnCells_at (k := i) hy (by have := HL'.out; omega)
        have c0 := hcell _ _ g0
        have c1 := hcell _ _ g1'
        have c2 := hcell _ _ g2
        rw [← Nat.add_assoc] at c1 c2
        have j0 : (0 : Int) ≤ (i : Int) := by omega
        have j1 : (i : Int) < (n' : Int) := by omega
        clear hcell g0 g1' g2 hy
        have k0P := (Eff.alloc wr (.cells #[.int .i64 y0, .int .i64 y1, .int .i64 y2] 63)).cell k0 (by simp only; omega)
        have k1P := (Eff.alloc wr (.cells #[.int .i64 y0, .int .i64 y1, .int .i64 y2] 63)).cell k1 (by simp only; omega)
        go_wp2_with fail
        have he1 : Eff 0 0 wr (wr.alloc (.cells #[.int .i64 y0, .int .i64 y1, .int .i64 y2] 63)) := Eff.alloc _ _
        have hs1 : (wr.alloc (.cells #[.int .i64 y0, .int .i64 y1, .int .i64 y2] 63)).heap.size = wr.heap.size + 1 := (by simp)
        have y_0 : (wr.alloc (.cells #[.int .i64 y0, .int .i64 y1, .int .i64 y2] 63)).cell? ⟨wr.heap.size, 0, none⟩ = some (.int .i64 y0) := var_cell _ _ _ _ _ rfl
        have y_1 : (wr.alloc (.cells #[.int .i64 y0, .int .i64 y1, .int .i64 y2] 63)).cell? ⟨wr.heap.size, 1, none⟩ = some (.int .i64 y1) := var_cell _ _ _ _ _ rfl
        have y_2 : (wr.alloc (.cells #[.int .i64 y0, .int .i64 y1, .int .i64 y2] 63)).cell? ⟨wr.heap.size, 2, none⟩ = some (.int .i64 y2) := var_cell _ _ _ _ _ rfl
        generalize (wr.alloc (.cells #[.int .i64 y0, .int .i64 y1, .int .i64 y2] 63)) = z1 at *
        have hz1 : wr.heap.size ≤ z1.heap.size := he1.size
        have b1 : Below W.heap.size W z1 := hbW.trans (he1.below hbW.size (by omega))
        replace hO := Own.keep hO he1 (by omega)
        replace f0 := (he1.frozen k0 (by simp only; omega)).trans f0
        replace f1 := (he1.frozen k1 (by simp only; omega)).trans f1
        replace k0 := he1.cell k0 (by simp only; omega)
        replace k1 := he1.cell k1 (by simp only; omega)
        have y_l : wr.heap.size < z1.heap.size := (by omega)
        clear k0P k1P
        refine (l02Add_any Ao no co os y0 y1 y2 z1 (Own.rd hO (Own.le hO)) (by omega) (fun y hy => midA_iff.2 (by have := HA.out y hy; omega)) (midA_iff.2 (by omega))).mono ?_
        rintro e z2 ⟨An, nn, cn, hnn, rfl, hN, hb⟩
        have he2 : Eff 0 0 z1 z2 := Eff.of hb
        have hz2 : z1.heap.size ≤ z2.heap.size := he2.size
        have b2 : Below W.heap.size W z2 := b1.trans (he2.below b1.size (by omega))
        replace hO := Own.keep hO he2 (by omega)
        replace f0 := (he2.frozen k0 (by simp only; omega)).trans f0
        replace f1 := (he2.frozen k1 (by simp only; omega)).trans f1
        replace k0 := he2.cell k0 (by simp only; omega)
        replace k1 := he2.cell k1 (by simp only; omega)
        replace y_0 := he2.cell y_0 (by simp only; omega)
        replace y_1 := he2.cell y_1 (by simp only; omega)
        replace y_2 := he2.cell y_2 (by simp only; omega)
        replace y_l := Nat.lt_of_lt_of_le y_l hz2
        clear hb
        have hnl := addL_len ⟨y0, y1, y2⟩ os
        rw [lnlen_of_own hO, ← hnn] at hnl
        have hNe : ∀ k, (Value.slice An nn cn).ownBlock = some k → k ≠ g := fun k hk => by have := Own.blk hN k hk; omega
        clear hnn
        have HNb : Hid (∀ y ∈ addL ⟨y0, y1, y2⟩ os, -(1125899906842624 * ((i : Int) + 1 + 1)) ≤ y.a ∧ y.a ≤ 1125899906842624 * ((i : Int) + 1 + 1)) := Lib.hid (fun y hy => by have := addL_bd (k := 1125899906842624 * ((i : Int) + 1)) (m := 1125899906842624) hyr (by omega) (by omega) HA.out y hy; omega)
        go_wp2
        go_roundw
        case rel =>
          have es : Eff g (g + 1) z2 (z2.setCell ⟨g, 1, none⟩ (.slice An nn cn)) := eff_set _ _ _ _
          refine ⟨i + 1, An, nn, cn, addL ⟨y0, y1, y2⟩ os, _, _, by omega, by go_num, ⟨set_other k0 _ (.inr (by omega)), set_same k1 _, set_frozen f0 _, set_frozen f1 _⟩, hNe, ?_, Own.keepNe hN es (fun k hk => by have := hNe k hk; omega), by omega, Lib.hid (by rw [← HF2.out]; exact HB.out), Lib.hid (by simpa using HNb.out), ((hEr.trans (he1.any : Eff g (g + 1) wr z1)).trans (he2.any : Eff g (g + 1) z1 z2)).trans es⟩
          omega
        case measure => simp [intOf]; omega
      · have hge : i = n' := by omega
        subst hge
        have HR2 : Hid (os = mrgU ls ps) := Lib.hid (by rw [← HB.out, List.drop_of_length_le (by rw [HL'.out]; exact Nat.le_refl _)]; rfl)
        have he7 : Eff g (g + 1) wc wr := hEr
        have hz7 : wc.heap.size ≤ wr.heap.size := he7.size
        have b7 : Below W.heap.size W wr := b6.trans (he7.below b6.size (by omega))
        replace res_f0 := (he7.frozen res_0 (.inl (by simp only; omega))).trans res_f0
        replace res_f1 := (he7.frozen res_1 (.inl (by simp only; omega))).trans res_f1
        replace res_0 := he7.cell res_0 (.inl (by simp only; omega))
        replace res_1 := he7.cell res_1 (.inl (by simp only; omega))
        replace res_l := Nat.lt_of_lt_of_le res_l hz7
        go_wp2_with fail
        refine (spec_LedgerOk p Ao no co os wr (Own.rd hO (Own.le hO)) (by omega)).mono ?_
        rintro e w8 ⟨rfl, hb⟩
        have he8 : Eff 0 0 wr w8 := Eff.of hb
        have hz8 : wr.heap.size ≤ w8.heap.size := he8.size
        have b8 : Below W.heap.size W w8 := b7.trans (he8.below b7.size (by omega))
        replace hO := Own.keep hO he8 (by omega)
        replace res_f0 := (he8.frozen res_0 (by simp only; omega)).trans res_f0
        replace res_f1 := (he8.frozen res_1 (by simp only; omega)).trans res_f1
        replace res_0 := he8.cell res_0 (by simp only; omega)
        replace res_1 := he8.cell res_1 (by simp only; omega)
        replace k0 := he8.cell k0 (by simp only; omega)
        replace k1 := he8.cell k1 (by simp only; omega)
        replace res_l := Nat.lt_of_lt_of_le res_l hz8
        clear hb
        have HR3 : Hid (ledOk p os = ledOk p (mrgU ls ps)) := Lib.hid (by rw [HR2.out])
        rcases hk : ledOk p os with _ | _
        · skip
          go_wp2
          refine bodyPost_ret (v := .tuple #[.agg #[.int .i64 0, .slice none 0 0], .int .i64 3]) (by simp [results, Try.results32, go_sem, *]) rfl ?_
          rw [show postR q ls p ps = (0, [], 3) by rw [HPS.out, ← HR3.out, hk]; rfl]
          exact made_zero (b := W.heap.size + 1 + 1) 3 b8 (eff_set2 _ _ _ _) (by omega)
        · skip
          go_wp2
          refine bodyPost_ret (v := .tuple #[.agg #[.int .i64 p, .slice Ao no co], .int .i64 0]) (by simp [results, Try.results32, go_sem, *]) rfl ?_
          rw [show postR q ls p ps = (p, os, 0) by rw [HPS.out, ← HR3.out, hk, HR2.out]; rfl]
          exact made_led (b := W.heap.size + 1 + 1) hO b8 (eff_set2 _ _ _ _) (by omega) (by omega) (by omega)
end Go.Proofs.Ytgjphejmppehjaa
