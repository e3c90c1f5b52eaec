/- DiskNew, in the program and in the reference. -/
import Derived.Test.YtblenfhacaecmaaDok
namespace Go.Proofs.Ytblenfhacaecmaa
open Go.RowKit
/-- A disk of the call's own, and whether it was made. -/
def MadeDkT (dc : List (List UInt8)) (dw : List (Int × List UInt8)) (ok : Bool) (w : World) (e : Ending) (w' : World) : Prop :=
  ∃ Ac nc cc Aw nw cw cs ws, e = .returned (.tuple #[.agg #[.slice Ac nc cc, .slice Aw nw cw], .bool ok]) ∧ cs.map Ce.d = dc ∧ ws.map Wr.d = dw ∧ OwnDk w' w.heap.size w'.heap.size Ac nc cc Aw nw cw cs ws ∧ Below w.heap.size w w'
theorem made_none {W w : World} (ok : Bool) (h : Below W.heap.size W w) : MadeDkT [] [] ok W (.returned (.tuple #[.agg #[.slice none 0 0, .slice none 0 0], .bool ok])) w :=
  ⟨none, 0, 0, none, 0, 0, [], [], rfl, rfl, rfl, ⟨w.heap.size, OwnR.nil h.size (Nat.le_refl _), OwnR.nil (Nat.le_refl _) (Nat.le_refl _)⟩, h⟩
theorem zero_cells (n : Nat) : (madeCells (Value.agg #[.slice none 0 0]).cells (n * 1)).toList = (List.replicate n (⟨none, 0, 0, []⟩ : Ce)).flatMap Ce.f := by
  have e : (List.replicate n (⟨none, 0, 0, []⟩ : Ce)).flatMap Ce.f = List.replicate n (.slice none 0 0) := by
    induction n with
    | zero => rfl
    | succ n ih => rw [List.replicate_succ, List.flatMap_cons, ih]; rfl
  rw [e]
  apply List.ext_getElem
  · simp [madeCells]
  · intro k h1 h2
    simp [madeCells, Value.cells, Nat.mod_one]
theorem own_zeros {w : World} {et lo n : Nat} {A : Option Addr} (h : w.ownsRow lo et 1 (.slice A n n) n (madeCells (Value.agg #[.slice none 0 0]).cells (n * 1)).toList) (hlo : lo ≤ w.heap.size) : OwnR et 1 5 1 Ce.f Ce.g w lo w.heap.size A n n (List.replicate n (⟨none, 0, 0, []⟩ : Ce)) := by
  rw [zero_cells] at h
  refine ⟨⟨h, fun k hk => (h.lt k hk).2, Nat.le_refl _⟩, ⟨fun x hx => ?_, fun x hx b hb => ?_, fun i j x y b hi hj hx => ?_, Nat.le_refl _, hlo⟩⟩
  · rw [List.eq_of_mem_replicate hx]; exact Own.nil _ _ _ _ _ (Nat.le_refl _)
  · rw [List.eq_of_mem_replicate hx] at hb; simp [Sl.blk, Sl.v, Ce.g, Value.ownBlock] at hb
  · rw [List.eq_of_mem_replicate (List.mem_of_getElem? hi)] at hx; simp [Sl.blk, Sl.v, Ce.g, Value.ownBlock] at hx
theorem eff_set2d (w : World) (b : Nat) (u v : Value) : Eff b (b + 1) w ((w.setCell ⟨b, 0, none⟩ u).setCell ⟨b, 1, none⟩ v) := (eff_set w b 0 u).trans (eff_set _ b 1 v)
theorem made_new {n k b : Nat} {W w1 w2 : World} (h : w1.ownsRow (b + 1) 76 1 (.slice (some ⟨k, 0, none⟩) n n) n (madeCells (Value.agg #[.slice none 0 0]).cells (n * 1)).toList) (hb : Below W.heap.size W w1) (hb0 : W.heap.size ≤ b) (hb1 : b + 1 ≤ w1.heap.size) (hk : k = b + 1) (he : Eff b (b + 1) w1 w2) : MadeDkT (List.replicate n []) [] true W (.returned (.tuple #[.agg #[.slice (some ⟨b + 1, 0, none⟩) n n, .slice none 0 0], .bool true])) w2 := by
  subst hk
  have h1 := own_zeros h hb1
  have h2 := h1.keep he (by omega)
  have h3 := h2.wide (lo' := W.heap.size) (by omega) he.size (Nat.le_refl _)
  exact ⟨_, n, n, none, 0, 0, _, [], rfl, by simp [Ce.d], rfl, ⟨w2.heap.size, h3, OwnR.nil (Nat.le_refl _) (Nat.le_refl _)⟩, hb.trans (he.below hb.size (.inl hb0))⟩
def newC (n : Int) : List (List UInt8) := if 1 ≤ n ∧ n ≤ 600 then List.replicate n.toNat [] else []
set_option maxHeartbeats 1000000 in
set_option maxRecDepth 100000 in
theorem spec_DiskNew (m : Int) (W : World) :
    Calls Try.prog 86 #[.int .i64 m] W (MadeDkT (newC m) [] (inB m 1 600) W) := by
  obtain ⟨i0, hi0, hz0, hz1, hz2⟩ := info_parts info_Cell
  have hd : ∀ a b : Int, a < b → decide (a < b) = true := fun a b h => by simpa using h
  clear hd
  by_cases h1 : m < 1
  · rw [show newC m = [] by unfold newC; rw [if_neg (by omega)], show inB m 1 600 = false from inB_false (.inl h1)]
    go_enter Try.func86, Try.ntmps86
    go_wp2
    refine bodyPost_ret (v := .tuple #[.agg #[.slice none 0 0, .slice none 0 0], .bool false]) (by simp [results, Try.results86, go_sem, *]) rfl ?_
    exact made_none _ (by repeat' (first | exact Below.refl _ _ | (refine Below.alloc ?_ ?_ _) | (refine Below.drew ?_) | (refine Below.setCell ?_ ?_ _) | (refine Below.trans ?_ (Below.mono (by assumption) ?_)) | omega | (simp; omega) | (simp; done) | exact Below.size (by assumption) | (refine Nat.le_trans ?_ (Below.size (by assumption)))))
  by_cases h2 : 600 < m
  · rw [show newC m = [] by unfold newC; rw [if_neg (by omega)], show inB m 1 600 = false from inB_false (.inr h2)]
    go_enter Try.func86, Try.ntmps86
    go_wp2
    refine bodyPost_ret (v := .tuple #[.agg #[.slice none 0 0, .slice none 0 0], .bool false]) (by simp [results, Try.results86, go_sem, *]) rfl ?_
    exact made_none _ (by repeat' (first | exact Below.refl _ _ | (refine Below.alloc ?_ ?_ _) | (refine Below.drew ?_) | (refine Below.setCell ?_ ?_ _) | (refine Below.trans ?_ (Below.mono (by assumption) ?_)) | omega | (simp; omega) | (simp; done) | exact Below.size (by assumption) | (refine Nat.le_trans ?_ (Below.size (by assumption)))))
  obtain ⟨n, rfl⟩ : ∃ n : Nat, m = n := ⟨m.toNat, by omega⟩
  rw [show newC (n : Int) = List.replicate n [] by unfold newC; rw [if_pos (by omega)]; simp, show inB (n : Int) 1 600 = true from inB_true (by omega) (by omega)]
  have hd1 : decide ((n : Int) < 1) = false := by simp; omega
  have hd2 : decide ((600 : Int) < (n : Int)) = false := by simp; omega
  have hn1 : 1 ≤ n := by omega
  have hn2 : n ≤ 600 := by omega
  clear h1 h2
  go_enter Try.func86, Try.ntmps86
  go_wp2_with (first | (at_make; refine wpList_make_full _ rfl _ _ 30 rfl (W.heap.size + 1) 76 i0 (.agg #[.slice none 0 0]) 1 Try.underlying30 hi0 hz0 hz1 _ _ _ _ n rfl rfl rfl rfl (by rw [hz2]; omega) (by unfold maxLen; omega) (by simp) ?_; intro w1 hown1 hg1; have he1 : Eff 0 0 (W.alloc (.cells #[.slice none 0 0, .slice none 0 0] 33)) w1 := Eff.of_grown hg1 (fun k hk => by cases hk); have r0 := he1.cell (var_cell W #[.slice none 0 0, .slice none 0 0] 33 0 _ rfl) (.inr (Nat.zero_le _)); have r1 := he1.cell (var_cell W #[.slice none 0 0, .slice none 0 0] 33 1 _ rfl) (.inr (Nat.zero_le _)); have q0 := (he1.frozen (var_cell W #[.slice none 0 0, .slice none 0 0] 33 0 _ rfl) (.inr (Nat.zero_le _))).trans (var_frozen _ _ _ _); have q1 := (he1.frozen (var_cell W #[.slice none 0 0, .slice none 0 0] 33 1 _ rfl) (.inr (Nat.zero_le _))).trans (var_frozen _ _ _ _); clear hg1))
  refine bodyPost_ret (v := .tuple #[.agg #[.slice (some ⟨W.heap.size + 1, 0, none⟩) n n, .slice none 0 0], .bool true]) (by simp [results, Try.results86, go_sem, *]) rfl ?_
  refine made_new hown1 (((Below.refl _ _).alloc (Nat.le_refl _) _).trans (he1.below (by simp) (.inr (Nat.zero_le _)))) (Nat.le_refl _) (by have := he1.size; simp at this; omega) (by simp) (eff_set2d _ _ _ _)
end Go.Proofs.Ytblenfhacaecmaa
