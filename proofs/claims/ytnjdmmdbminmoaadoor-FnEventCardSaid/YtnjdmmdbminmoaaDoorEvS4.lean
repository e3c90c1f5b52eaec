/- EventOk: the reference, prices -/
import Derived.Test.YtnjdmmdbminmoaaDoorEv
namespace Go.Proofs.YtnjdmmdbminmoaaDoor
open Go.RowKit
set_option maxHeartbeats 4000000 in
set_option maxRecDepth 100000 in
theorem spec_EventOk_four (key ch to amt fee : Int) (y : Bool) (c0 c1 c2 c3 c4 c5 : Bool) (r : Bool) (HE : Hid (evH 4 = (c0, c1, c2, c3, c4, c5))) (HR : Hid (evOkL c0 c1 c2 c3 c4 c5 4 0 1000000 key ch to amt fee y = r)) (W : World) : Calls Tryd.prog 22 #[.agg #[.int .i64 4, .int .i64 key, .int .i64 ch, .int .i64 to, .int .i64 amt, .int .i64 fee, .bool y]] W fun e w' => e = .returned (.bool r) ∧ Below W.heap.size W w' := by
  rcases e0 : fld c0 key 1 1000000 with _ | _
  · skip
    have HB := Lib.hid (show false = r by rw [← HR.out]; rw [evOkL_in (by omega)]; simp [e0])
    go_enter Tryd.func22, Tryd.ntmps22
    go_wp2_with (go_at_call 45; refine (l04HasC 4 (by omega) (by omega) (W.heap.size + 1) _ (by simp)).mono ?_; rintro e w1 ⟨rfl, g0, g1, g2, g3, g4, g5, hE⟩; rw [HE.out] at g0 g1 g2 g3 g4 g5; have a0 := hE.cell (p := ⟨W.heap.size, 0, none⟩) (var_cell W _ _ 0 _ rfl) (by simp only; omega); have a1 := hE.cell (p := ⟨W.heap.size, 1, none⟩) (var_cell W _ _ 1 _ rfl) (by simp only; omega); have a2 := hE.cell (p := ⟨W.heap.size, 2, none⟩) (var_cell W _ _ 2 _ rfl) (by simp only; omega); have a3 := hE.cell (p := ⟨W.heap.size, 3, none⟩) (var_cell W _ _ 3 _ rfl) (by simp only; omega); have a4 := hE.cell (p := ⟨W.heap.size, 4, none⟩) (var_cell W _ _ 4 _ rfl) (by simp only; omega); have a5 := hE.cell (p := ⟨W.heap.size, 5, none⟩) (var_cell W _ _ 5 _ rfl) (by simp only; omega); have a6 := hE.cell (p := ⟨W.heap.size, 6, none⟩) (var_cell W _ _ 6 _ rfl) (by simp only; omega); have b1 := ev_bel hE; clear hE)
    go_quiet ((go_at_call 51; first | (with_reducible exact Calls.quiet_of_same (l04Field_lit e0 _))))
    replace g0 := cell_dr nq g0
    replace g1 := cell_dr nq g1
    replace g2 := cell_dr nq g2
    replace g3 := cell_dr nq g3
    replace g4 := cell_dr nq g4
    replace g5 := cell_dr nq g5
    replace a0 := cell_dr nq a0
    replace a1 := cell_dr nq a1
    replace a2 := cell_dr nq a2
    replace a3 := cell_dr nq a3
    replace a4 := cell_dr nq a4
    replace a5 := cell_dr nq a5
    replace a6 := cell_dr nq a6
    replace b1 := below_dr b1 nq
    generalize w1.drewN nq = w2 at *
    go_wp2
    go_ret
    exact ⟨ret_boolS HB.out, b1⟩
  · skip
    rcases e1 : fld c1 ch 1 99 with _ | _
    · skip
      have HB := Lib.hid (show false = r by rw [← HR.out]; rw [evOkL_in (by omega)]; simp [e0, e1])
      go_enter Tryd.func22, Tryd.ntmps22
      go_wp2_with (go_at_call 45; refine (l04HasC 4 (by omega) (by omega) (W.heap.size + 1) _ (by simp)).mono ?_; rintro e w1 ⟨rfl, g0, g1, g2, g3, g4, g5, hE⟩; rw [HE.out] at g0 g1 g2 g3 g4 g5; have a0 := hE.cell (p := ⟨W.heap.size, 0, none⟩) (var_cell W _ _ 0 _ rfl) (by simp only; omega); have a1 := hE.cell (p := ⟨W.heap.size, 1, none⟩) (var_cell W _ _ 1 _ rfl) (by simp only; omega); have a2 := hE.cell (p := ⟨W.heap.size, 2, none⟩) (var_cell W _ _ 2 _ rfl) (by simp only; omega); have a3 := hE.cell (p := ⟨W.heap.size, 3, none⟩) (var_cell W _ _ 3 _ rfl) (by simp only; omega); have a4 := hE.cell (p := ⟨W.heap.size, 4, none⟩) (var_cell W _ _ 4 _ rfl) (by simp only; omega); have a5 := hE.cell (p := ⟨W.heap.size, 5, none⟩) (var_cell W _ _ 5 _ rfl) (by simp only; omega); have a6 := hE.cell (p := ⟨W.heap.size, 6, none⟩) (var_cell W _ _ 6 _ rfl) (by simp only; omega); have b1 := ev_bel hE; clear hE)
      go_quiet ((go_at_call 51; first | (with_reducible exact Calls.quiet_of_same (l04Field_lit e0 _)) | (with_reducible exact Calls.quiet_of_same (l04Field_lit e1 _))))
      replace g0 := cell_dr nq g0
      replace g1 := cell_dr nq g1
      replace g2 := cell_dr nq g2
      replace g3 := cell_dr nq g3
      replace g4 := cell_dr nq g4
      replace g5 := cell_dr nq g5
      replace a0 := cell_dr nq a0
      replace a1 := cell_dr nq a1
      replace a2 := cell_dr nq a2
      replace a3 := cell_dr nq a3
      replace a4 := cell_dr nq a4
      replace a5 := cell_dr nq a5
      replace a6 := cell_dr nq a6
      replace b1 := below_dr b1 nq
      generalize w1.drewN nq = w2 at *
      go_wp2
      go_ret
      exact ⟨ret_boolS HB.out, b1⟩
    · skip
      rcases e2 : fld c2 to 1 99 with _ | _
      · skip
        have HB := Lib.hid (show false = r by rw [← HR.out]; rw [evOkL_in (by omega)]; simp [e0, e1, e2])
        go_enter Tryd.func22, Tryd.ntmps22
        go_wp2_with (go_at_call 45; refine (l04HasC 4 (by omega) (by omega) (W.heap.size + 1) _ (by simp)).mono ?_; rintro e w1 ⟨rfl, g0, g1, g2, g3, g4, g5, hE⟩; rw [HE.out] at g0 g1 g2 g3 g4 g5; have a0 := hE.cell (p := ⟨W.heap.size, 0, none⟩) (var_cell W _ _ 0 _ rfl) (by simp only; omega); have a1 := hE.cell (p := ⟨W.heap.size, 1, none⟩) (var_cell W _ _ 1 _ rfl) (by simp only; omega); have a2 := hE.cell (p := ⟨W.heap.size, 2, none⟩) (var_cell W _ _ 2 _ rfl) (by simp only; omega); have a3 := hE.cell (p := ⟨W.heap.size, 3, none⟩) (var_cell W _ _ 3 _ rfl) (by simp only; omega); have a4 := hE.cell (p := ⟨W.heap.size, 4, none⟩) (var_cell W _ _ 4 _ rfl) (by simp only; omega); have a5 := hE.cell (p := ⟨W.heap.size, 5, none⟩) (var_cell W _ _ 5 _ rfl) (by simp only; omega); have a6 := hE.cell (p := ⟨W.heap.size, 6, none⟩) (var_cell W _ _ 6 _ rfl) (by simp only; omega); have b1 := ev_bel hE; clear hE)
        go_quiet ((go_at_call 51; first | (with_reducible exact Calls.quiet_of_same (l04Field_lit e0 _)) | (with_reducible exact Calls.quiet_of_same (l04Field_lit e1 _)) | (with_reducible exact Calls.quiet_of_same (l04Field_lit e2 _))))
        replace g0 := cell_dr nq g0
        replace g1 := cell_dr nq g1
        replace g2 := cell_dr nq g2
        replace g3 := cell_dr nq g3
        replace g4 := cell_dr nq g4
        replace g5 := cell_dr nq g5
        replace a0 := cell_dr nq a0
        replace a1 := cell_dr nq a1
        replace a2 := cell_dr nq a2
        replace a3 := cell_dr nq a3
        replace a4 := cell_dr nq a4
        replace a5 := cell_dr nq a5
        replace a6 := cell_dr nq a6
        replace b1 := below_dr b1 nq
        generalize w1.drewN nq = w2 at *
        go_wp2
        go_ret
        exact ⟨ret_boolS HB.out, b1⟩
      · skip
        rcases c2 with _ | _
        · skip
          rcases e3 : fld c3 amt 0 1125899906842624 with _ | _
          · skip
            have HB := Lib.hid (show false = r by rw [← HR.out]; rw [evOkL_in (by omega)]; simp [e0, e1, e2, e3])
            go_enter Tryd.func22, Tryd.ntmps22
            go_wp2_with (go_at_call 45; refine (l04HasC 4 (by omega) (by omega) (W.heap.size + 1) _ (by simp)).mono ?_; rintro e w1 ⟨rfl, g0, g1, g2, g3, g4, g5, hE⟩; rw [HE.out] at g0 g1 g2 g3 g4 g5; have a0 := hE.cell (p := ⟨W.heap.size, 0, none⟩) (var_cell W _ _ 0 _ rfl) (by simp only; omega); have a1 := hE.cell (p := ⟨W.heap.size, 1, none⟩) (var_cell W _ _ 1 _ rfl) (by simp only; omega); have a2 := hE.cell (p := ⟨W.heap.size, 2, none⟩) (var_cell W _ _ 2 _ rfl) (by simp only; omega); have a3 := hE.cell (p := ⟨W.heap.size, 3, none⟩) (var_cell W _ _ 3 _ rfl) (by simp only; omega); have a4 := hE.cell (p := ⟨W.heap.size, 4, none⟩) (var_cell W _ _ 4 _ rfl) (by simp only; omega); have a5 := hE.cell (p := ⟨W.heap.size, 5, none⟩) (var_cell W _ _ 5 _ rfl) (by simp only; omega); have a6 := hE.cell (p := ⟨W.heap.size, 6, none⟩) (var_cell W _ _ 6 _ rfl) (by simp only; omega); have b1 := ev_bel hE; clear hE)
            go_quiet ((go_at_call 51; first | (with_reducible exact Calls.quiet_of_same (l04Field_lit e0 _)) | (with_reducible exact Calls.quiet_of_same (l04Field_lit e1 _)) | (with_reducible exact Calls.quiet_of_same (l04Field_lit e2 _))))
            replace g0 := cell_dr nq g0
            replace g1 := cell_dr nq g1
            replace g2 := cell_dr nq g2
            replace g3 := cell_dr nq g3
            replace g4 := cell_dr nq g4
            replace g5 := cell_dr nq g5
            replace a0 := cell_dr nq a0
            replace a1 := cell_dr nq a1
            replace a2 := cell_dr nq a2
            replace a3 := cell_dr nq a3
            replace a4 := cell_dr nq a4
            replace a5 := cell_dr nq a5
            replace a6 := cell_dr nq a6
            replace b1 := below_dr b1 nq
            generalize w1.drewN nq = w2 at *
            go_wp2
            go_quiet ((go_at_call 51; first | (with_reducible exact Calls.quiet_of_same (l04Field_lit e3 _)) | (with_reducible exact Calls.quiet_of_same (l04Field_lit e4 _))))
            go_wp2
            go_ret
            exact ⟨ret_boolS HB.out, below_dr b1 _⟩
          · skip
            rcases e4 : fld c4 fee 0 1000000 with _ | _
            · skip
              have HB := Lib.hid (show false = r by rw [← HR.out]; rw [evOkL_in (by omega)]; simp [e0, e1, e2, e3, e4])
              go_enter Tryd.func22, Tryd.ntmps22
              go_wp2_with (go_at_call 45; refine (l04HasC 4 (by omega) (by omega) (W.heap.size + 1) _ (by simp)).mono ?_; rintro e w1 ⟨rfl, g0, g1, g2, g3, g4, g5, hE⟩; rw [HE.out] at g0 g1 g2 g3 g4 g5; have a0 := hE.cell (p := ⟨W.heap.size, 0, none⟩) (var_cell W _ _ 0 _ rfl) (by simp only; omega); have a1 := hE.cell (p := ⟨W.heap.size, 1, none⟩) (var_cell W _ _ 1 _ rfl) (by simp only; omega); have a2 := hE.cell (p := ⟨W.heap.size, 2, none⟩) (var_cell W _ _ 2 _ rfl) (by simp only; omega); have a3 := hE.cell (p := ⟨W.heap.size, 3, none⟩) (var_cell W _ _ 3 _ rfl) (by simp only; omega); have a4 := hE.cell (p := ⟨W.heap.size, 4, none⟩) (var_cell W _ _ 4 _ rfl) (by simp only; omega); have a5 := hE.cell (p := ⟨W.heap.size, 5, none⟩) (var_cell W _ _ 5 _ rfl) (by simp only; omega); have a6 := hE.cell (p := ⟨W.heap.size, 6, none⟩) (var_cell W _ _ 6 _ rfl) (by simp only; omega); have b1 := ev_bel hE; clear hE)
              go_quiet ((go_at_call 51; first | (with_reducible exact Calls.quiet_of_same (l04Field_lit e0 _)) | (with_reducible exact Calls.quiet_of_same (l04Field_lit e1 _)) | (with_reducible exact Calls.quiet_of_same (l04Field_lit e2 _))))
              replace g0 := cell_dr nq g0
              replace g1 := cell_dr nq g1
              replace g2 := cell_dr nq g2
              replace g3 := cell_dr nq g3
              replace g4 := cell_dr nq g4
              replace g5 := cell_dr nq g5
              replace a0 := cell_dr nq a0
              replace a1 := cell_dr nq a1
              replace a2 := cell_dr nq a2
              replace a3 := cell_dr nq a3
              replace a4 := cell_dr nq a4
              replace a5 := cell_dr nq a5
              replace a6 := cell_dr nq a6
              replace b1 := below_dr b1 nq
              generalize w1.drewN nq = w2 at *
              go_wp2
              go_quiet ((go_at_call 51; first | (with_reducible exact Calls.quiet_of_same (l04Field_lit e3 _)) | (with_reducible exact Calls.quiet_of_same (l04Field_lit e4 _))))
              go_wp2
              go_ret
              exact ⟨ret_boolS HB.out, below_dr b1 _⟩
            · skip
              rcases c5 with _ | _
              · rcases y with _ | _
                · skip
                  have HB := Lib.hid (show true = r by rw [← HR.out]; rw [evOkL_in (by omega)]; simp [e0, e1, e2, e3, e4])
                  go_enter Tryd.func22, Tryd.ntmps22
                  go_wp2_with (go_at_call 45; refine (l04HasC 4 (by omega) (by omega) (W.heap.size + 1) _ (by simp)).mono ?_; rintro e w1 ⟨rfl, g0, g1, g2, g3, g4, g5, hE⟩; rw [HE.out] at g0 g1 g2 g3 g4 g5; have a0 := hE.cell (p := ⟨W.heap.size, 0, none⟩) (var_cell W _ _ 0 _ rfl) (by simp only; omega); have a1 := hE.cell (p := ⟨W.heap.size, 1, none⟩) (var_cell W _ _ 1 _ rfl) (by simp only; omega); have a2 := hE.cell (p := ⟨W.heap.size, 2, none⟩) (var_cell W _ _ 2 _ rfl) (by simp only; omega); have a3 := hE.cell (p := ⟨W.heap.size, 3, none⟩) (var_cell W _ _ 3 _ rfl) (by simp only; omega); have a4 := hE.cell (p := ⟨W.heap.size, 4, none⟩) (var_cell W _ _ 4 _ rfl) (by simp only; omega); have a5 := hE.cell (p := ⟨W.heap.size, 5, none⟩) (var_cell W _ _ 5 _ rfl) (by simp only; omega); have a6 := hE.cell (p := ⟨W.heap.size, 6, none⟩) (var_cell W _ _ 6 _ rfl) (by simp only; omega); have b1 := ev_bel hE; clear hE)
                  go_quiet ((go_at_call 51; first | (with_reducible exact Calls.quiet_of_same (l04Field_lit e0 _)) | (with_reducible exact Calls.quiet_of_same (l04Field_lit e1 _)) | (with_reducible exact Calls.quiet_of_same (l04Field_lit e2 _))))
                  replace g0 := cell_dr nq g0
                  replace g1 := cell_dr nq g1
                  replace g2 := cell_dr nq g2
                  replace g3 := cell_dr nq g3
                  replace g4 := cell_dr nq g4
                  replace g5 := cell_dr nq g5
                  replace a0 := cell_dr nq a0
                  replace a1 := cell_dr nq a1
                  replace a2 := cell_dr nq a2
                  replace a3 := cell_dr nq a3
                  replace a4 := cell_dr nq a4
                  replace a5 := cell_dr nq a5
                  replace a6 := cell_dr nq a6
                  replace b1 := below_dr b1 nq
                  generalize w1.drewN nq = w2 at *
                  go_wp2
                  go_quiet ((go_at_call 51; first | (with_reducible exact Calls.quiet_of_same (l04Field_lit e3 _)) | (with_reducible exact Calls.quiet_of_same (l04Field_lit e4 _))))
                  go_wp2
                  go_ret
                  exact ⟨ret_boolS HB.out, below_dr b1 _⟩
                · skip
                  have HB := Lib.hid (show false = r by rw [← HR.out]; rw [evOkL_in (by omega)]; simp [e0, e1, e2, e3, e4])
                  go_enter Tryd.func22, Tryd.ntmps22
                  go_wp2_with (go_at_call 45; refine (l04HasC 4 (by omega) (by omega) (W.heap.size + 1) _ (by simp)).mono ?_; rintro e w1 ⟨rfl, g0, g1, g2, g3, g4, g5, hE⟩; rw [HE.out] at g0 g1 g2 g3 g4 g5; have a0 := hE.cell (p := ⟨W.heap.size, 0, none⟩) (var_cell W _ _ 0 _ rfl) (by simp only; omega); have a1 := hE.cell (p := ⟨W.heap.size, 1, none⟩) (var_cell W _ _ 1 _ rfl) (by simp only; omega); have a2 := hE.cell (p := ⟨W.heap.size, 2, none⟩) (var_cell W _ _ 2 _ rfl) (by simp only; omega); have a3 := hE.cell (p := ⟨W.heap.size, 3, none⟩) (var_cell W _ _ 3 _ rfl) (by simp only; omega); have a4 := hE.cell (p := ⟨W.heap.size, 4, none⟩) (var_cell W _ _ 4 _ rfl) (by simp only; omega); have a5 := hE.cell (p := ⟨W.heap.size, 5, none⟩) (var_cell W _ _ 5 _ rfl) (by simp only; omega); have a6 := hE.cell (p := ⟨W.heap.size, 6, none⟩) (var_cell W _ _ 6 _ rfl) (by simp only; omega); have b1 := ev_bel hE; clear hE)
                  go_quiet ((go_at_call 51; first | (with_reducible exact Calls.quiet_of_same (l04Field_lit e0 _)) | (with_reducible exact Calls.quiet_of_same (l04Field_lit e1 _)) | (with_reducible exact Calls.quiet_of_same (l04Field_lit e2 _))))
                  replace g0 := cell_dr nq g0
                  replace g1 := cell_dr nq g1
                  replace g2 := cell_dr nq g2
                  replace g3 := cell_dr nq g3
                  replace g4 := cell_dr nq g4
                  replace g5 := cell_dr nq g5
                  replace a0 := cell_dr nq a0
                  replace a1 := cell_dr nq a1
                  replace a2 := cell_dr nq a2
                  replace a3 := cell_dr nq a3
                  replace a4 := cell_dr nq a4
                  replace a5 := cell_dr nq a5
                  replace a6 := cell_dr nq a6
                  replace b1 := below_dr b1 nq
                  generalize w1.drewN nq = w2 at *
                  go_wp2
                  go_quiet ((go_at_call 51; first | (with_reducible exact Calls.quiet_of_same (l04Field_lit e3 _)) | (with_reducible exact Calls.quiet_of_same (l04Field_lit e4 _))))
                  go_wp2
                  go_ret
                  exact ⟨ret_boolS HB.out, below_dr b1 _⟩
              · skip
                have HB := Lib.hid (show true = r by rw [← HR.out]; rw [evOkL_in (by omega)]; simp [e0, e1, e2, e3, e4])
                go_enter Tryd.func22, Tryd.ntmps22
                go_wp2_with (go_at_call 45; refine (l04HasC 4 (by omega) (by omega) (W.heap.size + 1) _ (by simp)).mono ?_; rintro e w1 ⟨rfl, g0, g1, g2, g3, g4, g5, hE⟩; rw [HE.out] at g0 g1 g2 g3 g4 g5; have a0 := hE.cell (p := ⟨W.heap.size, 0, none⟩) (var_cell W _ _ 0 _ rfl) (by simp only; omega); have a1 := hE.cell (p := ⟨W.heap.size, 1, none⟩) (var_cell W _ _ 1 _ rfl) (by simp only; omega); have a2 := hE.cell (p := ⟨W.heap.size, 2, none⟩) (var_cell W _ _ 2 _ rfl) (by simp only; omega); have a3 := hE.cell (p := ⟨W.heap.size, 3, none⟩) (var_cell W _ _ 3 _ rfl) (by simp only; omega); have a4 := hE.cell (p := ⟨W.heap.size, 4, none⟩) (var_cell W _ _ 4 _ rfl) (by simp only; omega); have a5 := hE.cell (p := ⟨W.heap.size, 5, none⟩) (var_cell W _ _ 5 _ rfl) (by simp only; omega); have a6 := hE.cell (p := ⟨W.heap.size, 6, none⟩) (var_cell W _ _ 6 _ rfl) (by simp only; omega); have b1 := ev_bel hE; clear hE)
                go_quiet ((go_at_call 51; first | (with_reducible exact Calls.quiet_of_same (l04Field_lit e0 _)) | (with_reducible exact Calls.quiet_of_same (l04Field_lit e1 _)) | (with_reducible exact Calls.quiet_of_same (l04Field_lit e2 _))))
                replace g0 := cell_dr nq g0
                replace g1 := cell_dr nq g1
                replace g2 := cell_dr nq g2
                replace g3 := cell_dr nq g3
                replace g4 := cell_dr nq g4
                replace g5 := cell_dr nq g5
                replace a0 := cell_dr nq a0
                replace a1 := cell_dr nq a1
                replace a2 := cell_dr nq a2
                replace a3 := cell_dr nq a3
                replace a4 := cell_dr nq a4
                replace a5 := cell_dr nq a5
                replace a6 := cell_dr nq a6
                replace b1 := below_dr b1 nq
                generalize w1.drewN nq = w2 at *
                go_wp2
                go_quiet ((go_at_call 51; first | (with_reducible exact Calls.quiet_of_same (l04Field_lit e3 _)) | (with_reducible exact Calls.quiet_of_same (l04Field_lit e4 _))))
                go_wp2
                go_ret
                exact ⟨ret_boolS HB.out, below_dr b1 _⟩
        · rcases e6 : (ch == to) with _ | _
          · skip
            rcases e3 : fld c3 amt 0 1125899906842624 with _ | _
            · skip
              have HB := Lib.hid (show false = r by rw [← HR.out]; rw [evOkL_in (by omega)]; simp [e0, e1, e2, e6, e3])
              go_enter Tryd.func22, Tryd.ntmps22
              go_wp2_with (go_at_call 45; refine (l04HasC 4 (by omega) (by omega) (W.heap.size + 1) _ (by simp)).mono ?_; rintro e w1 ⟨rfl, g0, g1, g2, g3, g4, g5, hE⟩; rw [HE.out] at g0 g1 g2 g3 g4 g5; have a0 := hE.cell (p := ⟨W.heap.size, 0, none⟩) (var_cell W _ _ 0 _ rfl) (by simp only; omega); have a1 := hE.cell (p := ⟨W.heap.size, 1, none⟩) (var_cell W _ _ 1 _ rfl) (by simp only; omega); have a2 := hE.cell (p := ⟨W.heap.size, 2, none⟩) (var_cell W _ _ 2 _ rfl) (by simp only; omega); have a3 := hE.cell (p := ⟨W.heap.size, 3, none⟩) (var_cell W _ _ 3 _ rfl) (by simp only; omega); have a4 := hE.cell (p := ⟨W.heap.size, 4, none⟩) (var_cell W _ _ 4 _ rfl) (by simp only; omega); have a5 := hE.cell (p := ⟨W.heap.size, 5, none⟩) (var_cell W _ _ 5 _ rfl) (by simp only; omega); have a6 := hE.cell (p := ⟨W.heap.size, 6, none⟩) (var_cell W _ _ 6 _ rfl) (by simp only; omega); have b1 := ev_bel hE; clear hE)
              go_quiet ((go_at_call 51; first | (with_reducible exact Calls.quiet_of_same (l04Field_lit e0 _)) | (with_reducible exact Calls.quiet_of_same (l04Field_lit e1 _)) | (with_reducible exact Calls.quiet_of_same (l04Field_lit e2 _))))
              replace g0 := cell_dr nq g0
              replace g1 := cell_dr nq g1
              replace g2 := cell_dr nq g2
              replace g3 := cell_dr nq g3
              replace g4 := cell_dr nq g4
              replace g5 := cell_dr nq g5
              replace a0 := cell_dr nq a0
              replace a1 := cell_dr nq a1
              replace a2 := cell_dr nq a2
              replace a3 := cell_dr nq a3
              replace a4 := cell_dr nq a4
              replace a5 := cell_dr nq a5
              replace a6 := cell_dr nq a6
              replace b1 := below_dr b1 nq
              generalize w1.drewN nq = w2 at *
              go_wp2
              go_quiet ((go_at_call 51; first | (with_reducible exact Calls.quiet_of_same (l04Field_lit e3 _)) | (with_reducible exact Calls.quiet_of_same (l04Field_lit e4 _))))
              go_wp2
              go_ret
              exact ⟨ret_boolS HB.out, below_dr b1 _⟩
            · skip
              rcases e4 : fld c4 fee 0 1000000 with _ | _
              · skip
                have HB := Lib.hid (show false = r by rw [← HR.out]; rw [evOkL_in (by omega)]; simp [e0, e1, e2, e6, e3, e4])
                go_enter Tryd.func22, Tryd.ntmps22
                go_wp2_with (go_at_call 45; refine (l04HasC 4 (by omega) (by omega) (W.heap.size + 1) _ (by simp)).mono ?_; rintro e w1 ⟨rfl, g0, g1, g2, g3, g4, g5, hE⟩; rw [HE.out] at g0 g1 g2 g3 g4 g5; have a0 := hE.cell (p := ⟨W.heap.size, 0, none⟩) (var_cell W _ _ 0 _ rfl) (by simp only; omega); have a1 := hE.cell (p := ⟨W.heap.size, 1, none⟩) (var_cell W _ _ 1 _ rfl) (by simp only; omega); have a2 := hE.cell (p := ⟨W.heap.size, 2, none⟩) (var_cell W _ _ 2 _ rfl) (by simp only; omega); have a3 := hE.cell (p := ⟨W.heap.size, 3, none⟩) (var_cell W _ _ 3 _ rfl) (by simp only; omega); have a4 := hE.cell (p := ⟨W.heap.size, 4, none⟩) (var_cell W _ _ 4 _ rfl) (by simp only; omega); have a5 := hE.cell (p := ⟨W.heap.size, 5, none⟩) (var_cell W _ _ 5 _ rfl) (by simp only; omega); have a6 := hE.cell (p := ⟨W.heap.size, 6, none⟩) (var_cell W _ _ 6 _ rfl) (by simp only; omega); have b1 := ev_bel hE; clear hE)
                go_quiet ((go_at_call 51; first | (with_reducible exact Calls.quiet_of_same (l04Field_lit e0 _)) | (with_reducible exact Calls.quiet_of_same (l04Field_lit e1 _)) | (with_reducible exact Calls.quiet_of_same (l04Field_lit e2 _))))
                replace g0 := cell_dr nq g0
                replace g1 := cell_dr nq g1
                replace g2 := cell_dr nq g2
                replace g3 := cell_dr nq g3
                replace g4 := cell_dr nq g4
                replace g5 := cell_dr nq g5
                replace a0 := cell_dr nq a0
                replace a1 := cell_dr nq a1
                replace a2 := cell_dr nq a2
                replace a3 := cell_dr nq a3
                replace a4 := cell_dr nq a4
                replace a5 := cell_dr nq a5
                replace a6 := cell_dr nq a6
                replace b1 := below_dr b1 nq
                generalize w1.drewN nq = w2 at *
                go_wp2
                go_quiet ((go_at_call 51; first | (with_reducible exact Calls.quiet_of_same (l04Field_lit e3 _)) | (with_reducible exact Calls.quiet_of_same (l04Field_lit e4 _))))
                go_wp2
                go_ret
                exact ⟨ret_boolS HB.out, below_dr b1 _⟩
              · skip
                rcases c5 with _ | _
                · rcases y with _ | _
                  · skip
                    have HB := Lib.hid (show true = r by rw [← HR.out]; rw [evOkL_in (by omega)]; simp [e0, e1, e2, e6, e3, e4])
                    go_enter Tryd.func22, Tryd.ntmps22
                    go_wp2_with (go_at_call 45; refine (l04HasC 4 (by omega) (by omega) (W.heap.size + 1) _ (by simp)).mono ?_; rintro e w1 ⟨rfl, g0, g1, g2, g3, g4, g5, hE⟩; rw [HE.out] at g0 g1 g2 g3 g4 g5; have a0 := hE.cell (p := ⟨W.heap.size, 0, none⟩) (var_cell W _ _ 0 _ rfl) (by simp only; omega); have a1 := hE.cell (p := ⟨W.heap.size, 1, none⟩) (var_cell W _ _ 1 _ rfl) (by simp only; omega); have a2 := hE.cell (p := ⟨W.heap.size, 2, none⟩) (var_cell W _ _ 2 _ rfl) (by simp only; omega); have a3 := hE.cell (p := ⟨W.heap.size, 3, none⟩) (var_cell W _ _ 3 _ rfl) (by simp only; omega); have a4 := hE.cell (p := ⟨W.heap.size, 4, none⟩) (var_cell W _ _ 4 _ rfl) (by simp only; omega); have a5 := hE.cell (p := ⟨W.heap.size, 5, none⟩) (var_cell W _ _ 5 _ rfl) (by simp only; omega); have a6 := hE.cell (p := ⟨W.heap.size, 6, none⟩) (var_cell W _ _ 6 _ rfl) (by simp only; omega); have b1 := ev_bel hE; clear hE)
                    go_quiet ((go_at_call 51; first | (with_reducible exact Calls.quiet_of_same (l04Field_lit e0 _)) | (with_reducible exact Calls.quiet_of_same (l04Field_lit e1 _)) | (with_reducible exact Calls.quiet_of_same (l04Field_lit e2 _))))
                    replace g0 := cell_dr nq g0
                    replace g1 := cell_dr nq g1
                    replace g2 := cell_dr nq g2
                    replace g3 := cell_dr nq g3
                    replace g4 := cell_dr nq g4
                    replace g5 := cell_dr nq g5
                    replace a0 := cell_dr nq a0
                    replace a1 := cell_dr nq a1
                    replace a2 := cell_dr nq a2
                    replace a3 := cell_dr nq a3
                    replace a4 := cell_dr nq a4
                    replace a5 := cell_dr nq a5
                    replace a6 := cell_dr nq a6
                    replace b1 := below_dr b1 nq
                    generalize w1.drewN nq = w2 at *
                    go_wp2
                    go_quiet ((go_at_call 51; first | (with_reducible exact Calls.quiet_of_same (l04Field_lit e3 _)) | (with_reducible exact Calls.quiet_of_same (l04Field_lit e4 _))))
                    go_wp2
                    go_ret
                    exact ⟨ret_boolS HB.out, below_dr b1 _⟩
                  · skip
                    have HB := Lib.hid (show false = r by rw [← HR.out]; rw [evOkL_in (by omega)]; simp [e0, e1, e2, e6, e3, e4])
                    go_enter Tryd.func22, Tryd.ntmps22
                    go_wp2_with (go_at_call 45; refine (l04HasC 4 (by omega) (by omega) (W.heap.size + 1) _ (by simp)).mono ?_; rintro e w1 ⟨rfl, g0, g1, g2, g3, g4, g5, hE⟩; rw [HE.out] at g0 g1 g2 g3 g4 g5; have a0 := hE.cell (p := ⟨W.heap.size, 0, none⟩) (var_cell W _ _ 0 _ rfl) (by simp only; omega); have a1 := hE.cell (p := ⟨W.heap.size, 1, none⟩) (var_cell W _ _ 1 _ rfl) (by simp only; omega); have a2 := hE.cell (p := ⟨W.heap.size, 2, none⟩) (var_cell W _ _ 2 _ rfl) (by simp only; omega); have a3 := hE.cell (p := ⟨W.heap.size, 3, none⟩) (var_cell W _ _ 3 _ rfl) (by simp only; omega); have a4 := hE.cell (p := ⟨W.heap.size, 4, none⟩) (var_cell W _ _ 4 _ rfl) (by simp only; omega); have a5 := hE.cell (p := ⟨W.heap.size, 5, none⟩) (var_cell W _ _ 5 _ rfl) (by simp only; omega); have a6 := hE.cell (p := ⟨W.heap.size, 6, none⟩) (var_cell W _ _ 6 _ rfl) (by simp only; omega); have b1 := ev_bel hE; clear hE)
                    go_quiet ((go_at_call 51; first | (with_reducible exact Calls.quiet_of_same (l04Field_lit e0 _)) | (with_reducible exact Calls.quiet_of_same (l04Field_lit e1 _)) | (with_reducible exact Calls.quiet_of_same (l04Field_lit e2 _))))
                    replace g0 := cell_dr nq g0
                    replace g1 := cell_dr nq g1
                    replace g2 := cell_dr nq g2
                    replace g3 := cell_dr nq g3
                    replace g4 := cell_dr nq g4
                    replace g5 := cell_dr nq g5
                    replace a0 := cell_dr nq a0
                    replace a1 := cell_dr nq a1
                    replace a2 := cell_dr nq a2
                    replace a3 := cell_dr nq a3
                    replace a4 := cell_dr nq a4
                    replace a5 := cell_dr nq a5
                    replace a6 := cell_dr nq a6
                    replace b1 := below_dr b1 nq
                    generalize w1.drewN nq = w2 at *
                    go_wp2
                    go_quiet ((go_at_call 51; first | (with_reducible exact Calls.quiet_of_same (l04Field_lit e3 _)) | (with_reducible exact Calls.quiet_of_same (l04Field_lit e4 _))))
                    go_wp2
                    go_ret
                    exact ⟨ret_boolS HB.out, below_dr b1 _⟩
                · skip
                  have HB := Lib.hid (show true = r by rw [← HR.out]; rw [evOkL_in (by omega)]; simp [e0, e1, e2, e6, e3, e4])
                  go_enter Tryd.func22, Tryd.ntmps22
                  go_wp2_with (go_at_call 45; refine (l04HasC 4 (by omega) (by omega) (W.heap.size + 1) _ (by simp)).mono ?_; rintro e w1 ⟨rfl, g0, g1, g2, g3, g4, g5, hE⟩; rw [HE.out] at g0 g1 g2 g3 g4 g5; have a0 := hE.cell (p := ⟨W.heap.size, 0, none⟩) (var_cell W _ _ 0 _ rfl) (by simp only; omega); have a1 := hE.cell (p := ⟨W.heap.size, 1, none⟩) (var_cell W _ _ 1 _ rfl) (by simp only; omega); have a2 := hE.cell (p := ⟨W.heap.size, 2, none⟩) (var_cell W _ _ 2 _ rfl) (by simp only; omega); have a3 := hE.cell (p := ⟨W.heap.size, 3, none⟩) (var_cell W _ _ 3 _ rfl) (by simp only; omega); have a4 := hE.cell (p := ⟨W.heap.size, 4, none⟩) (var_cell W _ _ 4 _ rfl) (by simp only; omega); have a5 := hE.cell (p := ⟨W.heap.size, 5, none⟩) (var_cell W _ _ 5 _ rfl) (by simp only; omega); have a6 := hE.cell (p := ⟨W.heap.size, 6, none⟩) (var_cell W _ _ 6 _ rfl) (by simp only; omega); have b1 := ev_bel hE; clear hE)
                  go_quiet ((go_at_call 51; first | (with_reducible exact Calls.quiet_of_same (l04Field_lit e0 _)) | (with_reducible exact Calls.quiet_of_same (l04Field_lit e1 _)) | (with_reducible exact Calls.quiet_of_same (l04Field_lit e2 _))))
                  replace g0 := cell_dr nq g0
                  replace g1 := cell_dr nq g1
                  replace g2 := cell_dr nq g2
                  replace g3 := cell_dr nq g3
                  replace g4 := cell_dr nq g4
                  replace g5 := cell_dr nq g5
                  replace a0 := cell_dr nq a0
                  replace a1 := cell_dr nq a1
                  replace a2 := cell_dr nq a2
                  replace a3 := cell_dr nq a3
                  replace a4 := cell_dr nq a4
                  replace a5 := cell_dr nq a5
                  replace a6 := cell_dr nq a6
                  replace b1 := below_dr b1 nq
                  generalize w1.drewN nq = w2 at *
                  go_wp2
                  go_quiet ((go_at_call 51; first | (with_reducible exact Calls.quiet_of_same (l04Field_lit e3 _)) | (with_reducible exact Calls.quiet_of_same (l04Field_lit e4 _))))
                  go_wp2
                  go_ret
                  exact ⟨ret_boolS HB.out, below_dr b1 _⟩
          · skip
            have HB := Lib.hid (show false = r by rw [← HR.out]; rw [evOkL_in (by omega)]; simp [e0, e1, e2, e6])
            go_enter Tryd.func22, Tryd.ntmps22
            go_wp2_with (go_at_call 45; refine (l04HasC 4 (by omega) (by omega) (W.heap.size + 1) _ (by simp)).mono ?_; rintro e w1 ⟨rfl, g0, g1, g2, g3, g4, g5, hE⟩; rw [HE.out] at g0 g1 g2 g3 g4 g5; have a0 := hE.cell (p := ⟨W.heap.size, 0, none⟩) (var_cell W _ _ 0 _ rfl) (by simp only; omega); have a1 := hE.cell (p := ⟨W.heap.size, 1, none⟩) (var_cell W _ _ 1 _ rfl) (by simp only; omega); have a2 := hE.cell (p := ⟨W.heap.size, 2, none⟩) (var_cell W _ _ 2 _ rfl) (by simp only; omega); have a3 := hE.cell (p := ⟨W.heap.size, 3, none⟩) (var_cell W _ _ 3 _ rfl) (by simp only; omega); have a4 := hE.cell (p := ⟨W.heap.size, 4, none⟩) (var_cell W _ _ 4 _ rfl) (by simp only; omega); have a5 := hE.cell (p := ⟨W.heap.size, 5, none⟩) (var_cell W _ _ 5 _ rfl) (by simp only; omega); have a6 := hE.cell (p := ⟨W.heap.size, 6, none⟩) (var_cell W _ _ 6 _ rfl) (by simp only; omega); have b1 := ev_bel hE; clear hE)
            go_quiet ((go_at_call 51; first | (with_reducible exact Calls.quiet_of_same (l04Field_lit e0 _)) | (with_reducible exact Calls.quiet_of_same (l04Field_lit e1 _)) | (with_reducible exact Calls.quiet_of_same (l04Field_lit e2 _))))
            replace g0 := cell_dr nq g0
            replace g1 := cell_dr nq g1
            replace g2 := cell_dr nq g2
            replace g3 := cell_dr nq g3
            replace g4 := cell_dr nq g4
            replace g5 := cell_dr nq g5
            replace a0 := cell_dr nq a0
            replace a1 := cell_dr nq a1
            replace a2 := cell_dr nq a2
            replace a3 := cell_dr nq a3
            replace a4 := cell_dr nq a4
            replace a5 := cell_dr nq a5
            replace a6 := cell_dr nq a6
            replace b1 := below_dr b1 nq
            generalize w1.drewN nq = w2 at *
            go_wp2
            go_ret
            exact ⟨ret_boolS HB.out, b1⟩
end Go.Proofs.YtnjdmmdbminmoaaDoor
