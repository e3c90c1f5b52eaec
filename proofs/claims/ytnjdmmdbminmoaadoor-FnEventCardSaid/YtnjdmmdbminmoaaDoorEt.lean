/- EventText of the program. -/
import Derived.Test.YtnjdmmdbminmoaaDoorTn
import Derived.Test.YtnjdmmdbminmoaaDoorNums
import Derived.Test.YtnjdmmdbminmoaaDoorRws
import Derived.Test.YtnjdmmdbminmoaaDoorEvI
import Derived.Test.YtnjdmmdbminmoaaDoorApp
import Derived.Deep.RegionHeld3
namespace Go.Proofs.YtnjdmmdbminmoaaDoor
open Go.RowKit
theorem below_oneE (w : World) (o : Obj) : Below w.heap.size w (w.alloc o) := (Below.refl _ _).alloc (Nat.le_refl _) _
/-- Rows of strings. -/
def strs (ls : List (List UInt8)) : List Value := ls.map fun l => Value.string (bstr l)
theorem strs_snoc (ls : List (List UInt8)) (l : List UInt8) : strs ls ++ [Value.string (bstr l)] = strs (ls ++ [l]) := by simp [strs]
theorem one_str (l : List UInt8) : ∀ u ∈ [Value.string (bstr l)], u.oneCell' = true := by intro u hu; simp at hu; subst hu; rfl
theorem info_str : (Tryd.prog.info? 9).map (fun i => (i.zero, i.size, i.bytes)) = some (some (.string ByteArray.empty), 1, 16) := by kernel_rfl
theorem info_partsE {P : Program} {t : TypeId} {z : Option Value} {s b : Nat} (h : (P.info? t).map (fun i => (i.zero, i.size, i.bytes)) = some (z, s, b)) : ∃ i, P.info? t = some i ∧ i.zero = z ∧ i.size = s ∧ i.bytes = b := by
  obtain ⟨i, h1, h2⟩ := Option.map_eq_some_iff.1 h
  simp only [Prod.mk.injEq] at h2
  exact ⟨i, h1, h2.1, h2.2.1, h2.2.2⟩
/-- Field o of an event. -/
def fieldI (k key ch to amt fee : Int) (o : Nat) : Int := match o with | 1 => key | 2 => ch | 3 => to | 4 => amt | 5 => fee | _ => k
theorem nums_offs {k : Int} (key ch to amt fee : Int) (h1 : 1 ≤ k) (h2 : k ≤ 11) : evNums k key ch to amt fee = (offs k).map (fieldI k key ch to amt fee) := by
  rcases ev_cases h1 h2 with rfl | rfl | rfl | rfl | rfl | rfl | rfl | rfl | rfl | rfl | rfl <;> rfl
theorem offs_len {k : Int} : (offs k).length ≤ 5 := by
  unfold offs
  repeat' (split; · decide)
  decide
theorem offs_in {k : Int} {i o : Nat} (h : (offs k)[i]? = some o) : 1 ≤ o ∧ o ≤ 5 := by
  have hm := List.mem_of_getElem? h
  unfold offs at hm
  repeat' (split at hm; · (first | (simp at hm; done) | (simp at hm; omega)))
  simp at hm; omega
theorem evW_len {k : Nat} (h : k < 12) : (evWs.getD k []).length ≤ 7 := by
  rcases k with _ | _ | _ | _ | _ | _ | _ | _ | _ | _ | _ | _ | k <;> first | decide | omega
theorem lens_le {ws : List (List UInt8)} {m : Nat} (h : ∀ x ∈ ws, x.length ≤ m) : Lib.lens ws ≤ ws.length * m := by
  induction ws with
  | nil => simp [Lib.lens]
  | cons x r ih =>
    have h1 := ih fun y hy => h y (List.mem_cons_of_mem _ hy)
    have h2 := h x (by simp)
    simp only [Lib.lens, List.map_cons, List.sum_cons, List.length_cons, Nat.succ_mul] at h1 ⊢
    omega
theorem ok_kind {k key ch to amt fee : Int} {y : Bool} (h : evOk k key ch to amt fee y = true) : 1 ≤ k ∧ k ≤ 11 := by
  rcases hh : inB k 1 11 with _ | _
  · rw [evOk_kind hh] at h; cases h
  · exact inB_le hh
theorem ev_cells : (#[.string ⟨#[]⟩, .string ⟨#[100, 101, 112, 111, 115, 105, 116]⟩, .string ⟨#[111, 112, 101, 110]⟩, .string ⟨#[99, 108, 111, 115, 101]⟩, .string ⟨#[112, 114, 105, 99, 101]⟩, .string ⟨#[97, 100, 109, 105, 116]⟩, .string ⟨#[102, 117, 108, 102, 105, 108, 108]⟩, .string ⟨#[102, 97, 105, 108]⟩, .string ⟨#[116, 105, 99, 107]⟩, .string ⟨#[108, 97, 117, 110, 99, 104]⟩, .string ⟨#[97, 114, 114, 105, 118, 101]⟩, .string ⟨#[108, 111, 115, 116]⟩] : Array Value) = (evWs.map fun l => Value.string (bstr l)).toArray := rfl
theorem ev_split (w : World) (hM : PMax w) : Calls Tryd.prog 41 #[.string ⟨#[32, 100, 101, 112, 111, 115, 105, 116, 32, 111, 112, 101, 110, 32, 99, 108, 111, 115, 101, 32, 112, 114, 105, 99, 101, 32, 97, 100, 109, 105, 116, 32, 102, 117, 108, 102, 105, 108, 108, 32, 102, 97, 105, 108, 32, 116, 105, 99, 107, 32, 108, 97, 117, 110, 99, 104, 32, 97, 114, 114, 105, 118, 101, 32, 108, 111, 115, 116]⟩, .string ⟨#[32]⟩] w fun e w' => e = .returned (.slice (some ⟨w.heap.size, 0, none⟩) 12 12) ∧ w' = w.alloc (.cells #[.string ⟨#[]⟩, .string ⟨#[100, 101, 112, 111, 115, 105, 116]⟩, .string ⟨#[111, 112, 101, 110]⟩, .string ⟨#[99, 108, 111, 115, 101]⟩, .string ⟨#[112, 114, 105, 99, 101]⟩, .string ⟨#[97, 100, 109, 105, 116]⟩, .string ⟨#[102, 117, 108, 102, 105, 108, 108]⟩, .string ⟨#[102, 97, 105, 108]⟩, .string ⟨#[116, 105, 99, 107]⟩, .string ⟨#[108, 97, 117, 110, 99, 104]⟩, .string ⟨#[97, 114, 114, 105, 118, 101]⟩, .string ⟨#[108, 111, 115, 116]⟩] 9) := by
  obtain ⟨m, hm⟩ := hM
  refine (Tryd.strings_Split ⟨#[32, 100, 101, 112, 111, 115, 105, 116, 32, 111, 112, 101, 110, 32, 99, 108, 111, 115, 101, 32, 112, 114, 105, 99, 101, 32, 97, 100, 109, 105, 116, 32, 102, 117, 108, 102, 105, 108, 108, 32, 102, 97, 105, 108, 32, 116, 105, 99, 107, 32, 108, 97, 117, 110, 99, 104, 32, 97, 114, 114, 105, 118, 101, 32, 108, 111, 115, 116]⟩ ⟨#[32]⟩ m w (by decide) hm (by decide)).mono ?_
  rintro e w' ⟨rfl, rfl⟩
  have e1 : Lib.countB ⟨#[32, 100, 101, 112, 111, 115, 105, 116, 32, 111, 112, 101, 110, 32, 99, 108, 111, 115, 101, 32, 112, 114, 105, 99, 101, 32, 97, 100, 109, 105, 116, 32, 102, 117, 108, 102, 105, 108, 108, 32, 102, 97, 105, 108, 32, 116, 105, 99, 107, 32, 108, 97, 117, 110, 99, 104, 32, 97, 114, 114, 105, 118, 101, 32, 108, 111, 115, 116]⟩ ⟨#[32]⟩ = 11 := by kernel_rfl
  have e2 : Lib.splitB ⟨#[32]⟩ 0 11 ⟨#[32, 100, 101, 112, 111, 115, 105, 116, 32, 111, 112, 101, 110, 32, 99, 108, 111, 115, 101, 32, 112, 114, 105, 99, 101, 32, 97, 100, 109, 105, 116, 32, 102, 117, 108, 102, 105, 108, 108, 32, 102, 97, 105, 108, 32, 116, 105, 99, 107, 32, 108, 97, 117, 110, 99, 104, 32, 97, 114, 114, 105, 118, 101, 32, 108, 111, 115, 116]⟩ = [⟨#[]⟩, ⟨#[100, 101, 112, 111, 115, 105, 116]⟩, ⟨#[111, 112, 101, 110]⟩, ⟨#[99, 108, 111, 115, 101]⟩, ⟨#[112, 114, 105, 99, 101]⟩, ⟨#[97, 100, 109, 105, 116]⟩, ⟨#[102, 117, 108, 102, 105, 108, 108]⟩, ⟨#[102, 97, 105, 108]⟩, ⟨#[116, 105, 99, 107]⟩, ⟨#[108, 97, 117, 110, 99, 104]⟩, ⟨#[97, 114, 114, 105, 118, 101]⟩, ⟨#[108, 111, 115, 116]⟩] := by kernel_rfl
  rw [e1, e2]
  exact ⟨rfl, rfl⟩
theorem ev_at {j : Nat} (h : j < 12) (w : World) (t : TypeId) : (w.alloc (.cells #[.string ⟨#[]⟩, .string ⟨#[100, 101, 112, 111, 115, 105, 116]⟩, .string ⟨#[111, 112, 101, 110]⟩, .string ⟨#[99, 108, 111, 115, 101]⟩, .string ⟨#[112, 114, 105, 99, 101]⟩, .string ⟨#[97, 100, 109, 105, 116]⟩, .string ⟨#[102, 117, 108, 102, 105, 108, 108]⟩, .string ⟨#[102, 97, 105, 108]⟩, .string ⟨#[116, 105, 99, 107]⟩, .string ⟨#[108, 97, 117, 110, 99, 104]⟩, .string ⟨#[97, 114, 114, 105, 118, 101]⟩, .string ⟨#[108, 111, 115, 116]⟩] t)).cell? ⟨w.heap.size, j, none⟩ = some (.string (bstr (evWs.getD j []))) := by
  refine var_cell w _ t j _ ?_
  rw [ev_cells, List.getElem?_toArray, List.getElem?_map, List.getElem?_eq_getElem (show j < evWs.length from h), List.getD_eq_getElem?_getD, List.getElem?_eq_getElem (show j < evWs.length from h)]
  rfl
theorem ev_short {ns : List Int} {x : List UInt8} (h : x ∈ ns.map nTx) : x.length ≤ 17 := by
  obtain ⟨z, -, rfl⟩ := List.mem_map.1 h
  exact nTx_len z
theorem ev_shortY {ns : List Int} {x z : List UInt8} (hz : z.length ≤ 17) (h : x ∈ ns.map nTx ++ [z]) : x.length ≤ 17 := by
  rcases List.mem_append.1 h with h | h
  · exact ev_short h
  · simp at h; subst h; exact hz
/-- strings.Join over a row of words, a blank between. -/
theorem ev_join (g c : Nat) (Wd : List UInt8) (r : List (List UInt8)) (n : Nat) (w : World) (hl : (Wd :: r).length = n) (hn : n ≤ 7) (hc : ∀ i, i < n * 1 → w.cell? ⟨g, i, none⟩ = (strs (Wd :: r))[i]?) (hg : g < w.heap.size) (hcap : n ≤ c) (hW : Wd.length ≤ 7) (hs : ∀ x ∈ r, x.length ≤ 17) :
    Calls Tryd.prog 50 #[.slice (some ⟨g, 0, none⟩) n c, .string ⟨#[32]⟩] w fun e w' => e = .returned (.string (bstr (Lib.join (Wd :: r) [32]))) ∧ Below w.heap.size w w' := by
  subst hl
  have hm : ((Wd :: r).map bstr).map (·.data.toList) = Wd :: r := by
    rw [List.map_map]
    exact (List.map_congr_left (fun l _ => bstr_list l)).trans (List.map_id _)
  have h := Tryd.strings_Join g 0 c ((Wd :: r).map bstr) ⟨#[32]⟩ w (fun j x hx => by
    have hj : j < ((Wd :: r).map bstr).length := (List.getElem?_eq_some_iff.1 hx).1
    rw [List.length_map] at hj
    rw [Nat.zero_add, hc j (by omega), strs, List.getElem?_map]
    rw [List.getElem?_map] at hx
    obtain ⟨l, h1, rfl⟩ := Option.map_eq_some_iff.1 hx
    rw [h1]; rfl) hg (by rw [List.length_map]; omega) (by rw [List.length_map]; exact hcap) (by
    rw [hm, Lib.join_length]
    have h1 := lens_le (ws := Wd :: r) (m := 17) (fun x hx => by
      rcases List.mem_cons.1 hx with rfl | hx
      · omega
      · exact hs x hx)
    simp only [List.length_cons] at hn h1
    show 1 * r.length + _ ≤ _
    omega)
  rw [hm, List.length_map] at h
  exact h
set_option maxHeartbeats 4000000 in
set_option maxRecDepth 100000 in
theorem impl_EventText (k key ch to amt fee : Int) (y : Bool) (W : World) (hT : PTab W) (hM : PMax W) : Calls Tryd.prog 21 #[.agg #[.int .i64 k, .int .i64 key, .int .i64 ch, .int .i64 to, .int .i64 amt, .int .i64 fee, .bool y]] W fun e w' => e = .returned (.string (bstr (evT k key ch to amt fee y))) ∧ Below W.heap.size W w' := by
  rcases hok : evOk k key ch to amt fee y with _ | _
  · rw [evT_no hok, bstr_nil]
    have HOK := Lib.hid hok
    clear hok
    go_enter Tryd.func21, Tryd.ntmps21
    go_wp2_with fail
    have he1 : Eff 0 0 W (W.alloc (.cells #[.int .i64 k, .int .i64 key, .int .i64 ch, .int .i64 to, .int .i64 amt, .int .i64 fee, .bool y] 32)) := Eff.alloc _ _
    have hs1 : (W.alloc (.cells #[.int .i64 k, .int .i64 key, .int .i64 ch, .int .i64 to, .int .i64 amt, .int .i64 fee, .bool y] 32)).heap.size = W.heap.size + 1 := (by simp)
    have e_0 : (W.alloc (.cells #[.int .i64 k, .int .i64 key, .int .i64 ch, .int .i64 to, .int .i64 amt, .int .i64 fee, .bool y] 32)).cell? ⟨W.heap.size, 0, none⟩ = some (.int .i64 k) := var_cell _ _ _ _ _ rfl
    have e_1 : (W.alloc (.cells #[.int .i64 k, .int .i64 key, .int .i64 ch, .int .i64 to, .int .i64 amt, .int .i64 fee, .bool y] 32)).cell? ⟨W.heap.size, 1, none⟩ = some (.int .i64 key) := var_cell _ _ _ _ _ rfl
    have e_2 : (W.alloc (.cells #[.int .i64 k, .int .i64 key, .int .i64 ch, .int .i64 to, .int .i64 amt, .int .i64 fee, .bool y] 32)).cell? ⟨W.heap.size, 2, none⟩ = some (.int .i64 ch) := var_cell _ _ _ _ _ rfl
    have e_3 : (W.alloc (.cells #[.int .i64 k, .int .i64 key, .int .i64 ch, .int .i64 to, .int .i64 amt, .int .i64 fee, .bool y] 32)).cell? ⟨W.heap.size, 3, none⟩ = some (.int .i64 to) := var_cell _ _ _ _ _ rfl
    have e_4 : (W.alloc (.cells #[.int .i64 k, .int .i64 key, .int .i64 ch, .int .i64 to, .int .i64 amt, .int .i64 fee, .bool y] 32)).cell? ⟨W.heap.size, 4, none⟩ = some (.int .i64 amt) := var_cell _ _ _ _ _ rfl
    have e_5 : (W.alloc (.cells #[.int .i64 k, .int .i64 key, .int .i64 ch, .int .i64 to, .int .i64 amt, .int .i64 fee, .bool y] 32)).cell? ⟨W.heap.size, 5, none⟩ = some (.int .i64 fee) := var_cell _ _ _ _ _ rfl
    have e_6 : (W.alloc (.cells #[.int .i64 k, .int .i64 key, .int .i64 ch, .int .i64 to, .int .i64 amt, .int .i64 fee, .bool y] 32)).cell? ⟨W.heap.size, 6, none⟩ = some (.bool y) := var_cell _ _ _ _ _ rfl
    generalize (W.alloc (.cells #[.int .i64 k, .int .i64 key, .int .i64 ch, .int .i64 to, .int .i64 amt, .int .i64 fee, .bool y] 32)) = w1 at *
    have hz1 : W.heap.size ≤ w1.heap.size := he1.size
    have b1 : Below W.heap.size W w1 := he1.below (Nat.le_refl _) (by omega)
    have e_l : W.heap.size < w1.heap.size := (by omega)
    refine (impl_EventOk k key ch to amt fee y w1).mono ?_
    rintro e w2 ⟨rfl, hb⟩
    have he2 : Eff 0 0 w1 w2 := Eff.of hb
    have hz2 : w1.heap.size ≤ w2.heap.size := he2.size
    have b2 : Below W.heap.size W w2 := b1.trans (he2.below b1.size (by omega))
    replace e_0 := he2.cell e_0 (by simp only; omega)
    replace e_1 := he2.cell e_1 (by simp only; omega)
    replace e_2 := he2.cell e_2 (by simp only; omega)
    replace e_3 := he2.cell e_3 (by simp only; omega)
    replace e_4 := he2.cell e_4 (by simp only; omega)
    replace e_5 := he2.cell e_5 (by simp only; omega)
    replace e_6 := he2.cell e_6 (by simp only; omega)
    replace e_l := Nat.lt_of_lt_of_le e_l hz2
    clear hb
    rw [HOK.out]
    go_wp2_with fail
    go_ret
    exact ⟨rfl, b2⟩
  · skip
    obtain ⟨i0, hi0, hj0, hj1, hj2⟩ := info_partsE info_str
    obtain ⟨hk1, hk11⟩ := ok_kind hok
    obtain ⟨j, rfl⟩ : ∃ j : Nat, k = (j : Int) := ⟨k.toNat, by omega⟩
    have hj12 : j < 12 := by omega
    have q0 : (0 : Int) ≤ (j : Int) := by omega
    have q1 : (j : Int) < 12 := by omega
    obtain ⟨Wd, hWe⟩ : ∃ Wd, evWs.getD j [] = Wd := ⟨_, rfl⟩
    have hWk : evW (j : Int) = Wd := by rw [evW, Int.toNat_natCast, hWe]
    have hWl : Wd.length ≤ 7 := by rw [← hWe]; exact evW_len hj12
    have hcell := fun (w : World) (t : TypeId) => (ev_at hj12 w t).trans (by rw [hWe] : _ = some (Value.string (bstr Wd)))
    have HCELL := Lib.hid hcell
    obtain ⟨N, hN⟩ : ∃ N, (offs (j : Int)).length = N := ⟨_, rfl⟩
    have hN5 : N ≤ 5 := by rw [← hN]; exact offs_len
    obtain ⟨ns, hns⟩ : ∃ ns, evNums (j : Int) key ch to amt fee = ns := ⟨_, rfl⟩
    have hno : ns = (offs (j : Int)).map (fieldI (j : Int) key ch to amt fee) := hns.symm.trans (nums_offs key ch to amt fee hk1 hk11)
    have hT1 : evT (j : Int) key ch to amt fee y = Lib.join (Wd :: (ns.map nTx ++ ynL (j : Int) y)) [32] := by rw [evT_yes hok, evL, hWk, hns]
    have HT1 := Lib.hid hT1
    have HNO := Lib.hid hno
    have HN := Lib.hid hN
    have HOK := Lib.hid hok
    clear hok hWe hWk hcell hN hns hno hT1
    go_enter Tryd.func21, Tryd.ntmps21
    go_wp2_with fail
    have he1 : Eff 0 0 W (W.alloc (.cells #[.int .i64 (j : Int), .int .i64 key, .int .i64 ch, .int .i64 to, .int .i64 amt, .int .i64 fee, .bool y] 32)) := Eff.alloc _ _
    have hs1 : (W.alloc (.cells #[.int .i64 (j : Int), .int .i64 key, .int .i64 ch, .int .i64 to, .int .i64 amt, .int .i64 fee, .bool y] 32)).heap.size = W.heap.size + 1 := (by simp)
    have e_0 : (W.alloc (.cells #[.int .i64 (j : Int), .int .i64 key, .int .i64 ch, .int .i64 to, .int .i64 amt, .int .i64 fee, .bool y] 32)).cell? ⟨W.heap.size, 0, none⟩ = some (.int .i64 (j : Int)) := var_cell _ _ _ _ _ rfl
    have e_1 : (W.alloc (.cells #[.int .i64 (j : Int), .int .i64 key, .int .i64 ch, .int .i64 to, .int .i64 amt, .int .i64 fee, .bool y] 32)).cell? ⟨W.heap.size, 1, none⟩ = some (.int .i64 key) := var_cell _ _ _ _ _ rfl
    have e_2 : (W.alloc (.cells #[.int .i64 (j : Int), .int .i64 key, .int .i64 ch, .int .i64 to, .int .i64 amt, .int .i64 fee, .bool y] 32)).cell? ⟨W.heap.size, 2, none⟩ = some (.int .i64 ch) := var_cell _ _ _ _ _ rfl
    have e_3 : (W.alloc (.cells #[.int .i64 (j : Int), .int .i64 key, .int .i64 ch, .int .i64 to, .int .i64 amt, .int .i64 fee, .bool y] 32)).cell? ⟨W.heap.size, 3, none⟩ = some (.int .i64 to) := var_cell _ _ _ _ _ rfl
    have e_4 : (W.alloc (.cells #[.int .i64 (j : Int), .int .i64 key, .int .i64 ch, .int .i64 to, .int .i64 amt, .int .i64 fee, .bool y] 32)).cell? ⟨W.heap.size, 4, none⟩ = some (.int .i64 amt) := var_cell _ _ _ _ _ rfl
    have e_5 : (W.alloc (.cells #[.int .i64 (j : Int), .int .i64 key, .int .i64 ch, .int .i64 to, .int .i64 amt, .int .i64 fee, .bool y] 32)).cell? ⟨W.heap.size, 5, none⟩ = some (.int .i64 fee) := var_cell _ _ _ _ _ rfl
    have e_6 : (W.alloc (.cells #[.int .i64 (j : Int), .int .i64 key, .int .i64 ch, .int .i64 to, .int .i64 amt, .int .i64 fee, .bool y] 32)).cell? ⟨W.heap.size, 6, none⟩ = some (.bool y) := var_cell _ _ _ _ _ rfl
    generalize (W.alloc (.cells #[.int .i64 (j : Int), .int .i64 key, .int .i64 ch, .int .i64 to, .int .i64 amt, .int .i64 fee, .bool y] 32)) = w1 at *
    have hz1 : W.heap.size ≤ w1.heap.size := he1.size
    have b1 : Below W.heap.size W w1 := he1.below (Nat.le_refl _) (by omega)
    have e_l : W.heap.size < w1.heap.size := (by omega)
    refine (impl_EventOk (j : Int) key ch to amt fee y w1).mono ?_
    rintro e w2 ⟨rfl, hb⟩
    have he2 : Eff 0 0 w1 w2 := Eff.of hb
    have hz2 : w1.heap.size ≤ w2.heap.size := he2.size
    have b2 : Below W.heap.size W w2 := b1.trans (he2.below b1.size (by omega))
    replace e_0 := he2.cell e_0 (by simp only; omega)
    replace e_1 := he2.cell e_1 (by simp only; omega)
    replace e_2 := he2.cell e_2 (by simp only; omega)
    replace e_3 := he2.cell e_3 (by simp only; omega)
    replace e_4 := he2.cell e_4 (by simp only; omega)
    replace e_5 := he2.cell e_5 (by simp only; omega)
    replace e_6 := he2.cell e_6 (by simp only; omega)
    replace e_l := Nat.lt_of_lt_of_le e_l hz2
    clear hb
    rw [HOK.out]
    go_wp2_with fail
    have he3 : Eff 0 0 w2 w2.drew := (Eff.refl _ _ _).drew
    have hz3 : w2.heap.size ≤ w2.drew.heap.size := he3.size
    have b3 : Below W.heap.size W w2.drew := b2.trans (he3.below b2.size (by omega))
    replace e_0 := he3.cell e_0 (by simp only; omega)
    replace e_1 := he3.cell e_1 (by simp only; omega)
    replace e_2 := he3.cell e_2 (by simp only; omega)
    replace e_3 := he3.cell e_3 (by simp only; omega)
    replace e_4 := he3.cell e_4 (by simp only; omega)
    replace e_5 := he3.cell e_5 (by simp only; omega)
    replace e_6 := he3.cell e_6 (by simp only; omega)
    replace e_l := Nat.lt_of_lt_of_le e_l hz3
    refine wp_region_held_drew (S := fun w' => w'.cell? ⟨W.heap.size, 0, none⟩ = some (.int .i64 (j : Int))) (by kernel_rfl) ?rg1 (fun hHeld => ?_)
    case rg1 => ((try dsimp only); (first | with_reducible assumption))
    generalize w2.drew = v0 at *
    refine wpAnyH_take (i := 1) (oi := { dst := some 10, op := Go.Op.fieldAddr 32 (Go.Operand.tmp 1) 0, type := 0, pos := "l04_event.go:125", after := #[], guard := none }) (v := ?v2) rfl (by kernel_rfl) (by kernel_rfl) (by kernel_rfl) (fun _ _ _ h => h) (Or.inl ⟨by rfl, ?y2⟩) (by assumption) ?_
    case y2 => (intro w hSw; (try dsimp only at hSw); go_simp; first | done | with_reducible rfl)
    try simp only [Act.put, List.setIfInBounds_toArray, List.set_cons_zero, List.set_cons_succ]
    refine wpAnyH_take (i := 2) (oi := { dst := some 11, op := Go.Op.load 3 (Go.Operand.tmp 10), type := 3, pos := "l04_event.go:125", after := #[{ on := 1, ground := Go.Ground.data }], guard := none }) (v := ?v3) rfl (by kernel_rfl) (by kernel_rfl) (by kernel_rfl) (fun _ _ _ h => h) (Or.inl ⟨by rfl, ?y3⟩) (by assumption) ?_
    case y3 => (intro w hSw; (try dsimp only at hSw); go_simp; first | done | with_reducible rfl)
    try simp only [Act.put, List.setIfInBounds_toArray, List.set_cons_zero, List.set_cons_succ]
    refine wpAnyH_ready (rs := [0]) (by kernel_rfl) (by simp) ?_
    refine AllReadyH.cons (o := { dst := some 9, op := Go.Op.call { callee := Go.Callee.value (Go.Operand.func 41), args := #[Go.Operand.const (Go.Value.string { data := ([32, 100, 101, 112, 111, 115, 105, 116, 32, 111, 112, 101, 110, 32, 99, 108, 111, 115, 101, 32, 112, 114, 105, 99, 101, 32, 97, 100, 109, 105, 116, 32, 102, 117].append [108, 102, 105, 108, 108, 32, 102, 97, 105, 108, 32, 116, 105, 99, 107, 32, 108, 97, 117, 110, 99, 104, 32, 97, 114, 114, 105, 118, 101, 32, 108, 111, 115, 116]).toArray }), Go.Operand.const (Go.Value.string { data := #[32] })], argTypes := #[9, 9] }, type := 61, pos := "l04_event.go:125", after := #[], guard := none }) rfl (fun K hK => ?k4) AllReadyH.nil
    go_simp
    go_at_call 41
    refine (ev_split v0 (hM.below b3)).mono ?_
    rintro e wx ⟨rfl, hwx⟩
    subst hwx
    have he4 : Eff 0 0 v0 (v0.alloc (.cells #[.string ⟨#[]⟩, .string ⟨#[100, 101, 112, 111, 115, 105, 116]⟩, .string ⟨#[111, 112, 101, 110]⟩, .string ⟨#[99, 108, 111, 115, 101]⟩, .string ⟨#[112, 114, 105, 99, 101]⟩, .string ⟨#[97, 100, 109, 105, 116]⟩, .string ⟨#[102, 117, 108, 102, 105, 108, 108]⟩, .string ⟨#[102, 97, 105, 108]⟩, .string ⟨#[116, 105, 99, 107]⟩, .string ⟨#[108, 97, 117, 110, 99, 104]⟩, .string ⟨#[97, 114, 114, 105, 118, 101]⟩, .string ⟨#[108, 111, 115, 116]⟩] 9)) := Eff.alloc _ _
    have hc3 := HCELL.out v0 9
    have hs4 : (v0.alloc (.cells #[.string ⟨#[]⟩, .string ⟨#[100, 101, 112, 111, 115, 105, 116]⟩, .string ⟨#[111, 112, 101, 110]⟩, .string ⟨#[99, 108, 111, 115, 101]⟩, .string ⟨#[112, 114, 105, 99, 101]⟩, .string ⟨#[97, 100, 109, 105, 116]⟩, .string ⟨#[102, 117, 108, 102, 105, 108, 108]⟩, .string ⟨#[102, 97, 105, 108]⟩, .string ⟨#[116, 105, 99, 107]⟩, .string ⟨#[108, 97, 117, 110, 99, 104]⟩, .string ⟨#[97, 114, 114, 105, 118, 101]⟩, .string ⟨#[108, 111, 115, 116]⟩] 9)).heap.size = v0.heap.size + 1 := (by simp)
    generalize (v0.alloc (.cells #[.string ⟨#[]⟩, .string ⟨#[100, 101, 112, 111, 115, 105, 116]⟩, .string ⟨#[111, 112, 101, 110]⟩, .string ⟨#[99, 108, 111, 115, 101]⟩, .string ⟨#[112, 114, 105, 99, 101]⟩, .string ⟨#[97, 100, 109, 105, 116]⟩, .string ⟨#[102, 117, 108, 102, 105, 108, 108]⟩, .string ⟨#[102, 97, 105, 108]⟩, .string ⟨#[116, 105, 99, 107]⟩, .string ⟨#[108, 97, 117, 110, 99, 104]⟩, .string ⟨#[97, 114, 114, 105, 118, 101]⟩, .string ⟨#[108, 111, 115, 116]⟩] 9)) = w4 at *
    have hz4 : v0.heap.size ≤ w4.heap.size := he4.size
    have b4 : Below W.heap.size W w4 := b3.trans (he4.below b3.size (by omega))
    replace e_0 := he4.cell e_0 (by simp only; omega)
    replace e_1 := he4.cell e_1 (by simp only; omega)
    replace e_2 := he4.cell e_2 (by simp only; omega)
    replace e_3 := he4.cell e_3 (by simp only; omega)
    replace e_4 := he4.cell e_4 (by simp only; omega)
    replace e_5 := he4.cell e_5 (by simp only; omega)
    replace e_6 := he4.cell e_6 (by simp only; omega)
    replace e_l := Nat.lt_of_lt_of_le e_l hz4
    refine hK.out _ _ ?s4 (fun hHeld => ?_)
    case s4 => ((try dsimp only); (first | with_reducible assumption))
    clear hK K
    try simp only [Act.put, List.setIfInBounds_toArray, List.set_cons_zero, List.set_cons_succ]
    refine wpAnyH_ready (rs := [3]) (by kernel_rfl) (by simp) ?_
    refine AllReadyH.cons (o := { dst := some 12, op := Go.Op.indexAddr 61 (Go.Operand.tmp 9) (Go.Operand.tmp 11), type := 0, pos := "l04_event.go:125", after := #[{ on := 0, ground := Go.Ground.data }, { on := 2, ground := Go.Ground.data }], guard := none }) rfl (fun K hK => ?k5) AllReadyH.nil
    go_simp
    refine hK.out _ _ ?s5 (fun hHeld => ?_)
    case s5 => ((try dsimp only); (first | with_reducible assumption))
    clear hK K
    try simp only [Act.put, List.setIfInBounds_toArray, List.set_cons_zero, List.set_cons_succ]
    refine wpAnyH_ready (rs := [4]) (by kernel_rfl) (by simp) ?_
    refine AllReadyH.cons (o := { dst := some 13, op := Go.Op.load 9 (Go.Operand.tmp 12), type := 9, pos := "l04_event.go:125", after := #[{ on := 3, ground := Go.Ground.data }], guard := none }) rfl (fun K hK => ?k6) AllReadyH.nil
    go_simp
    refine hK.out _ _ ?s6 (fun hHeld => ?_)
    case s6 => ((try dsimp only); (first | with_reducible assumption))
    clear hK K
    try simp only [Act.put, List.setIfInBounds_toArray, List.set_cons_zero, List.set_cons_succ]
    refine wpAnyH_ready (rs := [5]) (by kernel_rfl) (by simp) ?_
    refine AllReadyH.cons (o := { dst := some 14, op := Go.Op.buildSlice 61 1 #[(0, Go.Operand.tmp 13)], type := 61, pos := "l04_event.go:125", after := #[{ on := 4, ground := Go.Ground.data }], guard := none }) rfl (fun K hK => ?k7) AllReadyH.nil
    go_simp
    have he5 : Eff 0 0 w4 (w4.alloc (.cells #[.string (bstr Wd)] 9)) := Eff.alloc _ _
    have o := new_row1 w4 (.string (bstr Wd)) 9
    clear hc3
    have hs5 : (w4.alloc (.cells #[.string (bstr Wd)] 9)).heap.size = w4.heap.size + 1 := (by simp)
    generalize (w4.alloc (.cells #[.string (bstr Wd)] 9)) = w5 at *
    have hz5 : w4.heap.size ≤ w5.heap.size := he5.size
    have b5 : Below W.heap.size W w5 := b4.trans (he5.below b4.size (by omega))
    replace e_0 := he5.cell e_0 (by simp only; omega)
    replace e_1 := he5.cell e_1 (by simp only; omega)
    replace e_2 := he5.cell e_2 (by simp only; omega)
    replace e_3 := he5.cell e_3 (by simp only; omega)
    replace e_4 := he5.cell e_4 (by simp only; omega)
    replace e_5 := he5.cell e_5 (by simp only; omega)
    replace e_6 := he5.cell e_6 (by simp only; omega)
    replace e_l := Nat.lt_of_lt_of_le e_l hz5
    rw [← hs5] at o
    replace o : Own 9 1 w5 w4.heap.size w5.heap.size _ 1 1 (strs [Wd]) := o
    refine hK.out _ _ ?s7 (fun hHeld => ?_)
    case s7 => ((try dsimp only); (first | with_reducible assumption))
    clear hK K
    try simp only [Act.put, List.setIfInBounds_toArray, List.set_cons_zero, List.set_cons_succ]
    refine wpAnyH_take (i := 6) (oi := { dst := some 3, op := Go.Op.assign (Go.Operand.tmp 14), type := 61, pos := "l04_event.go:125", after := #[{ on := 5, ground := Go.Ground.data }, { on := 0, ground := Go.Ground.chain }, { on := 0, ground := Go.Ground.phase }, { on := 1, ground := Go.Ground.phase }, { on := 2, ground := Go.Ground.phase }, { on := 3, ground := Go.Ground.phase }, { on := 4, ground := Go.Ground.phase }, { on := 5, ground := Go.Ground.phase }], guard := none }) (v := ?v8) rfl (by kernel_rfl) (by kernel_rfl) (by kernel_rfl) (fun _ _ _ h => h) (Or.inl ⟨by rfl, ?y8⟩) (by assumption) ?_
    case y8 => (intro w hSw; (try dsimp only at hSw); go_simp; first | done | with_reducible rfl)
    try simp only [Act.put, List.setIfInBounds_toArray, List.set_cons_zero, List.set_cons_succ]
    refine wpAnyH_done (by kernel_rfl) ?_ _
    go_wp2_with fail
    refine (impl_numbers (j : Int) q0 (by omega) W.heap.size w5 e_0).mono ?_
    rintro e w6 ⟨An, rfl, p, hb⟩
    rw [HN.out] at p ⊢
    have he6 : Eff 0 0 w5 w6 := Eff.of hb
    have hz6 : w5.heap.size ≤ w6.heap.size := he6.size
    have b6 : Below W.heap.size W w6 := b5.trans (he6.below b5.size (by omega))
    replace o := o.keep he6 (by omega)
    replace e_0 := he6.cell e_0 (by simp only; omega)
    replace e_1 := he6.cell e_1 (by simp only; omega)
    replace e_2 := he6.cell e_2 (by simp only; omega)
    replace e_3 := he6.cell e_3 (by simp only; omega)
    replace e_4 := he6.cell e_4 (by simp only; omega)
    replace e_5 := he6.cell e_5 (by simp only; omega)
    replace e_6 := he6.cell e_6 (by simp only; omega)
    replace e_l := Nat.lt_of_lt_of_le e_l hz6
    clear hb
    have ho0 := o.lohi
    have hp0 := p.lohi
    have hsep : ∀ q, (Value.slice (some ⟨w4.heap.size, 0, none⟩) 1 1).ownBlock = some q → (Value.slice An N N).ownBlock ≠ some q := fun q hq hq2 => by have h1 := ho0 q hq; have h2 := hp0 q hq2; omega
    clear ho0 hp0
    go_wp2_with fail
    have HB : Hid (Below W.heap.size W w6) := Lib.hid b6
    go_loopw [3, 17] (fun vl vi wr => ∃ (i : Nat) (Al : Option Addr) (cl : Nat), i ≤ N ∧ vi = .int .i64 (i : Int) ∧ vl = .slice Al (i + 1) cl ∧ Below W.heap.size W wr ∧ w6.heap.size ≤ wr.heap.size ∧ wr.cell? ⟨W.heap.size, 0, none⟩ = some (.int .i64 (j : Int)) ∧ wr.cell? ⟨W.heap.size, 1, none⟩ = some (.int .i64 key) ∧ wr.cell? ⟨W.heap.size, 2, none⟩ = some (.int .i64 ch) ∧ wr.cell? ⟨W.heap.size, 3, none⟩ = some (.int .i64 to) ∧ wr.cell? ⟨W.heap.size, 4, none⟩ = some (.int .i64 amt) ∧ wr.cell? ⟨W.heap.size, 5, none⟩ = some (.int .i64 fee) ∧ wr.cell? ⟨W.heap.size, 6, none⟩ = some (.bool y) ∧ Own 73 1 wr w5.heap.size w6.heap.size An N N (ptrs W.heap.size (offs (j : Int))) ∧ Own 9 1 wr w4.heap.size wr.heap.size Al (i + 1) cl (strs (Wd :: (ns.take i).map nTx)) ∧ (∀ q, (Value.slice Al (i + 1) cl).ownBlock = some q → (Value.slice An N N).ownBlock ≠ some q)) (fun _ vi _ => N - (intOf vi).toNat)
    case atStart => exact ⟨0, _, 1, Nat.zero_le _, rfl, rfl, b6, Nat.le_refl _, e_0, e_1, e_2, e_3, e_4, e_5, e_6, p, by rw [← hs4]; exact Own.wide o (Nat.le_refl _) (by omega) (Nat.le_refl _), by rw [← hs4]; exact hsep⟩
    clear o p hsep e_0 e_1 e_2 e_3 e_4 e_5 e_6
    case round =>
      obtain ⟨i, Al, cl, hi, rfl, rfl, hbW, hzr, e_0, e_1, e_2, e_3, e_4, e_5, e_6, p, o, hsep⟩ := hrel
      have hzW := hbW.size
      by_cases hlt : i < N
      · skip
        have hsq : (i : Int) < (N : Int) := by omega
        have hsi : (0 : Int) ≤ (i : Int) := by omega
        have hpx := hsep
        obtain ⟨of, hof⟩ : ∃ of, (offs (j : Int))[i]? = some of := ⟨_, List.getElem?_eq_getElem (by rw [HN.out]; exact hlt)⟩
        obtain ⟨pb, hpA, hp1, hp2, hpc, hpf⟩ := Own.form p (by omega)
        have hpi : wr.cell? ⟨pb, i, none⟩ = some (.pointer (some ⟨W.heap.size, of, none⟩)) := (hpc i (by omega)).trans (by rw [ptrs, List.getElem?_map, hof]; rfl)
        obtain ⟨z, hz⟩ : ∃ z, fieldI (j : Int) key ch to amt fee of = z := ⟨_, rfl⟩
        have hfo : wr.cell? ⟨W.heap.size, of, none⟩ = some (.int .i64 z) := by
          have h15 := offs_in hof
          obtain rfl | rfl | rfl | rfl | rfl : of = 1 ∨ of = 2 ∨ of = 3 ∨ of = 4 ∨ of = 5 := by omega
          all_goals (rw [← hz]; assumption)
        have hnz : ns[i]? = some z := by rw [HNO.out, List.getElem?_map, hof]; exact congrArg some hz
        have HNZ := Lib.hid hnz
        have HPA := Lib.hid hpA
        clear hpc hpf hof hz hnz
        rw [hpA]
        clear hpA
        obtain ⟨ta, tb, htt, hta, htab, htb, htq⟩ := Own.tight o (by omega)
        have HTQ := Lib.hid htq
        have HSEP := Lib.hid hsep
        clear htq hsep hpx
        have hxl := nTx_len z
        obtain ⟨X, hX⟩ : ∃ X, nTx z = X := ⟨_, rfl⟩
        rw [hX] at hxl
        have HX := Lib.hid hX
        clear hX
        go_wp2_with fail
        refine (impl_NumText z wr (hT.below hbW)).mono ?_
        rintro e u1 ⟨rfl, hb⟩
        rw [HX.out]
        have he1 : Eff 0 0 wr u1 := Eff.of hb
        have hz1 : wr.heap.size ≤ u1.heap.size := he1.size
        have b1 : Below W.heap.size W u1 := hbW.trans (he1.below hbW.size (by omega))
        replace p := p.keep he1 (by omega)
        replace htt := htt.keep he1 (by omega)
        replace e_0 := he1.cell e_0 (by simp only; omega)
        replace e_1 := he1.cell e_1 (by simp only; omega)
        replace e_2 := he1.cell e_2 (by simp only; omega)
        replace e_3 := he1.cell e_3 (by simp only; omega)
        replace e_4 := he1.cell e_4 (by simp only; omega)
        replace e_5 := he1.cell e_5 (by simp only; omega)
        replace e_6 := he1.cell e_6 (by simp only; omega)
        clear hb
        go_wp2_with (at_builtin; refine Hid.out ?_)
        refine Lib.hid ?_
        have he2 : Eff 0 0 u1 (u1.alloc (.cells #[.string (bstr X)] 9)) := Eff.alloc _ _
        have tr := new_row1 u1 (.string (bstr X)) 9
        have hs2 : (u1.alloc (.cells #[.string (bstr X)] 9)).heap.size = u1.heap.size + 1 := (by simp)
        generalize (u1.alloc (.cells #[.string (bstr X)] 9)) = u2 at *
        have hz2 : u1.heap.size ≤ u2.heap.size := he2.size
        have b2 : Below W.heap.size W u2 := b1.trans (he2.below b1.size (by omega))
        replace p := p.keep he2 (by omega)
        replace htt := htt.keep he2 (by omega)
        replace e_0 := he2.cell e_0 (by simp only; omega)
        replace e_1 := he2.cell e_1 (by simp only; omega)
        replace e_2 := he2.cell e_2 (by simp only; omega)
        replace e_3 := he2.cell e_3 (by simp only; omega)
        replace e_4 := he2.cell e_4 (by simp only; omega)
        replace e_5 := he2.cell e_5 (by simp only; omega)
        replace e_6 := he2.cell e_6 (by simp only; omega)
        rw [← hs2] at tr
        refine wpList_app _ rfl _ _ 61 rfl 9 i0 (.string ByteArray.empty) 1 16 Tryd.underlying61 hi0 hj0 hj1 hj2 rfl (by omega) rfl htt 1 rfl (Own.rd tr (Nat.le_refl _)) (one_str X) (by unfold maxLen; omega) (by omega) (by omega) ?_
        intro A2 c2 u3 hO hE hK2
        have he3 : Eff ta tb u2 u3 := hE
        have hz3 : u2.heap.size ≤ u3.heap.size := he3.size
        have b3 : Below W.heap.size W u3 := b2.trans (he3.below b2.size (by omega))
        have hpne : ∀ q, (Value.slice An N N).ownBlock = some q → q < ta ∨ tb ≤ q := fun q hq => by
          by_cases h : ta ≤ q ∧ q < tb
          · exact absurd hq (HSEP.out q (HTQ.out q h.1 h.2))
          · omega
        replace p := Own.ne p he3 hpne
        have hpl := p.lohi
        have hsep2 : ∀ q, (Value.slice A2 (i + 1 + 1) c2).ownBlock = some q → (Value.slice An N N).ownBlock ≠ some q := fun q hq hq2 => by
          have h1 := hO.lohi q hq
          have h2 := hpl q hq2
          have h3 := hpne q hq2
          have h4 := hK2 q hq
          omega
        replace e_0 := he3.cell e_0 (by simp only; omega)
        replace e_1 := he3.cell e_1 (by simp only; omega)
        replace e_2 := he3.cell e_2 (by simp only; omega)
        replace e_3 := he3.cell e_3 (by simp only; omega)
        replace e_4 := he3.cell e_4 (by simp only; omega)
        replace e_5 := he3.cell e_5 (by simp only; omega)
        replace e_6 := he3.cell e_6 (by simp only; omega)
        replace hO : Own 9 1 u3 w4.heap.size u3.heap.size A2 (i + 1 + 1) c2 (strs (Wd :: (ns.take (i + 1)).map nTx)) := by
          rw [strs_snoc] at hO
          rw [List.take_add_one, HNZ.out, Option.toList_some, List.map_append, List.map_cons, List.map_nil, HX.out, ← List.cons_append]
          exact Own.wide hO hta (Nat.le_refl _) (Nat.le_refl _)
        clear hE hK2 tr htt hpl hpne
        go_wp2_with fail
        go_roundw
        case rel =>
          rw [← HPA.out]
          exact ⟨i + 1, A2, c2, by omega, by go_num, rfl, b3, by omega, e_0, e_1, e_2, e_3, e_4, e_5, e_6, p, hO, hsep2⟩
        case measure => simp [intOf]; omega
      · obtain rfl : N = i := by omega
        have hsq : ¬ (N : Int) < (N : Int) := by omega
        clear p hsep
        have hfull : ns.take N = ns := List.take_of_length_le (by rw [HNO.out, List.length_map, HN.out]; exact Nat.le_refl _)
        rw [hfull] at o
        have hnl : ns.length = N := by rw [HNO.out, List.length_map, HN.out]
        have HNL := Lib.hid hnl
        clear hfull hnl
        by_cases h5 : j = 5
        · skip
          subst h5
          obtain ⟨Y, hY⟩ : ∃ Y, (if y then yesW else noW) = Y := ⟨_, rfl⟩
          have hynl : ynL ((5 : Nat) : Int) y = [Y] := by rw [← hY]; rfl
          have HYN := Lib.hid hynl
          have HY := Lib.hid hY
          clear hynl hY
          cases y
          · skip
            obtain rfl : Y = noW := HY.out.symm
            obtain ⟨ta, tb, htt, hta, htab, htb, htq⟩ := Own.tight o (by omega)
            clear htq
            go_wp2_with (at_builtin; refine Hid.out ?_)
            refine Lib.hid ?_
            have he1 : Eff 0 0 wr (wr.alloc (.cells #[.string ⟨#[110, 111]⟩] 9)) := Eff.alloc _ _
            have tr := new_row1 wr (.string ⟨#[110, 111]⟩) 9
            have hs1 : (wr.alloc (.cells #[.string ⟨#[110, 111]⟩] 9)).heap.size = wr.heap.size + 1 := (by simp)
            generalize (wr.alloc (.cells #[.string ⟨#[110, 111]⟩] 9)) = u1 at *
            have hz1 : wr.heap.size ≤ u1.heap.size := he1.size
            have b1 : Below W.heap.size W u1 := hbW.trans (he1.below hbW.size (by omega))
            replace htt := htt.keep he1 (by omega)
            replace e_0 := he1.cell e_0 (by simp only; omega)
            replace e_1 := he1.cell e_1 (by simp only; omega)
            replace e_2 := he1.cell e_2 (by simp only; omega)
            replace e_3 := he1.cell e_3 (by simp only; omega)
            replace e_4 := he1.cell e_4 (by simp only; omega)
            replace e_5 := he1.cell e_5 (by simp only; omega)
            replace e_6 := he1.cell e_6 (by simp only; omega)
            rw [← hs1] at tr
            refine wpList_app _ rfl _ _ 61 rfl 9 i0 (.string ByteArray.empty) 1 16 Tryd.underlying61 hi0 hj0 hj1 hj2 rfl (by omega) rfl htt 1 rfl (Own.rd tr (Nat.le_refl _)) (one_str noW) (by unfold maxLen; omega) (by omega) (by omega) ?_
            intro A2 c2 u2 hO hE _
            have he2 : Eff ta tb u1 u2 := hE
            have hz2 : u1.heap.size ≤ u2.heap.size := he2.size
            have b2 : Below W.heap.size W u2 := b1.trans (he2.below b1.size (by omega))
            replace e_0 := he2.cell e_0 (by simp only; omega)
            replace e_1 := he2.cell e_1 (by simp only; omega)
            replace e_2 := he2.cell e_2 (by simp only; omega)
            replace e_3 := he2.cell e_3 (by simp only; omega)
            replace e_4 := he2.cell e_4 (by simp only; omega)
            replace e_5 := he2.cell e_5 (by simp only; omega)
            replace e_6 := he2.cell e_6 (by simp only; omega)
            replace hO : Own 9 1 u2 ta u2.heap.size A2 (N + 1 + 1) c2 (strs ((Wd :: ns.map nTx) ++ [noW])) := by rw [← strs_snoc]; exact hO
            go_wp2_with fail
            obtain ⟨gb, rfl, hg1, hg2, hgc, -⟩ := Own.form hO (by omega)
            refine (ev_join gb _ Wd (ns.map nTx ++ [noW]) (N + 1 + 1) u2 (by simp; have := HNL.out; omega) (by omega) hgc (by have := Own.le hO; omega) (Own.caps hO).1 hWl (by intro x hx; first | exact ev_short hx | exact ev_shortY (by decide) hx)).mono ?_
            rintro e wy ⟨rfl, hb⟩
            go_wp2_with fail
            go_ret
            exact ⟨by rw [HT1.out, HYN.out]; rfl, b2.trans (hb.mono b2.size)⟩
          · skip
            obtain rfl : Y = yesW := HY.out.symm
            obtain ⟨ta, tb, htt, hta, htab, htb, htq⟩ := Own.tight o (by omega)
            clear htq
            go_wp2_with (at_builtin; refine Hid.out ?_)
            refine Lib.hid ?_
            have he1 : Eff 0 0 wr (wr.alloc (.cells #[.string ⟨#[121, 101, 115]⟩] 9)) := Eff.alloc _ _
            have tr := new_row1 wr (.string ⟨#[121, 101, 115]⟩) 9
            have hs1 : (wr.alloc (.cells #[.string ⟨#[121, 101, 115]⟩] 9)).heap.size = wr.heap.size + 1 := (by simp)
            generalize (wr.alloc (.cells #[.string ⟨#[121, 101, 115]⟩] 9)) = u1 at *
            have hz1 : wr.heap.size ≤ u1.heap.size := he1.size
            have b1 : Below W.heap.size W u1 := hbW.trans (he1.below hbW.size (by omega))
            replace htt := htt.keep he1 (by omega)
            replace e_0 := he1.cell e_0 (by simp only; omega)
            replace e_1 := he1.cell e_1 (by simp only; omega)
            replace e_2 := he1.cell e_2 (by simp only; omega)
            replace e_3 := he1.cell e_3 (by simp only; omega)
            replace e_4 := he1.cell e_4 (by simp only; omega)
            replace e_5 := he1.cell e_5 (by simp only; omega)
            replace e_6 := he1.cell e_6 (by simp only; omega)
            rw [← hs1] at tr
            refine wpList_app _ rfl _ _ 61 rfl 9 i0 (.string ByteArray.empty) 1 16 Tryd.underlying61 hi0 hj0 hj1 hj2 rfl (by omega) rfl htt 1 rfl (Own.rd tr (Nat.le_refl _)) (one_str yesW) (by unfold maxLen; omega) (by omega) (by omega) ?_
            intro A2 c2 u2 hO hE _
            have he2 : Eff ta tb u1 u2 := hE
            have hz2 : u1.heap.size ≤ u2.heap.size := he2.size
            have b2 : Below W.heap.size W u2 := b1.trans (he2.below b1.size (by omega))
            replace e_0 := he2.cell e_0 (by simp only; omega)
            replace e_1 := he2.cell e_1 (by simp only; omega)
            replace e_2 := he2.cell e_2 (by simp only; omega)
            replace e_3 := he2.cell e_3 (by simp only; omega)
            replace e_4 := he2.cell e_4 (by simp only; omega)
            replace e_5 := he2.cell e_5 (by simp only; omega)
            replace e_6 := he2.cell e_6 (by simp only; omega)
            replace hO : Own 9 1 u2 ta u2.heap.size A2 (N + 1 + 1) c2 (strs ((Wd :: ns.map nTx) ++ [yesW])) := by rw [← strs_snoc]; exact hO
            go_wp2_with fail
            obtain ⟨gb, rfl, hg1, hg2, hgc, -⟩ := Own.form hO (by omega)
            refine (ev_join gb _ Wd (ns.map nTx ++ [yesW]) (N + 1 + 1) u2 (by simp; have := HNL.out; omega) (by omega) hgc (by have := Own.le hO; omega) (Own.caps hO).1 hWl (by intro x hx; first | exact ev_short hx | exact ev_shortY (by decide) hx)).mono ?_
            rintro e wy ⟨rfl, hb⟩
            go_wp2_with fail
            go_ret
            exact ⟨by rw [HT1.out, HYN.out]; rfl, b2.trans (hb.mono b2.size)⟩
        · skip
          have h5n : ((j : Int) == 5) = false := by simp; omega
          have hynl : ynL (j : Int) y = [] := by rw [ynL, if_neg (by omega)]
          have HYN := Lib.hid hynl
          clear hynl h5
          go_wp2_with fail
          obtain ⟨gb, rfl, hg1, hg2, hgc, -⟩ := Own.form o (by omega)
          refine (ev_join gb _ Wd (ns.map nTx) (N + 1) wr (by simp; have := HNL.out; omega) (by omega) hgc (by have := Own.le o; omega) (Own.caps o).1 hWl (by intro x hx; first | exact ev_short hx | exact ev_shortY (by decide) hx)).mono ?_
          rintro e wy ⟨rfl, hb⟩
          go_wp2_with fail
          go_ret
          exact ⟨by rw [HT1.out, HYN.out, List.append_nil]; rfl, hbW.trans (hb.mono hbW.size)⟩
end Go.Proofs.YtnjdmmdbminmoaaDoor
