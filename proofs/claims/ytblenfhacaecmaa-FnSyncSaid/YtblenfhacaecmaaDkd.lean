/- Disks by what they hold: one fact a disk ('RdDk' where it is read, 'OwnD' where it is the call's own); to, sz, eq, mark, held, DiskOk in these words. -/
import Derived.Test.YtblenfhacaecmaaDnw
namespace Go.Proofs.Ytblenfhacaecmaa
open Go.RowKit
/-- A disk that holds these bytes in its cells and these writes. -/
def RdDk (w : World) (B : Nat) (Ac : Option Addr) (nc : Nat) (Aw : Option Addr) (nw : Nat) (dc : List (List UInt8)) (dw : List (Int × List UInt8)) : Prop :=
  ∃ cs ws, RdCell w B Ac nc cs ∧ RdWrite w B Aw nw ws ∧ cs.map Ce.d = dc ∧ ws.map Wr.d = dw
/-- The same, of the call's own. -/
def OwnD (w : World) (lo hi : Nat) (Ac : Option Addr) (nc cc : Nat) (Aw : Option Addr) (nw cw : Nat) (dc : List (List UInt8)) (dw : List (Int × List UInt8)) : Prop :=
  ∃ cs ws, OwnDk w lo hi Ac nc cc Aw nw cw cs ws ∧ cs.map Ce.d = dc ∧ ws.map Wr.d = dw
/-- No slice of the disk is long. -/
def lenB (dc : List (List UInt8)) (dw : List (Int × List UInt8)) : Prop := dc.length ≤ 1048576 ∧ dw.length ≤ 1048576 ∧ (∀ l ∈ dc, l.length ≤ 1048576) ∧ ∀ x ∈ dw, x.2.length ≤ 1048576
def nsC (dc : List (List UInt8)) : List Nat := dc.map List.length
def nsW (dw : List (Int × List UInt8)) : List Nat := dw.map fun x => x.2.length
def totD (dc : List (List UInt8)) (dw : List (Int × List UInt8)) : Nat := totS 1 1 (nsC dc) + totS 1 1 (nsW dw)
/-- How many marks a disk takes. -/
def mkD (dc : List (List UInt8)) (dw : List (Int × List UInt8)) : Nat := totS 0 1 (nsC dc) + totS 1 1 (nsW dw)
section
variable {w w' : World} {B B' lo hi lo' hi' nc cc nw cw : Nat} {Ac Aw : Option Addr} {dc : List (List UInt8)} {dw : List (Int × List UInt8)} {cs : List Ce} {ws : List Wr}
theorem RdDk.below (h : RdDk w B Ac nc Aw nw dc dw) {C : Nat} (hb : Below C w w') (hC : B ≤ C) : RdDk w' B Ac nc Aw nw dc dw := by
  obtain ⟨cs, ws, h1, h2, h3, h4⟩ := h; exact ⟨cs, ws, h1.below hb hC, h2.below hb hC, h3, h4⟩
theorem RdDk.more (h : RdDk w B Ac nc Aw nw dc dw) (hB : B ≤ B') : RdDk w B' Ac nc Aw nw dc dw := by
  obtain ⟨cs, ws, h1, h2, h3, h4⟩ := h; exact ⟨cs, ws, h1.more hB, h2.more hB, h3, h4⟩
theorem RdDk.drew (h : RdDk w B Ac nc Aw nw dc dw) : RdDk w.drew B Ac nc Aw nw dc dw := by
  obtain ⟨cs, ws, h1, h2, h3, h4⟩ := h; exact ⟨cs, ws, h1.drew, h2.drew, h3, h4⟩
theorem RdDk.len (h : RdDk w B Ac nc Aw nw dc dw) : dc.length = nc ∧ dw.length = nw := by
  obtain ⟨cs, ws, h1, h2, rfl, rfl⟩ := h
  exact ⟨by rw [List.length_map, h1.len Ce.hf (by omega)], by rw [List.length_map, h2.len Wr.hf (by omega)]⟩
theorem ce_n (h : RdCell w B Ac nc cs) : cs.map Ce.n = nsC (cs.map Ce.d) := by
  unfold nsC; rw [List.map_map]
  exact List.map_congr_left fun x hx => (len_of_rd (h.inn x hx)).symm
theorem wr_n (h : RdWrite w B Aw nw ws) : ws.map Wr.n = nsW (ws.map Wr.d) := by
  unfold nsW; rw [List.map_map]
  exact List.map_congr_left fun x hx => (len_of_rd (h.inn x hx)).symm
theorem ce_len (h : RdCell w B Ac nc cs) {m : Nat} (hb : ∀ l ∈ cs.map Ce.d, l.length ≤ m) : ∀ x ∈ cs, x.n ≤ m := fun x hx => by
  have h1 : x.l.length = x.n := len_of_rd (h.inn x hx)
  have h2 := hb x.d (List.mem_map_of_mem hx)
  show x.n ≤ m
  rw [← h1]; exact h2
theorem wr_len (h : RdWrite w B Aw nw ws) {m : Nat} (hb : ∀ x ∈ ws.map Wr.d, x.2.length ≤ m) : ∀ x ∈ ws, x.n ≤ m := fun x hx => by
  have h1 : x.l.length = x.n := len_of_rd (h.inn x hx)
  have h2 := hb x.d (List.mem_map_of_mem hx)
  show x.n ≤ m
  rw [← h1]; exact h2
theorem OwnD.keep (h : OwnD w lo hi Ac nc cc Aw nw cw dc dw) (he : Eff lo' hi' w w') (hd : hi ≤ lo' ∨ hi' ≤ lo ∨ hi' ≤ lo') : OwnD w' lo hi Ac nc cc Aw nw cw dc dw := by
  obtain ⟨cs, ws, h1, h2, h3⟩ := h; exact ⟨cs, ws, h1.keep he hd, h2, h3⟩
theorem OwnD.rd (h : OwnD w lo hi Ac nc cc Aw nw cw dc dw) (hB : hi ≤ B) : RdDk w B Ac nc Aw nw dc dw := by
  obtain ⟨cs, ws, h1, h2, h3⟩ := h; exact ⟨cs, ws, h1.rc hB, h1.rw hB, h2, h3⟩
theorem OwnD.le (h : OwnD w lo hi Ac nc cc Aw nw cw dc dw) : hi ≤ w.heap.size := by
  obtain ⟨cs, ws, h1, _⟩ := h; exact h1.le
theorem OwnD.lohi (h : OwnD w lo hi Ac nc cc Aw nw cw dc dw) : lo ≤ hi := by
  obtain ⟨cs, ws, h1, _⟩ := h; exact h1.lohi
theorem OwnD.caps (h : OwnD w lo hi Ac nc cc Aw nw cw dc dw) : nc ≤ cc ∧ cc ≤ maxLen ∧ nw ≤ cw ∧ cw ≤ maxLen := by
  obtain ⟨cs, ws, h1, _⟩ := h; exact h1.capc
theorem OwnD.len (h : OwnD w lo hi Ac nc cc Aw nw cw dc dw) : dc.length = nc ∧ dw.length = nw := (h.rd (Nat.le_refl _)).len
theorem OwnD.wide (h : OwnD w lo hi Ac nc cc Aw nw cw dc dw) (h1 : lo' ≤ lo) (h2 : hi ≤ hi') (h3 : hi' ≤ w.heap.size) : OwnD w lo' hi' Ac nc cc Aw nw cw dc dw := by
  obtain ⟨cs, ws, ⟨m, a, b⟩, h⟩ := h
  exact ⟨cs, ws, ⟨m, a.wide h1 (Nat.le_refl _) (by have := b.lohi; have := b.le; omega), b.wide (Nat.le_refl _) h2 h3⟩, h⟩
theorem lenB_sz (h : totD dc dw ≤ 1048576) : lenB dc dw := by
  unfold totD at h
  have l1 := totS_len (s := 1) (ns := nsC dc)
  have l2 := totS_len (s := 1) (ns := nsW dw)
  simp only [nsC, nsW, List.length_map] at l1 l2
  refine ⟨by unfold nsC at h; omega, by unfold nsW at h; omega, fun l hl => ?_, fun x hx => ?_⟩
  · have := totS_mem (ns := nsC dc) (n := l.length) (List.mem_map_of_mem hl); omega
  · have := totS_mem (ns := nsW dw) (n := x.2.length) (List.mem_map_of_mem (f := fun x : Int × List UInt8 => x.2.length) hx); omega
theorem mkD_le : mkD dc dw ≤ totD dc dw := by
  have := ofs_end (ns := nsC dc)
  unfold mkD totD
  unfold totS at this ⊢
  omega
theorem lenB.mk (h : lenB dc dw) {k : Nat} (hk : k ≤ 1048576) : k + totS 0 1 (nsC dc) + totS 1 1 (nsW dw) ≤ 4611686018427387904 := by
  obtain ⟨h1, h2, h3, h4⟩ := h
  have a := totS_bd (sc := 0) (s := 1) (m := 1048576) (ns := nsC dc) (fun n hn => by obtain ⟨l, hl, rfl⟩ := List.mem_map.1 hn; exact h3 l hl)
  have b := totS_bd (sc := 1) (s := 1) (m := 1048576) (ns := nsW dw) (fun n hn => by obtain ⟨x, hx, rfl⟩ := List.mem_map.1 hn; exact h4 x hx)
  simp only [nsC, nsW, List.length_map] at a b ⊢
  have a2 : dc.length * (0 + 1048576 * 1) ≤ 1048576 * 1048576 := Nat.mul_le_mul h1 (by omega)
  have b2 : dw.length * (1 + 1048576 * 1) ≤ 1048576 * 1048577 := Nat.mul_le_mul h2 (by omega)
  omega
end
/-- A function that gives a disk of its own. -/
def MadeD (dc : List (List UInt8)) (dw : List (Int × List UInt8)) (w : World) (e : Ending) (w' : World) : Prop :=
  ∃ Ac nc cc Aw nw cw, nc = dc.length ∧ nw = dw.length ∧ e = .returned (.agg #[.slice Ac nc cc, .slice Aw nw cw]) ∧ OwnD w' w.heap.size w'.heap.size Ac nc cc Aw nw cw dc dw ∧ Below w.heap.size w w'
def MadeDT (dc : List (List UInt8)) (dw : List (Int × List UInt8)) (ok : Bool) (w : World) (e : Ending) (w' : World) : Prop :=
  ∃ Ac nc cc Aw nw cw, nc = dc.length ∧ nw = dw.length ∧ e = .returned (.tuple #[.agg #[.slice Ac nc cc, .slice Aw nw cw], .bool ok]) ∧ OwnD w' w.heap.size w'.heap.size Ac nc cc Aw nw cw dc dw ∧ Below w.heap.size w w'
theorem MadeDk.d {dc : List (List UInt8)} {dw : List (Int × List UInt8)} {w w' : World} {e : Ending} (h : MadeDk dc dw w e w') : MadeD dc dw w e w' := by
  obtain ⟨Ac, nc, cc, Aw, nw, cw, cs, ws, he, h1, h2, ho, hb⟩ := h
  have hO : OwnD w' w.heap.size w'.heap.size Ac nc cc Aw nw cw dc dw := ⟨cs, ws, ho, h1, h2⟩
  exact ⟨Ac, nc, cc, Aw, nw, cw, hO.len.1.symm, hO.len.2.symm, he, hO, hb⟩
theorem MadeDkT.d {dc : List (List UInt8)} {dw : List (Int × List UInt8)} {ok : Bool} {w w' : World} {e : Ending} (h : MadeDkT dc dw ok w e w') : MadeDT dc dw ok w e w' := by
  obtain ⟨Ac, nc, cc, Aw, nw, cw, cs, ws, he, h1, h2, ho, hb⟩ := h
  have hO : OwnD w' w.heap.size w'.heap.size Ac nc cc Aw nw cw dc dw := ⟨cs, ws, ho, h1, h2⟩
  exact ⟨Ac, nc, cc, Aw, nw, cw, hO.len.1.symm, hO.len.2.symm, he, hO, hb⟩
theorem toDisk_d (Ac : Option Addr) (nc cc : Nat) (Aw : Option Addr) (nw cw : Nat) (dc : List (List UInt8)) (dw : List (Int × List UInt8)) (w : World) (h : RdDk w w.heap.size Ac nc Aw nw dc dw) (hl : lenB dc dw) :
    Calls Try.prog 13 #[.agg #[.slice Ac nc cc, .slice Aw nw cw]] w (MadeD dc dw w) := by
  obtain ⟨h1, h2⟩ := h.len
  obtain ⟨cs, ws, hc, hw, rfl, rfl⟩ := h
  obtain ⟨l1, l2, l3, l4⟩ := hl
  exact (toDisk_any Ac nc cc cs Aw nw cw ws w hc hw (by omega) (by omega) ⟨fun x hx => by have := ce_len hc l3 x hx; omega, fun x hx => by have := wr_len hw l4 x hx; omega⟩).mono fun _ _ h => h.d
theorem szDisk_d (Ac : Option Addr) (nc cc : Nat) (Aw : Option Addr) (nw cw : Nat) (dc : List (List UInt8)) (dw : List (Int × List UInt8)) (w : World) (h : RdDk w w.heap.size Ac nc Aw nw dc dw) (hc : nc ≤ 9223372036854775807) (hw : nw ≤ 9223372036854775807) :
    Calls Try.prog 11 #[.agg #[.slice Ac nc cc, .slice Aw nw cw], .int .i64 1048576] w fun e w' => e = .returned (.int .i64 (if (1048576 : Int) - (totD dc dw : Int) < 0 then -1 else (1048576 : Int) - (totD dc dw : Int))) ∧ Below w.heap.size w w' := by
  obtain ⟨cs, ws, h1, h2, rfl, rfl⟩ := h
  have := szDisk_any Ac nc cc cs Aw nw cw ws 1048576 w h1 h2 (by omega) hc hw
  rw [ce_n h1, wr_n h2] at this
  exact this
theorem eqDisk_d (Ac : Option Addr) (nc cc : Nat) (Aw : Option Addr) (nw cw : Nat) (Ac' : Option Addr) (nc' cc' : Nat) (Aw' : Option Addr) (nw' cw' : Nat) (dc : List (List UInt8)) (dw : List (Int × List UInt8)) (w : World) (h : RdDk w w.heap.size Ac nc Aw nw dc dw) (h' : RdDk w w.heap.size Ac' nc' Aw' nw' dc dw) (hl : lenB dc dw) :
    Calls Try.prog 16 #[.agg #[.slice Ac nc cc, .slice Aw nw cw], .agg #[.slice Ac' nc' cc', .slice Aw' nw' cw']] w fun e w' => e = .returned (.bool true) ∧ Below w.heap.size w w' := by
  obtain ⟨e1, e2⟩ := h.len
  obtain ⟨cs, ws, h1, h2, h3, h4⟩ := h
  obtain ⟨cs', ws', h1', h2', h3', h4'⟩ := h'
  obtain ⟨l1, l2, l3, l4⟩ := hl
  subst h3; subst h4
  have a := ce_len h1 l3; have b := wr_len h2 l4
  have a' := ce_len h1' (h3'.symm ▸ l3); have b' := wr_len h2' (h4'.symm ▸ l4)
  exact eqDisk_same Ac nc cc cs Aw nw cw ws Ac' nc' cc' cs' Aw' nw' cw' ws' w h1 h2 h1' h2' h3'.symm h4'.symm (by omega) (by omega) ⟨fun x hx => by have := a x hx; omega, fun x hx => by have := b x hx; omega⟩ ⟨fun x hx => by have := a' x hx; omega, fun x hx => by have := b' x hx; omega⟩
def MarkedD (Ac : Option Addr) (nc cc : Nat) (Aw : Option Addr) (nw cw k lo hi : Nat) (dc : List (List UInt8)) (dw : List (Int × List UInt8)) (w : World) (e : Ending) (w' : World) : Prop :=
  e = .returned (.int .i64 ((k + mkD dc dw : Nat) : Int)) ∧ OwnD w' lo hi Ac nc cc Aw nw cw (marksCell k (nsC dc)) (marksWrite (k + totS 0 1 (nsC dc)) (nsW dw)) ∧ Eff lo hi w w'
theorem markDisk_d (Ac : Option Addr) (nc cc : Nat) (Aw : Option Addr) (nw cw k0 lo hi : Nat) (dc : List (List UInt8)) (dw : List (Int × List UInt8)) (w : World) (h : OwnD w lo hi Ac nc cc Aw nw cw dc dw) (hl : lenB dc dw) (hk : k0 ≤ 1048576) (z : Int) (hz : z = (k0 : Int)) :
    Calls Try.prog 17 #[.agg #[.slice Ac nc cc, .slice Aw nw cw], .int .i64 z] w (MarkedD Ac nc cc Aw nw cw k0 lo hi dc dw w) := by
  subst hz
  have hm := hl.mk hk
  obtain ⟨e1, e2⟩ := h.len
  obtain ⟨cs, ws, ho, rfl, rfl⟩ := h
  have h1 := ho.rc (Nat.le_refl _)
  have h2 := ho.rw (Nat.le_refl _)
  obtain ⟨l1, l2, l3, l4⟩ := hl
  refine (markDisk_any Ac nc cc cs Aw nw cw ws _ _ k0 lo hi w ho (ce_n h1) (wr_n h2) hm (by omega) (by omega) (fun m hm => ?_) (fun m hm => ?_)).mono ?_
  · obtain ⟨l, hl, rfl⟩ := List.mem_map.1 hm; have := l3 l hl; omega
  · obtain ⟨x, hx, rfl⟩ := List.mem_map.1 hm; have := l4 x hx; omega
  · rintro e w' ⟨cs', ws', rfl, h3, h4, _, _, ho', he⟩
    exact ⟨by unfold mkD; rw [Nat.add_assoc], ⟨cs', ws', ho', h3, h4⟩, he⟩
theorem heldDisk_d (Ac : Option Addr) (nc cc : Nat) (Aw : Option Addr) (nw cw k0 : Nat) (dc : List (List UInt8)) (dw : List (Int × List UInt8)) (w : World) (h : RdDk w w.heap.size Ac nc Aw nw (marksCell k0 (nsC dc)) (marksWrite (k0 + totS 0 1 (nsC dc)) (nsW dw))) (hl : lenB dc dw) (hk : k0 ≤ 1048576) (z : Int) (hz : z = (k0 : Int)) :
    Calls Try.prog 23 #[.agg #[.slice Ac nc cc, .slice Aw nw cw], .int .i64 z] w fun e w' => e = .returned (.int .i64 ((k0 + mkD dc dw : Nat) : Int)) ∧ Below w.heap.size w w' := by
  subst hz
  have hm := hl.mk hk
  obtain ⟨e1, e2⟩ := h.len
  obtain ⟨cs, ws, h1, h2, h3, h4⟩ := h
  obtain ⟨l1, l2, l3, l4⟩ := hl
  rw [marksCell_len, nsC, List.length_map] at e1
  rw [marksWrite_len, nsW, List.length_map] at e2
  have n1 : cs.map Ce.n = nsC dc := by
    rw [ce_n h1, h3]
    apply List.ext_getElem?
    intro j
    unfold nsC
    rw [List.getElem?_map]
    rcases hj : (dc.map List.length)[j]? with _ | m
    · rw [List.getElem?_eq_none (by have := List.getElem?_eq_none_iff.1 hj; rw [marksCell_len]; exact this)]; rfl
    · rw [marksCell_get hj, Option.map_some, marksB_len]
  have n2 : ws.map Wr.n = nsW dw := by
    rw [wr_n h2, h4]
    apply List.ext_getElem?
    intro j
    unfold nsW
    rw [List.getElem?_map]
    rcases hj : (dw.map fun x => x.2.length)[j]? with _ | m
    · rw [List.getElem?_eq_none (by have := List.getElem?_eq_none_iff.1 hj; rw [marksWrite_len]; exact this), hj]; rfl
    · rw [marksWrite_get hj, hj, Option.map_some, marksB_len]
  refine (heldDisk_yes Ac nc cc cs Aw nw cw ws _ _ k0 w h1 h2 h3 h4 n1 n2 hm (by omega) (by omega) (fun m hm => ?_) (fun m hm => ?_)).mono ?_
  · obtain ⟨l, hl, rfl⟩ := List.mem_map.1 hm; have := l3 l hl; omega
  · obtain ⟨x, hx, rfl⟩ := List.mem_map.1 hm; have := l4 x hx; omega
  · rintro e w' ⟨rfl, hb⟩
    exact ⟨by unfold mkD; rw [Nat.add_assoc], hb⟩
theorem impl_DiskOk_d (Ac : Option Addr) (nc cc : Nat) (Aw : Option Addr) (nw cw : Nat) (dc : List (List UInt8)) (dw : List (Int × List UInt8)) (w : World) (h : RdDk w w.heap.size Ac nc Aw nw dc dw) (hl : lenB dc dw) :
    Calls Try.prog 27 #[.agg #[.slice Ac nc cc, .slice Aw nw cw]] w fun e w' => e = .returned (.bool (dkOk dc dw)) ∧ Below w.heap.size w w' := by
  obtain ⟨e1, e2⟩ := h.len
  obtain ⟨cs, ws, h1, h2, rfl, rfl⟩ := h
  obtain ⟨l1, l2, l3, l4⟩ := hl
  exact impl_DiskOk Ac nc cc cs Aw nw cw ws w h1 h2 (by omega) (by omega)
theorem spec_DiskOk_d (Ac : Option Addr) (nc cc : Nat) (Aw : Option Addr) (nw cw : Nat) (dc : List (List UInt8)) (dw : List (Int × List UInt8)) (w : World) (h : RdDk w w.heap.size Ac nc Aw nw dc dw) (hl : lenB dc dw) :
    Calls Try.prog 26 #[.agg #[.slice Ac nc cc, .slice Aw nw cw]] w fun e w' => e = .returned (.bool (dkOk dc dw)) ∧ Below w.heap.size w w' := by
  obtain ⟨e1, e2⟩ := h.len
  obtain ⟨cs, ws, h1, h2, rfl, rfl⟩ := h
  obtain ⟨l1, l2, l3, l4⟩ := hl
  exact spec_DiskOk Ac nc cc cs Aw nw cw ws w h1 h2 (by omega) (by omega)
end Go.Proofs.Ytblenfhacaecmaa
