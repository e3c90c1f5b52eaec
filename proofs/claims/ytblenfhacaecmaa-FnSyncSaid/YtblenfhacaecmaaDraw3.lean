/- Draws of bytes and of sectors (l03Bytes, l03Sector, l03Any). -/
import Derived.Test.YtblenfhacaecmaaCur2
import Derived.Test.YtblenfhacaecmaaSec
import Derived.Test.YtblenfhacaecmaaVar2
namespace Go.Proofs.Ytblenfhacaecmaa
open Go.RowKit
theorem Cur.lt {B g : Nat} {w : World} (h : Cur B w g) : g < w.heap.size := by
  obtain ⟨_, _, _, _, _, _, h, _⟩ := h
  exact lt_of_block h
theorem Cur.le {B g : Nat} {w : World} (h : Cur B w g) : B ≤ g := by
  obtain ⟨_, _, _, _, _, _, _, _, _, _, h⟩ := h
  exact h
theorem Cur.keep {B g lo hi : Nat} {w w' : World} (h : Cur B w g) (he : Eff lo hi w w') (hg : g < lo ∨ hi ≤ g) (hB : B ≤ lo ∨ hi = 0) : Cur B w' g := by
  have hl := h.lt
  obtain ⟨A, n, c, l, i, x, hb, hr, h1, h2, h3⟩ := h
  exact ⟨A, n, c, l, i, x, (he.block g hl hg).trans hb, hr.eff he hB, h1, h2, h3⟩
theorem CurPost.eff {B g : Nat} {p : Int → Prop} {w w' : World} {e : Ending} (h : CurPost B g p w e w') : ∃ x, e = .returned (.int .i64 x) ∧ p x ∧ Cur B w' g ∧ Eff g (g + 1) w w' := by
  obtain ⟨x, he, hp, hc, hg⟩ := h
  exact ⟨x, he, hp, hc, Eff.of_grown hg (fun k hk => by cases hk; omega)⟩
theorem Eff.over {lo hi lo' hi' : Nat} {a b c : World} (h : Eff lo hi a b) (k : Eff lo' hi' b c) (hl : a.heap.size ≤ lo') : Eff lo hi a c :=
  ⟨k.os.trans h.os, k.tape.trans h.tape, k.output.trans h.output, Nat.le_trans h.size k.size, fun i hi hn => (k.block i (Nat.lt_of_lt_of_le hi h.size) (.inl (by omega))).trans (h.block i hi hn)⟩
theorem Eff.step {g lo hi : Nat} {a b c : World} (h : Eff g (g + 1) a b) (k : Eff lo hi b c) (hl : a.heap.size ≤ lo ∨ hi = 0 ∨ (g ≤ lo ∧ hi ≤ g + 1)) : Eff g (g + 1) a c :=
  ⟨k.os.trans h.os, k.tape.trans h.tape, k.output.trans h.output, Nat.le_trans h.size k.size, fun i hi hn => (k.block i (Nat.lt_of_lt_of_le hi h.size) (by omega)).trans (h.block i hi hn)⟩
theorem byte_of {y : Int} (h0 : 0 ≤ y) (h1 : y < 256) : ∃ u : UInt8, y = (u.toNat : Int) := ⟨UInt8.ofNat y.toNat, by rw [UInt8.toNat_ofNat']; omega⟩
/-- A row of bytes of the call's own, at most so many. -/
def BytesPost (B g : Nat) (most : Int) (w : World) (e : Ending) (w' : World) : Prop :=
  ∃ (A : Option Addr) (n c : Nat) (l : List UInt8), e = .returned (.slice A n c) ∧ (n : Int) ≤ most ∧ Cur B w' g ∧ OwnB w' w.heap.size w'.heap.size A n c l ∧ Eff g (g + 1) w w'
set_option maxHeartbeats 1000000 in
theorem l03Bytes_any (B g : Nat) (most : Int) (h0 : 0 ≤ most) (hm : most ≤ 1000) (w : World) (h : Cur B w g) : Calls Try.prog 93 #[.pointer (some ⟨g, 0, none⟩), .int .i64 most] w (BytesPost B g most w) := by
  obtain ⟨i0, hi0, hj0, hj1, hj2⟩ := info_parts info_u8
  go_enter Try.func93, Try.ntmps93
  go_wp2_with fail
  refine (l01Below_any B g (most + 1) (by omega) w h).mono ?_
  rintro e w1 hpost
  obtain ⟨x, rfl, ⟨hx0, hx1, -⟩, hc1, he1⟩ := hpost.eff
  clear hpost
  have hx2 := hx1 (by omega)
  clear hx1
  obtain ⟨n, rfl⟩ : ∃ n : Nat, x = n := ⟨x.toNat, by omega⟩
  go_wp2_with fail
  have hz1 := he1.size
  have he2 : Eff g (g + 1) w (w1.alloc (.cells #[] 5)) := he1.new _
  have hown : OwnB (w1.alloc (.cells #[] 5)) w.heap.size (w1.alloc (.cells #[] 5)).heap.size (some ⟨w1.heap.size, 0, none⟩) 0 0 [] := Own.wide (new_empty w1 5 1) hz1 (by simp) (Nat.le_refl _)
  have hc2 : Cur B (w1.alloc (.cells #[] 5)) g := hc1.keep (Eff.alloc _ _) (.inr (Nat.zero_le _)) (.inr rfl)
  clear hc1 he1
  go_loopw [6, 7] (fun vo vi wr => ∃ (k c : Nat) (A : Option Addr) (l : List UInt8), k ≤ n ∧ vi = .int .i64 (k : Int) ∧ vo = .slice A k c ∧ OwnB wr w.heap.size wr.heap.size A k c l ∧ Cur B wr g ∧ Eff g (g + 1) w wr) (fun _ vi _ => n - (intOf vi).toNat)
  case atStart => exact ⟨0, 0, _, [], Nat.zero_le _, rfl, rfl, hown, hc2, he2⟩
  case round =>
    obtain ⟨k, c, A, l, hk, rfl, rfl, ho, hc, he⟩ := hrel
    by_cases hlt : k < n
    · have hz := he.size
      have hgl := h.lt
      go_wp2_with (first | (go_at_call 88; refine (l01Byte_any B g _ hc).mono ?_; rintro e w2 hpost; obtain ⟨y, rfl, ⟨hy0, hy1⟩, hc3, he3⟩ := hpost.eff; clear hpost; replace ho := ho.keep he3 (by omega); have hz3 := he3.size) | (at_builtin; refine wpList_app _ rfl _ _ 27 rfl 5 i0 (.int .u8 0) 1 1 Try.underlying27 hi0 hj0 hj1 hj2 rfl (by omega) rfl (Own.alloc ho _) 1 rfl (rd_new1 _ _ _) (by intro u hu; simp at hu; subst hu; rfl) (by unfold maxLen; omega) (by omega) (by simp; omega) ?_; intro A4 c4 w4 hO hE _))
      go_roundw
      case rel =>
        obtain ⟨u, hu⟩ := byte_of hy0 hy1
        refine ⟨k + 1, c4, A4, l ++ [u], by omega, by go_num, by go_num, ?_, ?_, ?_⟩
        · rw [hu, bytes_snoc l u rfl] at hO
          exact hO
        · exact (hc3.keep (Eff.alloc _ _) (.inr (Nat.zero_le _)) (.inr rfl)).keep hE (by omega) (by have := h.le; omega)
        · exact ((he.trans he3).new _).over hE (Nat.le_refl _)
      case measure => simp [intOf]; omega
    · have hge : k = n := by omega
      subst hge
      go_wp2
      go_ret
      exact ⟨A, k, c, l, rfl, by omega, hc, ho, he⟩
end Go.Proofs.Ytblenfhacaecmaa
