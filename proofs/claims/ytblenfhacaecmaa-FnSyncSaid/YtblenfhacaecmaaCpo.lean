/- 'copy' onto bytes of the call's own; a struct of a row replaced by one with a new inner slice; Clamp (program). -/
import Derived.Test.YtblenfhacaecmaaOff
import Derived.Test.YtblenfhacaecmaaBy
import Derived.Laws.CopyOwn
namespace Go.Proofs.Ytblenfhacaecmaa
open Go.RowKit
section
variable {P : Program}
theorem wpList_cpy {w : World} {ops : Array Oper} {rest : List Oper} {o : Oper} {a : Act} {Q : Exit → Act → World → Prop} (hgd : o.guard = none) (d s : Operand) (dT sT : TypeId)
    (ho : o.op = .call { callee := .builtin .copy, args := #[d, s], argTypes := #[dT, sT] }) (elem : TypeId) (hu : P.underlying dT = some (.slice elem)) (hsz : (P.info? elem).map (·.size) = some 1)
    {lo hi n c e : Nat} {A : Option Addr} {xs : List Value} (hd : a.eval d = .slice A n c) (hown : Own e 1 w lo hi A n c xs) {B m : Nat} {A' : Option Addr} {ys : List Value} (c' : Nat) (hs : a.eval s = .slice A' m c') (hr : Rd w B 1 A' m ys)
    (h1 : ∀ v ∈ ys, v.oneCell' = true) (hm0 : 0 < m) (hmn : m ≤ n)
    (h : ∀ w', Own e 1 w' lo hi A n c (ys ++ xs.drop m) → Eff lo hi w w' → wpList P ops Q rest (a.put o.dst (goInt m)) w') : wpList P ops Q (o :: rest) a w := by
  have hyl : ys.length = m := by have := hr.1; omega
  have hxl : xs.length = n := by have := hown.len; omega
  rcases hown.row.2 with ⟨_, hn0⟩ | ⟨g, cap, cur, hv, hb, hh, hnc, hcm, hcs, htake⟩
  · omega
  · simp only [Value.slice.injEq, true_and] at hv
    obtain ⟨rfl, rfl⟩ := hv
    obtain ⟨b, off, rfl, hbB, hc⟩ := hr.form (by omega)
    have hfit : 0 + ys.length ≤ cur.size := by omega
    refine wpList_copy_own hgd d s dT sT ho elem hu hsz g 0 n c ⟨b, off, none⟩ m c' hd hs cur e hh ys (by rw [hyl]; exact (Nat.min_eq_left hmn).symm) (fun j v hv => by rw [Addr.add_lit]; exact hc j v hv) hfit h1 ?_
    have hg2 := hown.top g rfl
    have hlen : (cur.toList.take 0 ++ (ys ++ cur.toList.drop (0 + ys.length))).length = cur.size := by simp; omega
    rw [hyl] at hlen ⊢
    refine h _ ⟨⟨?_, .inr ⟨g, c, _, rfl, hb, setRow_heap w g cur _ e _ hh, hnc, hcm, ?_, ?_⟩⟩, hown.top, ?_⟩ ?_
    · simp; omega
    · rw [List.size_toArray, hlen]; exact hcs
    · simp only [List.take_zero, List.nil_append, Nat.zero_add]
      rw [List.take_append, hyl, List.take_of_length_le (by omega), ← htake, List.drop_take]
    · have := hown.le; simpa [World.setRow] using this
    · exact ⟨rfl, rfl, rfl, by simp [World.setRow], fun k hk hn => setRow_other w g k _ (by omega)⟩
end
section
variable {α : Type} {et k it s lo hi n c q : Nat} {f : α → List Value} {g : α → Sl} {w w1 w2 : World} {A : Option Addr} {es : List α}
/-- A struct is replaced by one with a new inner slice. -/
theorem OwnR.setNew (h : OwnR et k it s f g w lo hi A n c es) {i gb : Nat} {y : α} (he : Eff 0 0 w w1) (hy : Own it s w1 w.heap.size w1.heap.size (g y).A (g y).n (g y).c (g y).xs) (hob : (Value.slice A n c).ownBlock = some gb)
    (hE : Eff gb (gb + 1) w1 w2) (hO : ∀ xs, Own et k w1 lo hi A n c xs → xs = es.flatMap f → Own et k w2 lo hi A n c ((es.set i y).flatMap f)) : OwnR et k it s f g w2 lo w2.heap.size A n c (es.set i y) := by
  have hle := h.le
  have s1 := he.size
  have s2 := hE.size
  have i1 := h.inn.set (i := i) he (B := w.heap.size) h.le hy (fun q hq => (h.row.lohi q hq).2.2)
  have i2 := i1.outer hE (fun q h1 h2 => by rw [hob]; congr 1; omega)
  exact ⟨Own.wide (hO _ (Own.keep h.row he (.inr (.inr (Nat.le_refl _)))) rfl) (Nat.le_refl _) (by omega) (Nat.le_refl _), i2.wide (Nat.le_refl _) (by omega) (Nat.le_refl _)⟩
theorem OffR.set {i : Nat} {y : α} (h : OffR g A n c es q) (hy : ∀ b, (g y).blk = some b → b ≠ q) : OffR g A n c (es.set i y) q :=
  ⟨h.1, fun x hx b hb => by
    rcases List.mem_or_eq_of_mem_set hx with hx | rfl
    · exact h.2 x hx b hb
    · exact hy b hb⟩
end
theorem Rd.take {w : World} {B n m : Nat} {A : Option Addr} {l : List UInt8} (h : Rd w B 1 A n (Lib.byteCells l)) (hm : m ≤ n) : Rd w B 1 A m (Lib.byteCells (l.take m)) := by
  have hl := len_of_rd h
  refine ⟨by simp [Lib.byteCells]; omega, ?_⟩
  rcases h.2 with h0 | ⟨b, off, e, hb, hc⟩
  · left
    have : l = [] := by simpa [Lib.byteCells] using h0
    subst this; simp [Lib.byteCells]
  · refine .inr ⟨b, off, e, hb, fun j u hu => hc j u ?_⟩
    have hj : j < m := by have := (List.getElem?_eq_some_iff.1 hu).1; simp [Lib.byteCells] at this; omega
    simp only [Lib.byteCells, List.getElem?_map, List.getElem?_take, hj, if_true] at hu ⊢
    exact hu
/-- Clamp. -/
def clampI (n lo hi : Int) : Int := if n < lo then lo else if hi < n then hi else n
theorem impl_Clamp_any (n lo hi : Int) (w : World) : Calls Try.prog 66 #[.int .i64 n, .int .i64 lo, .int .i64 hi] w fun e w' => e = .returned (.int .i64 (clampI n lo hi)) ∧ w = w' := by
  by_cases h1 : n < lo
  · rw [show clampI n lo hi = lo by simp [clampI, h1]]
    go_enter Try.func66, Try.ntmps66
    go_wp2
    go_ret
    exact ⟨rfl, rfl⟩
  · by_cases h2 : hi < n
    · rw [show clampI n lo hi = hi by simp [clampI, h1, h2]]
      go_enter Try.func66, Try.ntmps66
      go_wp2
      go_ret
      exact ⟨rfl, rfl⟩
    · rw [show clampI n lo hi = n by simp [clampI, h1, h2]]
      go_enter Try.func66, Try.ntmps66
      go_wp2
      go_ret
      exact ⟨rfl, rfl⟩
end Go.Proofs.Ytblenfhacaecmaa
