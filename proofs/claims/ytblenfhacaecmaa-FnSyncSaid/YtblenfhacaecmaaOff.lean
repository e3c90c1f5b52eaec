/- A block that a row of structs does not lie in. -/
import Derived.Test.YtblenfhacaecmaaRws
namespace Go.Proofs.Ytblenfhacaecmaa
open Go.RowKit

/-! ### a block that a row of structs does not lie in -/
def OffR {α : Type} (g : α → Sl) (A : Option Addr) (n c : Nat) (es : List α) (q : Nat) : Prop := (∀ k, (Value.slice A n c).ownBlock = some k → k ≠ q) ∧ ∀ x ∈ es, ∀ b, (g x).blk = some b → b ≠ q
section
variable {α : Type} {et k it s lo hi n c q : Nat} {f : α → List Value} {g : α → Sl} {w w' w1 w2 : World} {A : Option Addr} {es : List α}
theorem OwnR.off (h : OwnR et k it s f g w lo hi A n c es) (hq : hi ≤ q ∨ q < lo) : OffR g A n c es q :=
  ⟨fun k hk => by have := h.row.lohi k hk; omega, fun x hx b hb => by have := h.inn.lt hx hb; omega⟩
theorem OwnR.keepOff (h : OwnR et k it s f g w lo hi A n c es) (ho : OffR g A n c es q) (he : Eff q (q + 1) w w') : OwnR et k it s f g w' lo hi A n c es :=
  ⟨Own.ne h.row he (fun k hk => by have := ho.1 k hk; omega), ⟨fun x hx => Own.ne (h.inn.inn x hx) he (fun k hk => by have := ho.2 x hx k hk; omega), h.inn.out, h.inn.pw, Nat.le_trans h.inn.le he.size, h.inn.lohi⟩⟩
theorem OwnR.snocOff {b c2 : Nat} {A2 : Option Addr} (h : OwnR et k it s f g w lo hi A n c es) {y : α} (hy : Own it s w1 w.heap.size w1.heap.size (g y).A (g y).n (g y).c (g y).xs) (hq : hi ≤ q) (hq2 : q < w.heap.size) (hb : b ≤ hi)
    {wa : World} (hwa : w.heap.size ≤ wa.heap.size) (hK : ∀ p, (Value.slice A2 (n + 1) c2).ownBlock = some p → p < b ∨ wa.heap.size ≤ p) : OffR g A2 (n + 1) c2 (es ++ [y]) q :=
  ⟨fun k hk => by have := hK k hk; omega, fun x hx b' hb' => by
    rcases List.mem_append.1 hx with hx | hx
    · have := h.inn.lt hx hb'; omega
    · simp at hx; subst hx; have := hy.lohi b' hb'; omega⟩
end
end Go.Proofs.Ytblenfhacaecmaa
