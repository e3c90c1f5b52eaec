/- Rows of structs that hold slices: the outer row, the inner slices ('Inns'), no two of them in one block. Over any program. -/
import Derived.Test.YtblenfhacaecmaaSl
namespace Go.Proofs.Ytblenfhacaecmaa
open Go.RowKit
theorem flat_len {α : Type} {s : Nat} {f : α → List Value} (hf : ∀ x, (f x).length = s) (xs : List α) : (xs.flatMap f).length = xs.length * s := by
  induction xs with
  | nil => simp
  | cons x xs ih => simp only [List.flatMap_cons, List.length_append, hf, ih, List.length_cons, Nat.succ_mul]; omega
theorem flat_get {α : Type} {s : Nat} {f : α → List Value} (hf : ∀ x, (f x).length = s) (xs : List α) (i j : Nat) (x : α) (hx : xs[i]? = some x) (hj : j < s) : (xs.flatMap f)[i * s + j]? = (f x)[j]? := by
  induction xs generalizing i with
  | nil => simp at hx
  | cons y xs ih =>
    cases i with
    | zero =>
      simp only [List.getElem?_cons_zero, Option.some.injEq] at hx
      subst hx
      rw [List.flatMap_cons, List.getElem?_append_left (by rw [hf]; omega)]
      simp
    | succ i =>
      rw [List.flatMap_cons, List.getElem?_append_right (by rw [hf, Nat.succ_mul]; omega), hf, show (i + 1) * s + j - s = i * s + j by rw [Nat.succ_mul]; omega]
      exact ih i (by simpa using hx)
theorem flat_set {α : Type} {s : Nat} {f : α → List Value} (hf : ∀ x, (f x).length = s) (xs : List α) (i : Nat) (y : α) (hi : i < xs.length) (q : Nat) :
    ((xs.set i y).flatMap f)[q]? = if i * s ≤ q ∧ q < i * s + s then (f y)[q - i * s]? else (xs.flatMap f)[q]? := by
  induction xs generalizing i q with
  | nil => simp at hi
  | cons x xs ih =>
    cases i with
    | zero =>
      rw [List.set_cons_zero, List.flatMap_cons, List.flatMap_cons]
      by_cases h : q < s
      · rw [List.getElem?_append_left (by rw [hf]; omega), if_pos (by omega)]; simp
      · rw [List.getElem?_append_right (by rw [hf]; omega), if_neg (by omega), List.getElem?_append_right (by rw [hf]; omega), hf, hf]
    | succ i =>
      rw [List.set_cons_succ, List.flatMap_cons, List.flatMap_cons, Nat.succ_mul]
      by_cases h : q < s
      · rw [List.getElem?_append_left (by rw [hf]; omega), if_neg (by omega), List.getElem?_append_left (by rw [hf]; omega)]
      · rw [List.getElem?_append_right (by rw [hf]; omega), List.getElem?_append_right (by rw [hf]; omega), hf, ih i (by simpa using hi)]
        by_cases h2 : i * s ≤ q - s ∧ q - s < i * s + s
        · rw [if_pos h2, if_pos (by omega), show q - s - i * s = q - (i * s + s) by omega]
        · rw [if_neg h2, if_neg (by omega)]
theorem flat_snoc {α : Type} (f : α → List Value) (xs : List α) (y : α) : (xs ++ [y]).flatMap f = xs.flatMap f ++ f y := by simp

def Sl.blk (x : Sl) : Option Nat := x.v.ownBlock
section
variable {e s lo hi lo' hi' n c B : Nat} {w w' : World} {A : Option Addr} {xs : List Value}
theorem Own.lohi (h : Own e s w lo hi A n c xs) : ∀ k, (Value.slice A n c).ownBlock = some k → lo ≤ k ∧ k < hi ∧ k < w.heap.size := fun k hk => ⟨(h.row.lt k hk).1, h.top k hk, (h.row.lt k hk).2⟩
/-- The same row between the ends of its own block. -/
theorem Own.tight (h : Own e s w lo hi A n c xs) (hlo : lo ≤ hi) : ∃ a b, Own e s w a b A n c xs ∧ lo ≤ a ∧ a ≤ b ∧ b ≤ hi ∧ ∀ k, a ≤ k → k < b → (Value.slice A n c).ownBlock = some k := by
  rcases h.row.2 with ⟨hv, hn⟩ | ⟨g, cap, cur, hv, hb, hh, r⟩
  · exact ⟨hi, hi, ⟨⟨h.row.1, .inl ⟨hv, hn⟩⟩, fun k hk => by rw [hv] at hk; simp [Value.ownBlock] at hk, h.le⟩, hlo, Nat.le_refl _, Nat.le_refl _, fun k h1 h2 => absurd h2 (by omega)⟩
  · have ht := h.top g (by rw [hv]; rfl)
    refine ⟨g, g + 1, ⟨⟨h.row.1, .inr ⟨g, cap, cur, hv, Nat.le_refl _, hh, r⟩⟩, fun k hk => ?_, by have := lt_of_block hh; omega⟩, hb, by omega, by omega, fun k h1 h2 => ?_⟩
    · rw [hv] at hk; simp [Value.ownBlock] at hk; omega
    · rw [hv]; simp [Value.ownBlock]; omega
theorem Own.madeR (h : Own e s w lo hi A n c xs) (he : Eff lo' hi' w w') (hd : hi ≤ lo' ∨ hi' ≤ lo ∨ hi' ≤ lo') (hB : B ≤ lo) : Own e s w' B w'.heap.size A n c xs :=
  Own.wide (h.keep he hd) hB (Nat.le_trans (Own.le h) he.size) (Nat.le_refl _)
theorem Own.ne {a b : Nat} (h : Own e s w lo hi A n c xs) (he : Eff a b w w') (hd : ∀ k, (Value.slice A n c).ownBlock = some k → k < a ∨ b ≤ k) : Own e s w' lo hi A n c xs := by
  refine ⟨⟨h.row.1, ?_⟩, h.top, Nat.le_trans h.le he.size⟩
  rcases h.row.2 with hx | ⟨k, cap, cur, hv, hb, hh, r⟩
  · exact .inl hx
  · exact .inr ⟨k, cap, cur, hv, hb, (he.block k (lt_of_block hh) (hd k (by rw [hv]; rfl))).trans hh, r⟩
theorem Own.of_get {ys : List Value} (h : Own e s w lo hi A n c xs) (hy : ∀ j : Nat, j < n * s → xs[j]? = ys[j]?) (hl : ys.length = n * s) : Own e s w lo hi A n c ys := by
  have : xs = ys := by
    apply List.ext_getElem?
    intro j
    by_cases hj : j < n * s
    · exact hy j hj
    · rw [List.getElem?_eq_none (by have := h.len; omega), List.getElem?_eq_none (by omega)]
  exact this ▸ h
end

/-- Inner slices of the call's own: each one owned between lo and hi, none in the outer row's block 'ob', no two in one block. -/
structure Inns {α : Type} (it s : Nat) (g : α → Sl) (w : World) (lo hi : Nat) (ob : Option Nat) (es : List α) : Prop where
  inn : ∀ x ∈ es, Own it s w lo hi (g x).A (g x).n (g x).c (g x).xs
  out : ∀ x ∈ es, ∀ b, (g x).blk = some b → ob ≠ some b
  pw : ∀ (i j : Nat) (x y : α) (b : Nat), es[i]? = some x → es[j]? = some y → (g x).blk = some b → (g y).blk = some b → i = j
  le : hi ≤ w.heap.size
  lohi : lo ≤ hi
section
variable {α : Type} {it s lo hi lo' hi' : Nat} {g : α → Sl} {w w' : World} {ob ob' : Option Nat} {es : List α}
theorem Inns.nil (h1 : lo ≤ hi) (h2 : hi ≤ w.heap.size) : Inns it s g w lo hi ob [] := ⟨by simp, by simp, by simp, h2, h1⟩
theorem Inns.keep (h : Inns it s g w lo hi ob es) (he : Eff lo' hi' w w') (hd : hi ≤ lo' ∨ hi' ≤ lo ∨ hi' ≤ lo') : Inns it s g w' lo hi ob es := ⟨fun x hx => Own.keep (h.inn x hx) he hd, h.out, h.pw, Nat.le_trans h.le he.size, h.lohi⟩
/-- What changes the outer row's block alone changes no inner slice. -/
theorem Inns.outer {a b : Nat} (h : Inns it s g w lo hi ob es) (he : Eff a b w w') (hd : ∀ k, a ≤ k → k < b → ob = some k) : Inns it s g w' lo hi ob es :=
  ⟨fun x hx => Own.ne (h.inn x hx) he (fun k hk => by
    by_cases h2 : a ≤ k ∧ k < b
    · exact absurd (hd k h2.1 h2.2) (h.out x hx k hk)
    · omega), h.out, h.pw, Nat.le_trans h.le he.size, h.lohi⟩
theorem Inns.wide (h : Inns it s g w lo hi ob es) (h1 : lo' ≤ lo) (h2 : hi ≤ hi') (h3 : hi' ≤ w.heap.size) : Inns it s g w lo' hi' ob es := ⟨fun x hx => Own.wide (h.inn x hx) h1 h2 h3, h.out, h.pw, h3, by have := h.lohi; omega⟩
theorem Inns.lt (h : Inns it s g w lo hi ob es) {x : α} (hx : x ∈ es) {b : Nat} (hb : (g x).blk = some b) : lo ≤ b ∧ b < hi ∧ b < w.heap.size := (h.inn x hx).lohi b hb
theorem Inns.block (h : Inns it s g w lo hi ob es) (ho : ∀ k, ob' = some k → ob = some k ∨ k < lo ∨ hi ≤ k) : Inns it s g w lo hi ob' es :=
  ⟨h.inn, fun x hx b hb hk => by
    rcases ho b hk with h1 | h1
    · exact h.out x hx b hb h1
    · have := h.lt hx hb; omega, h.pw, h.le, h.lohi⟩
theorem Inns.snoc (h : Inns it s g w lo hi ob es) {y : α} (hy : Own it s w lo hi (g y).A (g y).n (g y).c (g y).xs) (ho : ∀ b, (g y).blk = some b → ob ≠ some b) (hn : ∀ x ∈ es, ∀ b, (g x).blk = some b → (g y).blk ≠ some b) : Inns it s g w lo hi ob (es ++ [y]) := by
  refine ⟨fun x hx => ?_, fun x hx => ?_, fun i j x x' b hi hj hx hx' => ?_, h.le, h.lohi⟩
  · rcases List.mem_append.1 hx with hx | hx
    · exact h.inn x hx
    · simp at hx; subst hx; exact hy
  · rcases List.mem_append.1 hx with hx | hx
    · exact h.out x hx
    · simp at hx; subst hx; exact ho
  · have li := (List.getElem?_eq_some_iff.1 hi).1
    have lj := (List.getElem?_eq_some_iff.1 hj).1
    simp only [List.length_append, List.length_cons, List.length_nil] at li lj
    by_cases i1 : i < es.length
    · rw [List.getElem?_append_left i1] at hi
      by_cases j1 : j < es.length
      · rw [List.getElem?_append_left j1] at hj
        exact h.pw i j x x' b hi hj hx hx'
      · have : j = es.length := by omega
        subst this
        simp at hj; subst hj
        exact absurd hx' (hn x (List.mem_of_getElem? hi) b hx)
    · have : i = es.length := by omega
      subst this
      simp at hi; subst hi
      by_cases j1 : j < es.length
      · rw [List.getElem?_append_left j1] at hj
        exact absurd hx (hn x' (List.mem_of_getElem? hj) b hx')
      · omega
/-- One more inner slice, made above all that was there. -/
theorem Inns.new (h : Inns it s g w lo hi ob es) (he : Eff 0 0 w w') {y : α} {B : Nat} (hB : hi ≤ B) (hy : Own it s w' B w'.heap.size (g y).A (g y).n (g y).c (g y).xs) (ho : ∀ k, ob = some k → k < B) : Inns it s g w' lo w'.heap.size ob (es ++ [y]) := by
  have h0 := h.lohi
  have h1 := (h.keep he (.inr (.inr (Nat.le_refl _)))).wide (Nat.le_refl lo) (Nat.le_trans h.le he.size) (Nat.le_refl _)
  exact h1.snoc (Own.wide hy (by omega) (Nat.le_refl _) (Nat.le_refl _)) (fun b hb hk => by have := (hy.lohi b hb).1; have := ho b hk; omega) (fun x hx b hb hk => by have := (hy.lohi b hk).1; have := (h.lt hx hb).2.1; omega)
/-- An inner slice is replaced by one made above all that was there. -/
theorem Inns.set (h : Inns it s g w lo hi ob es) (he : Eff 0 0 w w') {y : α} {i B : Nat} (hB : hi ≤ B) (hy : Own it s w' B w'.heap.size (g y).A (g y).n (g y).c (g y).xs) (ho : ∀ k, ob = some k → k < B) : Inns it s g w' lo w'.heap.size ob (es.set i y) := by
  have h0 := h.lohi
  have h1 := (h.keep he (.inr (.inr (Nat.le_refl _)))).wide (Nat.le_refl lo) (Nat.le_trans h.le he.size) (Nat.le_refl _)
  refine ⟨fun x hx => ?_, fun x hx b hb hk => ?_, fun p q x x' b hp hq hx hx' => ?_, Nat.le_refl _, h1.lohi⟩
  · rcases List.mem_or_eq_of_mem_set hx with hx | rfl
    · exact h1.inn x hx
    · exact Own.wide hy (by omega) (Nat.le_refl _) (Nat.le_refl _)
  · rcases List.mem_or_eq_of_mem_set hx with hx | rfl
    · exact h.out x hx b hb hk
    · have := (hy.lohi b hb).1; have := ho b hk; omega
  · rw [List.getElem?_set] at hp hq
    by_cases hip : i = p
    · by_cases hiq : i = q
      · omega
      · rw [if_neg hiq] at hq
        rw [if_pos hip] at hp
        split at hp
        · simp at hp; subst hp
          have := (hy.lohi b hx).1; have := (h.lt (List.mem_of_getElem? hq) hx').2.1; omega
        · cases hp
    · rw [if_neg hip] at hp
      by_cases hiq : i = q
      · rw [if_pos hiq] at hq
        split at hq
        · simp at hq; subst hq
          have := (hy.lohi b hx').1; have := (h.lt (List.mem_of_getElem? hp) hx).2.1; omega
        · cases hq
      · rw [if_neg hiq] at hq
        exact h.pw p q x x' b hp hq hx hx'
/-- An inner slice's cells are written anew; its place stays. -/
theorem Inns.write (h : Inns it s g w lo hi ob es) {x y : α} {i : Nat} (hxi : es[i]? = some x) (hv : (g y).v = (g x).v) {a b : Nat} (he : Eff a b w w') (hab : ∀ k, a ≤ k → k < b → (g x).blk = some k) (hy : Own it s w' lo hi (g y).A (g y).n (g y).c (g y).xs) : Inns it s g w' lo hi ob (es.set i y) := by
  have hbl : (g y).blk = (g x).blk := by unfold Sl.blk; rw [hv]
  have hx0 := List.mem_of_getElem? hxi
  have other : ∀ j z, es[j]? = some z → i ≠ j → Own it s w' lo hi (g z).A (g z).n (g z).c (g z).xs := fun j z hz hij => Own.ne (h.inn z (List.mem_of_getElem? hz)) he (fun k hk => by
    by_cases h2 : a ≤ k ∧ k < b
    · exact absurd (h.pw i j x z k hxi hz (hab k h2.1 h2.2) hk) hij
    · omega)
  refine ⟨fun z hz => ?_, fun z hz b hb => ?_, fun p q z z' b hp hq hz hz' => ?_, Nat.le_trans h.le he.size, h.lohi⟩
  · obtain ⟨j, hj⟩ := List.getElem?_of_mem hz
    rw [List.getElem?_set] at hj
    by_cases hij : i = j
    · rw [if_pos hij] at hj
      split at hj
      · simp at hj; subst hj; exact hy
      · cases hj
    · rw [if_neg hij] at hj
      exact other j z hj hij
  · rcases List.mem_or_eq_of_mem_set hz with hz | rfl
    · exact h.out z hz b hb
    · exact h.out x hx0 b (hbl ▸ hb)
  · have look : ∀ (p : Nat) (z : α), (es.set i y)[p]? = some z → ∃ z0, es[p]? = some z0 ∧ (g z0).blk = (g z).blk := by
      intro p z hp
      rw [List.getElem?_set] at hp
      by_cases hip : i = p
      · rw [if_pos hip] at hp
        split at hp
        · simp at hp; subst hp; exact ⟨x, hip ▸ hxi, hbl.symm⟩
        · cases hp
      · rw [if_neg hip] at hp; exact ⟨z, hp, rfl⟩
    obtain ⟨z0, h1, h2⟩ := look p z hp
    obtain ⟨z1, h3, h4⟩ := look q z' hq
    exact h.pw p q z0 z1 b h1 h3 (h2.trans hz) (h4.trans hz')
end

/-- A row of structs reads: the outer cells, each inner slice. -/
structure RdR {α : Type} (k s : Nat) (f : α → List Value) (g : α → Sl) (w : World) (B : Nat) (A : Option Addr) (n : Nat) (es : List α) : Prop where
  row : Rd w B k A n (es.flatMap f)
  inn : ∀ x ∈ es, Rd w B s (g x).A (g x).n (g x).xs
  cap : ∀ x ∈ es, (g x).n ≤ (g x).c ∧ (g x).c ≤ maxLen
/-- A row of structs of the call's own. -/
structure OwnR {α : Type} (et k it s : Nat) (f : α → List Value) (g : α → Sl) (w : World) (lo hi : Nat) (A : Option Addr) (n c : Nat) (es : List α) : Prop where
  row : Own et k w lo hi A n c (es.flatMap f)
  inn : Inns it s g w lo hi (Value.slice A n c).ownBlock es
section
variable {α : Type} {et k it s lo hi lo' hi' n c B B' : Nat} {f : α → List Value} {g : α → Sl} {w w' : World} {A : Option Addr} {es : List α}
theorem RdR.below (h : RdR k s f g w B A n es) {C : Nat} (hb : Below C w w') (hC : B ≤ C) : RdR k s f g w' B A n es := ⟨h.row.below hb hC, fun x hx => (h.inn x hx).below hb hC, h.cap⟩
theorem RdR.more (h : RdR k s f g w B A n es) (hB : B ≤ B') : RdR k s f g w B' A n es := ⟨h.row.more hB, fun x hx => (h.inn x hx).more hB, h.cap⟩
theorem RdR.alloc (h : RdR k s f g w B A n es) (hB : B ≤ w.heap.size) (o : Obj) : RdR k s f g (w.alloc o) B A n es := ⟨h.row.alloc hB o, fun x hx => (h.inn x hx).alloc hB o, h.cap⟩
theorem RdR.drew (h : RdR k s f g w B A n es) : RdR k s f g w.drew B A n es := ⟨h.row.drew, fun x hx => (h.inn x hx).drew, h.cap⟩
theorem RdR.len (h : RdR k s f g w B A n es) (hf : ∀ x, (f x).length = k) (hk : 0 < k) : es.length = n := by
  have := h.row.1; rw [flat_len hf] at this; exact Nat.eq_of_mul_eq_mul_right hk this
theorem RdR.nil : RdR k s f g w B A 0 [] := ⟨Rd.nil, by simp, by simp⟩
theorem OwnR.lohi (h : OwnR et k it s f g w lo hi A n c es) : lo ≤ hi := h.inn.lohi
theorem OwnR.le (h : OwnR et k it s f g w lo hi A n c es) : hi ≤ w.heap.size := h.inn.le
theorem OwnR.keep (h : OwnR et k it s f g w lo hi A n c es) (he : Eff lo' hi' w w') (hd : hi ≤ lo' ∨ hi' ≤ lo ∨ hi' ≤ lo') : OwnR et k it s f g w' lo hi A n c es := ⟨Own.keep h.row he hd, h.inn.keep he hd⟩
theorem OwnR.wide (h : OwnR et k it s f g w lo hi A n c es) (h1 : lo' ≤ lo) (h2 : hi ≤ hi') (h3 : hi' ≤ w.heap.size) : OwnR et k it s f g w lo' hi' A n c es := ⟨Own.wide h.row h1 h2 h3, h.inn.wide h1 h2 h3⟩
theorem OwnR.made (h : OwnR et k it s f g w lo hi A n c es) (he : Eff lo' hi' w w') (hd : hi ≤ lo' ∨ hi' ≤ lo ∨ hi' ≤ lo') (hB : B ≤ lo) : OwnR et k it s f g w' B w'.heap.size A n c es :=
  (h.keep he hd).wide hB (Nat.le_trans h.le he.size) (Nat.le_refl _)
theorem OwnR.rd (h : OwnR et k it s f g w lo hi A n c es) (hB : hi ≤ B) : RdR k s f g w B A n es := ⟨Own.rd h.row hB, fun x hx => Own.rd (h.inn.inn x hx) hB, fun x hx => Own.caps (h.inn.inn x hx)⟩
theorem OwnR.nil (h1 : lo ≤ hi) (h2 : hi ≤ w.heap.size) : OwnR et k it s f g w lo hi none 0 0 [] := ⟨Own.nil _ _ _ _ _ h2, Inns.nil h1 h2⟩
theorem OwnR.len (h : OwnR et k it s f g w lo hi A n c es) (hf : ∀ x, (f x).length = k) (hk : 0 < k) : es.length = n := (h.rd (Nat.le_refl _)).len hf hk
theorem OwnR.caps (h : OwnR et k it s f g w lo hi A n c es) : n ≤ c ∧ c ≤ maxLen := Own.caps h.row
/-- Behind 'append(row, struct)': what the law on append leaves of the outer row, and the new inner slice. -/
theorem OwnR.snoc {a b c2 : Nat} {w1 w2 : World} {A2 : Option Addr} (h : OwnR et k it s f g w lo hi A n c es) {y : α} (he : Eff 0 0 w w1) (hy : Own it s w1 w.heap.size w1.heap.size (g y).A (g y).n (g y).c (g y).xs)
    (htl : lo ≤ a) (htt : ∀ q, a ≤ q → q < b → (Value.slice A n c).ownBlock = some q)
    {wa : World} (he1 : Eff 0 0 w1 wa) (hO : Own et k w2 a w2.heap.size A2 (n + 1) c2 (es.flatMap f ++ f y)) (hE : Eff a b wa w2) (hK : ∀ q, (Value.slice A2 (n + 1) c2).ownBlock = some q → q < b ∨ wa.heap.size ≤ q) :
    OwnR et k it s f g w2 lo w2.heap.size A2 (n + 1) c2 (es ++ [y]) := by
  have hl := h.lohi
  have hle := h.le
  have s1 := he.size
  have s2 := he1.size
  have s3 := hE.size
  refine ⟨by rw [flat_snoc]; exact Own.wide hO htl (Nat.le_refl _) (Nat.le_refl _), ?_⟩
  have hob : ∀ q, (Value.slice A n c).ownBlock = some q → q < w.heap.size := fun q hq => (h.row.lohi q hq).2.2
  have i1 := h.inn.new he (B := w.heap.size) h.le hy hob
  have i2 := i1.keep he1 (.inr (.inr (Nat.le_refl _)))
  have i3 := i2.outer hE htt
  have i4 := i3.block (ob' := (Value.slice A2 (n + 1) c2).ownBlock) (fun q hq => by
    rcases hK q hq with h1 | h1
    · have hlo := (hO.lohi q hq).1
      exact .inl (htt q hlo h1)
    · exact .inr (.inr (by omega)))
  exact i4.wide (Nat.le_refl _) (by omega) (Nat.le_refl _)
end

/-- A new row of n structs, filled up to element m with the structs 'es'. -/
structure Fill {α : Type} (et k it s : Nat) (f : α → List Value) (g : α → Sl) (w : World) (gb top n m : Nat) (es : List α) : Prop where
  row : ∃ xs, Own et k w gb top (some ⟨gb, 0, none⟩) n n xs ∧ ∀ j, j < m * k → xs[j]? = (es.flatMap f)[j]?
  len : es.length = m
  inn : Inns it s g w top w.heap.size (some gb) es
  lt : gb < top
section
variable {α : Type} {et k it s gb top n m : Nat} {f : α → List Value} {g : α → Sl} {w w' w3 : World} {es : List α}
theorem Fill.keep (h : Fill et k it s f g w gb top n m es) (he : Eff 0 0 w w') : Fill et k it s f g w' gb top n m es := by
  obtain ⟨xs, h1, h2⟩ := h.row
  exact ⟨⟨xs, Own.keep h1 he (.inr (.inr (Nat.le_refl _))), h2⟩, h.len, (h.inn.keep he (.inr (.inr (Nat.le_refl _)))).wide (Nat.le_refl _) he.size (Nat.le_refl _), h.lt⟩
theorem Fill.cell (h : Fill et k it s f g w gb top n m es) (hm : m < n) (j : Nat) (hj : j < k) : ∃ u, w.cell? ⟨gb, m * k + j, none⟩ = some u := by
  obtain ⟨xs, h1, h2⟩ := h.row
  have hlt : m * k + j < n * k := by
    have : (m + 1) * k ≤ n * k := Nat.mul_le_mul_right k hm
    rw [Nat.succ_mul] at this; omega
  obtain ⟨g', hA, _, _, hc, _⟩ := h1.form (by omega)
  cases hA
  exact ⟨_, (hc _ hlt).trans (List.getElem?_eq_getElem (by rw [h1.len]; exact hlt))⟩
theorem Fill.free (h : Fill et k it s f g w gb top n m es) (hm : m < n) (j : Nat) : w.frozen? ⟨gb, j, none⟩ = false := by
  obtain ⟨xs, h1, h2⟩ := h.row
  obtain ⟨g', hA, _, _, _, hf⟩ := h1.form (by omega)
  cases hA
  exact hf j
theorem Fill.start {xs : List Value} (h : Own et k w gb top (some ⟨gb, 0, none⟩) n n xs) (hlt : gb < top) : Fill et k it s f g w gb top n 0 [] :=
  ⟨⟨xs, h, fun j hj => absurd hj (by omega)⟩, rfl, Inns.nil h.le (Nat.le_refl _), hlt⟩
theorem Fill.step (h : Fill et k it s f g w gb top n m es) (hf : ∀ x, (f x).length = k) {y : α} (he : Eff 0 0 w w') (hy : Own it s w' w.heap.size w'.heap.size (g y).A (g y).n (g y).c (g y).xs) (hE : Eff gb (gb + 1) w' w3) (hs : w3.heap.size = w'.heap.size)
    (hO : ∀ xs, Own et k w' gb top (some ⟨gb, 0, none⟩) n n xs → ∃ xs3, Own et k w3 gb top (some ⟨gb, 0, none⟩) n n xs3 ∧ (∀ j, j < m * k → xs3[j]? = xs[j]?) ∧ ∀ j, j < k → xs3[m * k + j]? = (f y)[j]?) : Fill et k it s f g w3 gb top n (m + 1) (es ++ [y]) := by
  obtain ⟨xs, h1, h2⟩ := h.row
  obtain ⟨xs3, o1, o2, o3⟩ := hO xs (Own.keep h1 he (.inr (.inr (Nat.le_refl _))))
  have hle := h1.le
  have hlt := h.lt
  refine ⟨⟨xs3, o1, fun j hj => ?_⟩, by simp [h.len], ?_, h.lt⟩
  · rw [Nat.succ_mul] at hj
    have hel : (es.flatMap f).length = m * k := by rw [flat_len hf, h.len]
    rw [flat_snoc]
    by_cases hjm : j < m * k
    · rw [List.getElem?_append_left (by omega), o2 j hjm, h2 j hjm]
    · rw [List.getElem?_append_right (by omega), hel, ← o3 (j - m * k) (by omega), show m * k + (j - m * k) = j by omega]
  · have i1 := h.inn.new he (B := w.heap.size) (Nat.le_refl _) hy (fun q hq => by cases hq; omega)
    have i2 := i1.outer hE (fun q h1 h2 => by congr 1; omega)
    exact i2.wide (Nat.le_refl _) (by omega) (Nat.le_refl _)
theorem Fill.done (h : Fill et k it s f g w gb top n n es) (hf : ∀ x, (f x).length = k) : OwnR et k it s f g w gb w.heap.size (some ⟨gb, 0, none⟩) n n es := by
  obtain ⟨xs, h1, h2⟩ := h.row
  have hlt := h.lt
  exact ⟨Own.wide (Own.of_get h1 h2 (by rw [flat_len hf, h.len])) (Nat.le_refl _) h1.le (Nat.le_refl _), h.inn.wide (by omega) (Nat.le_refl _) (Nat.le_refl _)⟩
theorem store1 {xs : List Value} (hx : Own et 1 w gb top (some ⟨gb, 0, none⟩) n n xs) (m : Nat) (hm : m < n) (u : Value) :
    ∃ xs3, Own et 1 (w.setCell ⟨gb, m, none⟩ u) gb top (some ⟨gb, 0, none⟩) n n xs3 ∧ (∀ j, j < m * 1 → xs3[j]? = xs[j]?) ∧ ∀ j, j < 1 → xs3[m * 1 + j]? = [u][j]? := by
  have hl := hx.len
  refine ⟨_, (hx.stored m u).1, fun j hj => by rw [List.getElem?_set_ne (by omega)], fun j hj => ?_⟩
  obtain rfl : j = 0 := by omega
  rw [show m * 1 + 0 = m by omega, List.getElem?_set_self (by omega)]; rfl
theorem store2 {xs : List Value} (hx : Own et 2 w gb top (some ⟨gb, 0, none⟩) n n xs) (m : Nat) (hm : m < n) (u v : Value) :
    ∃ xs3, Own et 2 ((w.setCell ⟨gb, m * 2, none⟩ u).setCell ⟨gb, m * 2 + 1, none⟩ v) gb top (some ⟨gb, 0, none⟩) n n xs3 ∧ (∀ j, j < m * 2 → xs3[j]? = xs[j]?) ∧ ∀ j, j < 2 → xs3[m * 2 + j]? = [u, v][j]? := by
  have hl := hx.len
  refine ⟨_, ((hx.stored (m * 2) u).1.stored (m * 2 + 1) v).1, fun j hj => by rw [List.getElem?_set_ne (by omega), List.getElem?_set_ne (by omega)], fun j hj => ?_⟩
  match j, hj with
  | 0, _ => rw [List.getElem?_set_ne (by omega), Nat.add_zero, List.getElem?_set_self (by omega)]; rfl
  | 1, _ => rw [List.getElem?_set_self (by simp; omega)]; rfl
theorem store3 {xs : List Value} (hx : Own et 3 w gb top (some ⟨gb, 0, none⟩) n n xs) (m : Nat) (hm : m < n) (u v x : Value) :
    ∃ xs3, Own et 3 (((w.setCell ⟨gb, m * 3, none⟩ u).setCell ⟨gb, m * 3 + 1, none⟩ v).setCell ⟨gb, m * 3 + 2, none⟩ x) gb top (some ⟨gb, 0, none⟩) n n xs3 ∧ (∀ j, j < m * 3 → xs3[j]? = xs[j]?) ∧ ∀ j, j < 3 → xs3[m * 3 + j]? = [u, v, x][j]? := by
  have hl := hx.len
  refine ⟨_, (((hx.stored (m * 3) u).1.stored (m * 3 + 1) v).1.stored (m * 3 + 2) x).1, fun j hj => by rw [List.getElem?_set_ne (by omega), List.getElem?_set_ne (by omega), List.getElem?_set_ne (by omega)], fun j hj => ?_⟩
  match j, hj with
  | 0, _ => rw [List.getElem?_set_ne (by omega), List.getElem?_set_ne (by omega), Nat.add_zero, List.getElem?_set_self (by omega)]; rfl
  | 1, _ => rw [List.getElem?_set_ne (by omega), List.getElem?_set_self (by simp; omega)]; rfl
  | 2, _ => rw [List.getElem?_set_self (by simp; omega)]; rfl
/-- An element of a row that reads. -/
theorem RdR.elem {B : Nat} {A : Option Addr} (h : RdR k s f g w B A n es) (hf : ∀ x, (f x).length = k) (hk : 0 < k) {i : Nat} (hi : i < n) :
    ∃ b off x, A = some ⟨b, off, none⟩ ∧ b < B ∧ es[i]? = some x ∧ (∀ j u, (f x)[j]? = some u → w.cell? ⟨b, off + i * k + j, none⟩ = some u) ∧ Rd w B s (g x).A (g x).n (g x).xs ∧ (g x).n ≤ (g x).c ∧ (g x).c ≤ maxLen := by
  have hl := h.len hf hk
  obtain ⟨b, off, rfl, hb, hc⟩ := h.row.form (Nat.mul_pos (by omega) hk)
  have hx := List.getElem?_eq_getElem (l := es) (i := i) (by omega)
  have hm := List.mem_of_getElem? hx
  refine ⟨b, off, es[i], rfl, hb, hx, fun j u hu => ?_, h.inn _ hm, h.cap _ hm⟩
  have hj : j < k := by have := (List.getElem?_eq_some_iff.1 hu).1; rwa [hf] at this
  have := hc (i * k + j) u ((flat_get hf es i j _ hx hj).trans hu)
  rwa [← Nat.add_assoc] at this
end

/-! ### lengths added up; marks -/
/-- What the first j structs take: sc and s times the slice's length each. -/
def ofs (sc s : Nat) : List Nat → Nat → Nat
  | [], _ => 0
  | _ :: _, 0 => 0
  | n :: ns, j + 1 => sc + n * s + ofs sc s ns j
def totS (sc s : Nat) (ns : List Nat) : Nat := ofs sc s ns ns.length
theorem ofs_zero (sc s : Nat) (ns : List Nat) : ofs sc s ns 0 = 0 := by cases ns <;> rfl
theorem ofs_succ {sc s : Nat} {ns : List Nat} {j n : Nat} (h : ns[j]? = some n) : ofs sc s ns (j + 1) = ofs sc s ns j + sc + n * s := by
  induction ns generalizing j with
  | nil => simp at h
  | cons m ns ih =>
    cases j with
    | zero => simp at h; subst h; simp [ofs, ofs_zero]
    | succ j => have := ih (j := j) (by simpa using h); simp only [ofs] at this ⊢; omega
theorem ofs_le {sc s : Nat} {ns : List Nat} {j : Nat} : ofs sc s ns j ≤ totS sc s ns := by
  unfold totS
  induction ns generalizing j with
  | nil => simp [ofs]
  | cons m ns ih =>
    cases j with
    | zero => simp [ofs]
    | succ j => have := ih (j := j); simp only [ofs, List.length_cons] at this ⊢; omega
theorem totS_bd {sc s m : Nat} {ns : List Nat} (h : ∀ n ∈ ns, n ≤ m) : totS sc s ns ≤ ns.length * (sc + m * s) := by
  unfold totS
  induction ns with
  | nil => simp [ofs]
  | cons n ns ih =>
    have h1 := ih (fun x hx => h x (List.mem_cons_of_mem _ hx))
    have h2 := Nat.mul_le_mul_right s (h n (by simp))
    simp only [ofs, List.length_cons, Nat.succ_mul] at h1 ⊢
    omega
theorem totS_len {s : Nat} {ns : List Nat} : ns.length ≤ totS 1 s ns := by
  unfold totS
  induction ns with
  | nil => simp
  | cons n ns ih => simp only [ofs, List.length_cons]; omega
theorem totS_mem {ns : List Nat} {n : Nat} (h : n ∈ ns) : n ≤ totS 1 1 ns := by
  unfold totS
  induction ns with
  | nil => simp at h
  | cons m ns ih =>
    simp only [ofs, List.length_cons]
    rcases List.mem_cons.1 h with rfl | h
    · omega
    · have := ih h; omega
theorem ofs_end {ns : List Nat} : ofs 0 1 ns ns.length + ns.length = totS 1 1 ns := by
  unfold totS
  induction ns with
  | nil => rfl
  | cons n ns ih => simp only [ofs, List.length_cons] at ih ⊢; omega
theorem ofs_tot {ns : List Nat} {j : Nat} : ofs 0 1 ns j + ns.length ≤ totS 1 1 ns := by
  have h1 := ofs_le (sc := 0) (s := 1) (ns := ns) (j := j)
  have h2 := ofs_end (ns := ns)
  unfold totS at h1
  omega
/-- The marks of structs: 'mk' of the first free number and the length. -/
def marksR {β : Type} (mk : Nat → Nat → β) (sc s : Nat) : Nat → List Nat → List β
  | _, [] => []
  | k, n :: ns => mk k n :: marksR mk sc s (k + sc + n * s) ns
theorem marksR_len {β : Type} {mk : Nat → Nat → β} {sc s k : Nat} {ns : List Nat} : (marksR mk sc s k ns).length = ns.length := by
  induction ns generalizing k with
  | nil => rfl
  | cons n ns ih => simp [marksR, ih]
theorem marksR_get {β : Type} {mk : Nat → Nat → β} {sc s k j n : Nat} {ns : List Nat} (h : ns[j]? = some n) : (marksR mk sc s k ns)[j]? = some (mk (k + ofs sc s ns j) n) := by
  induction ns generalizing k j with
  | nil => simp at h
  | cons m ns ih =>
    cases j with
    | zero => simp at h; subst h; simp [marksR, ofs]
    | succ j =>
      have := ih (k := k + sc + m * s) (j := j) (by simpa using h)
      simp only [marksR, List.getElem?_cons_succ, this, ofs]
      congr 2
      omega
theorem flat_setcell {α : Type} {s : Nat} {f : α → List Value} (hf : ∀ x, (f x).length = s) {es : List α} {i j : Nat} {x y : α} {u : Value} (hx : es[i]? = some x) (hj : j < s) (hy : f y = (f x).set j u) : (es.flatMap f).set (i * s + j) u = (es.set i y).flatMap f := by
  have hi : i < es.length := (List.getElem?_eq_some_iff.1 hx).1
  apply List.ext_getElem?
  intro q
  rw [flat_set hf es i y hi, List.getElem?_set]
  have hlt : i * s + j < (es.flatMap f).length := by
    rw [flat_len hf]
    have : (i + 1) * s ≤ es.length * s := Nat.mul_le_mul_right s hi
    rw [Nat.succ_mul] at this; omega
  by_cases hq : i * s + j = q
  · subst hq
    rw [if_pos rfl, if_pos hlt, if_pos (by omega), hy, show i * s + j - i * s = j by omega, List.getElem?_set_self (by rw [hf]; exact hj)]
  · rw [if_neg hq]
    by_cases h2 : i * s ≤ q ∧ q < i * s + s
    · rw [if_pos h2, hy, List.getElem?_set_ne (by omega)]
      have := flat_get hf es i (q - i * s) x hx (by omega)
      rw [show i * s + (q - i * s) = q by omega] at this
      exact this
    · rw [if_neg h2]
theorem flat_same {α : Type} {s : Nat} {f : α → List Value} (hf : ∀ x, (f x).length = s) {es : List α} {i : Nat} {x y : α} (hx : es[i]? = some x) (hy : f y = f x) : (es.set i y).flatMap f = es.flatMap f := by
  have hi : i < es.length := (List.getElem?_eq_some_iff.1 hx).1
  apply List.ext_getElem?
  intro q
  rw [flat_set hf es i y hi]
  by_cases h2 : i * s ≤ q ∧ q < i * s + s
  · rw [if_pos h2, hy]
    have := flat_get hf es i (q - i * s) x hx (by omega)
    rw [show i * s + (q - i * s) = q by omega] at this
    exact this.symm
  · rw [if_neg h2]
section
variable {α : Type} {et k it s lo hi n c : Nat} {f : α → List Value} {g : α → Sl} {w w1 w2 : World} {A : Option Addr} {es : List α}
/-- Behind the marks of one struct: stores into the outer row, then into the inner slice. -/
theorem OwnR.mark (h : OwnR et k it s f g w lo hi A n c es) {i : Nat} {x y : α} (hx : es[i]? = some x) (hv : (g y).v = (g x).v) {a b a' b' : Nat} (hta : lo ≤ a) (htb : b ≤ hi) (htt : ∀ q, a ≤ q → q < b → (g x).blk = some q)
    (hO1 : Own et k w1 lo hi A n c ((es.set i y).flatMap f)) (hE1 : Eff a' b' w w1) (hob : ∀ q, a' ≤ q → q < b' → (Value.slice A n c).ownBlock = some q)
    (hE2 : Eff a b w1 w2) (hy : Own it s w2 a b (g y).A (g y).n (g y).c (g y).xs) : OwnR et k it s f g w2 lo hi A n c (es.set i y) := by
  have i1 := h.inn.outer hE1 hob
  have hle := i1.le
  have hs := hE2.size
  refine ⟨Own.ne hO1 hE2 (fun q hq => ?_), i1.write hx hv hE2 htt (Own.wide hy hta htb (by omega))⟩
  by_cases h2 : a ≤ q ∧ q < b
  · exact absurd hq (h.inn.out x (List.mem_of_getElem? hx) q (htt q h2.1 h2.2))
  · omega
/-- The cells of element i of the call's own row, and that they may be written. -/
theorem OwnR.outs (h : OwnR et k it s f g w lo hi A n c es) (hf : ∀ x, (f x).length = k) (hk : 0 < k) {i : Nat} (hi1 : i < n) :
    ∃ gb x, A = some ⟨gb, 0, none⟩ ∧ lo ≤ gb ∧ gb < hi ∧ es[i]? = some x ∧ (∀ j u, (f x)[j]? = some u → w.cell? ⟨gb, i * k + j, none⟩ = some u) ∧ (∀ j, w.frozen? ⟨gb, j, none⟩ = false) ∧ Own it s w lo hi (g x).A (g x).n (g x).c (g x).xs := by
  have hl := h.len hf hk
  obtain ⟨gb, rfl, h1, h2, h3, h4⟩ := Own.form h.row (by omega)
  have hx := List.getElem?_eq_getElem (l := es) (i := i) (by omega)
  refine ⟨gb, es[i], rfl, h1, h2, hx, fun j u hu => ?_, h4, h.inn.inn _ (List.mem_of_getElem? hx)⟩
  have hj : j < k := by have := (List.getElem?_eq_some_iff.1 hu).1; rwa [hf] at this
  have hb : i * k + j < n * k := by
    have : (i + 1) * k ≤ n * k := Nat.mul_le_mul_right k hi1
    rw [Nat.succ_mul] at this; omega
  rw [h3 _ hb, flat_get hf es i j _ hx hj, hu]
end
end Go.Proofs.Ytblenfhacaecmaa
