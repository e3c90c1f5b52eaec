/- Texts cut at blanks, in plain Lean: the pieces, the kit's split, the reference's loop, and the text that words make. No program in sight. -/
import Derived.Lib.SplitLaws
import Derived.Lib.Join
namespace Go.Proofs.YtnjdmmdbminmoaaDoor
open Go.Lib
/-- The pieces of a text between blanks. -/
def parts : List UInt8 → List (List UInt8)
  | [] => [[]]
  | c :: t => if c = 32 then [] :: parts t else match parts t with
    | [] => [[c]]
    | p :: ps => (c :: p) :: ps
theorem parts_ne (l : List UInt8) : parts l ≠ [] := by
  cases l with
  | nil => simp [parts]
  | cons c t =>
    unfold parts
    split
    · simp
    · split <;> simp
theorem parts_blank (t : List UInt8) : parts (32 :: t) = [] :: parts t := by simp [parts]
theorem parts_cons {c : UInt8} {t p : List UInt8} {ps : List (List UInt8)} (hc : c ≠ 32) (h : parts t = p :: ps) : parts (c :: t) = (c :: p) :: ps := by
  unfold parts; rw [if_neg hc, h]
theorem parts_word {a : List UInt8} (h : ∀ c ∈ a, c ≠ 32) : parts a = [a] := by
  induction a with
  | nil => rfl
  | cons c t ih => exact parts_cons (h c (by simp)) (ih fun x hx => h x (by simp [hx]))
theorem parts_cut {a b : List UInt8} (h : ∀ c ∈ a, c ≠ 32) : parts (a ++ 32 :: b) = a :: parts b := by
  induction a with
  | nil => exact parts_blank b
  | cons c t ih => exact parts_cons (h c (by simp)) (ih fun x hx => h x (by simp [hx]))
theorem isPre_one (b : UInt8) (l : List UInt8) : [(32 : UInt8)].isPrefixOf (b :: l) = (32 == b) := by simp [List.isPrefixOf]
theorem index_blank (l : List UInt8) : index (32 :: l) [32] = 0 := by unfold index; rw [isPre_one]; simp
theorem index_step {c : UInt8} {l : List UInt8} (h : c ≠ 32) : index (c :: l) [32] = if index l [32] == -1 then -1 else index l [32] + 1 := by
  rw [index, isPre_one]
  have : (32 == c) = false := by simpa using fun e => h e.symm
  rw [this]; rfl
theorem splitK_parts (l : List UInt8) : splitK [32] 0 (count l [32]) l = parts l := by
  induction l with
  | nil => rw [count_one]; rfl
  | cons c t ih =>
    by_cases hc : c = 32
    · subst hc
      rw [count_cons_eq, Nat.add_comm, splitK, index_blank, parts_blank]
      rw [if_neg (by decide)]
      simp only [Int.toNat_zero, Nat.zero_add, List.take_zero, List.length_cons, List.length_nil, List.drop_succ_cons, List.drop_zero]
      rw [ih]
    · rw [count_cons_ne _ _ _ hc]
      rcases hp : parts t with _ | ⟨p, ps⟩
      · exact absurd hp (parts_ne t)
      rw [parts_cons hc hp]
      rw [hp] at ih
      generalize count t [32] = k at ih ⊢
      cases k with
      | zero =>
        simp only [splitK, List.cons.injEq] at ih ⊢
        obtain ⟨rfl, rfl⟩ := ih
        simp
      | succ k =>
        have h1 := index_ge t [32]
        rw [splitK] at ih ⊢
        rw [index_step hc]
        by_cases hm : index t [32] = -1
        · rw [hm] at ih ⊢
          simp only [beq_self_eq_true, if_true, List.cons.injEq] at ih ⊢
          obtain ⟨rfl, rfl⟩ := ih
          simp
        · have hf : (index t [32] == -1) = false := by simpa using hm
          have hf2 : (index t [32] + 1 == -1) = false := by rw [beq_eq_false_iff_ne]; omega
          rw [hf] at ih ⊢
          simp only [Bool.false_eq_true, if_false, hf2, List.cons.injEq] at ih ⊢
          obtain ⟨h2, h3⟩ := ih
          have e : (index t [32] + 1).toNat = (index t [32]).toNat + 1 := by omega
          rw [e]
          simp only [Nat.add_zero, List.take_succ_cons, List.cons.injEq, true_and, List.length_cons, List.length_nil, Nat.zero_add, List.drop_succ_cons] at h2 h3 ⊢
          exact ⟨h2, h3⟩
theorem splitB_parts (s : ByteArray) (sep : ByteArray) (hsep : sep.data.toList = [32]) : (splitB sep 0 (count s.data.toList [32]) s).map (·.data.toList) = parts s.data.toList := by
  rw [splitB_data, hsep, splitK_parts]
/-! ### words put together -/
theorem parts_join {w : List UInt8} {ws : List (List UInt8)} (h : ∀ x ∈ w :: ws, ∀ c ∈ x, c ≠ 32) : parts (join (w :: ws) [32]) = w :: ws := by
  rw [join_cons]
  induction ws generalizing w with
  | nil => simp only [joinTail, List.map_nil, List.flatten_nil, List.append_nil]; exact parts_word (h w (by simp))
  | cons y ys ih =>
    have e : joinTail [32] (y :: ys) = 32 :: (y ++ joinTail [32] ys) := by simp [joinTail]
    rw [e, parts_cut (h w (by simp)), ih fun x hx => h x (by simp [hx])]
/-! ### the reference's loop: 'o' what is cut off, 'f' where the rest begins, 'k' how far it is read -/
def cutAt (l : List UInt8) (o : List (List UInt8)) (f k : Nat) : Prop := parts l = o ++ parts (l.drop f) ∧ f ≤ k ∧ ∀ c ∈ (l.drop f).take (k - f), c ≠ 32
theorem cutAt_start (l : List UInt8) : cutAt l [] 0 0 := ⟨rfl, Nat.le_refl _, by simp⟩
theorem take_more {l : List UInt8} {f k : Nat} {c : UInt8} (hf : f ≤ k) (hc : l[k]? = some c) : (l.drop f).take (k + 1 - f) = (l.drop f).take (k - f) ++ [c] := by
  rw [show k + 1 - f = (k - f) + 1 by omega, List.take_add_one, List.getElem?_drop, show f + (k - f) = k by omega, hc]; rfl
theorem cutAt_step {l : List UInt8} {o : List (List UInt8)} {f k : Nat} {c : UInt8} (h : cutAt l o f k) (hc : l[k]? = some c) (h32 : c ≠ 32) : cutAt l o f (k + 1) := by
  refine ⟨h.1, by have := h.2.1; omega, ?_⟩
  rw [take_more h.2.1 hc]
  intro x hx
  rcases List.mem_append.1 hx with hx | hx
  · exact h.2.2 x hx
  · simp at hx; subst hx; exact h32
theorem drop_split {l : List UInt8} {f k : Nat} {c : UInt8} (hf : f ≤ k) (hc : l[k]? = some c) : l.drop f = (l.drop f).take (k - f) ++ c :: l.drop (k + 1) := by
  have h := List.take_append_drop (k - f) (l.drop f)
  rw [List.drop_drop, show f + (k - f) = k by omega] at h
  obtain ⟨hk, hg⟩ := List.getElem?_eq_some_iff.1 hc
  rw [List.drop_eq_getElem_cons hk, hg] at h
  exact h.symm
theorem cutAt_cut {l : List UInt8} {o : List (List UInt8)} {f k : Nat} (h : cutAt l o f k) (hc : l[k]? = some 32) : cutAt l (o ++ [(l.drop f).take (k - f)]) (k + 1) (k + 1) := by
  refine ⟨?_, Nat.le_refl _, by simp⟩
  rw [h.1, drop_split h.2.1 hc, parts_cut h.2.2, ← drop_split h.2.1 hc]
  simp
theorem cutAt_end {l : List UInt8} {o : List (List UInt8)} {f : Nat} (h : cutAt l o f l.length) : parts l = o ++ [l.drop f] := by
  have h3 := h.2.2
  rw [List.take_of_length_le (by simp)] at h3
  rw [h.1, parts_word h3]
/-! ### lengths -/
theorem parts_len (l : List UInt8) : (parts l).length ≤ l.length + 1 := by
  induction l with
  | nil => simp [parts]
  | cons c t ih =>
    by_cases hc : c = 32
    · subst hc; rw [parts_blank]; simp; exact ih
    · rcases hp : parts t with _ | ⟨p, ps⟩
      · exact absurd hp (parts_ne t)
      · rw [parts_cons hc hp]; rw [hp] at ih; simp at ih ⊢; omega
theorem parts_mem_len (l : List UInt8) : ∀ x ∈ parts l, x.length ≤ l.length := by
  induction l with
  | nil => simp [parts]
  | cons c t ih =>
    by_cases hc : c = 32
    · subst hc; rw [parts_blank]
      intro x hx
      rcases List.mem_cons.1 hx with rfl | hx
      · simp
      · have := ih x hx; simp; omega
    · rcases hp : parts t with _ | ⟨p, ps⟩
      · exact absurd hp (parts_ne t)
      · rw [parts_cons hc hp]
        rw [hp] at ih
        intro x hx
        rcases List.mem_cons.1 hx with rfl | hx
        · have := ih p (by simp); simp; omega
        · have := ih x (by simp [hx]); simp; omega
end Go.Proofs.YtnjdmmdbminmoaaDoor
