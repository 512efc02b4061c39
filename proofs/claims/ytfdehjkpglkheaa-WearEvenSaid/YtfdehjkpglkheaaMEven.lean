/-
  Blocks that are picked in turn are worn alike. Plain Lean.
-/
import Derived.Test.YtfdehjkpglkheaaMWear
namespace Go.Proofs.Ytfdehjkpglkheaa.Aw
open Go.RowKit

theorem bl_set {l : List Blk} {k : Nat} {b : Blk} (h : k < l.length) (j : Nat) : bl (l.set k b) j = if j = k then b else bl l j := by
  unfold bl
  by_cases e : j = k
  · subst e; simp [h]
  · rw [if_neg e, List.getD_eq_getElem?_getD, List.getD_eq_getElem?_getD, List.getElem?_set_ne (fun h => e h.symm)]
/-- Which blocks are full, in the order in which they were filled; how worn the blocks are. -/
structure Even (l : List Blk) (q : List Nat) (m : Int) : Prop where
  m0 : 0 ≤ m
  nd : q.Nodup
  full : ∀ k ∈ q, k < l.length ∧ (bl l k).st = 2
  free : ∀ j, j < l.length → j ∉ q → (bl l j).st = 0
  wo : ∀ j, j < l.length → (bl l j).wo = m ∨ (bl l j).wo = m + 1
  old : ∃ A B, q = A ++ B ∧ (∀ k ∈ A, (bl l k).wo = m) ∧ (∀ k ∈ B, (bl l k).wo = m + 1) ∧ (B ≠ [] → ∀ j, j < l.length → j ∉ q → (bl l j).wo = m + 1)
theorem Even.start (n : Nat) : Even (List.replicate n ⟨0, 0, 0⟩) [] 0 := by
  have hb : ∀ j, bl (List.replicate n ⟨0, 0, 0⟩) j = ⟨0, 0, 0⟩ := fun j => by
    unfold bl
    rw [List.getD_eq_getElem?_getD, List.getElem?_replicate]
    split <;> rfl
  refine ⟨Int.le_refl _, List.nodup_nil, fun k h => (by cases h), fun j _ _ => by rw [hb], fun j _ => .inl (by rw [hb]), [], [], rfl, fun k h => (by cases h), fun k h => (by cases h), fun h => absurd rfl h⟩
/-- A free block that is worn the least is filled. -/
theorem Even.fill {l : List Blk} {q : List Nat} {m : Int} (h : Even l q m) {k : Nat} (hk : k < l.length) (hf : (bl l k).st = 0) (hl : ∀ j, j < l.length → (bl l j).st = 0 → (bl l k).wo ≤ (bl l j).wo) :
    Even (l.set k ⟨2, (bl l k).va, (bl l k).wo⟩) (q ++ [k]) m := by
  have hkq : k ∉ q := fun hc => by have := (h.full k hc).2; omega
  have hb := bl_set (l := l) (b := ⟨2, (bl l k).va, (bl l k).wo⟩) hk
  have hwo : ∀ j, (bl (l.set k ⟨2, (bl l k).va, (bl l k).wo⟩) j).wo = (bl l j).wo := fun j => by
    rw [hb]; split
    · rename_i e; subst e; rfl
    · rfl
  refine ⟨h.m0, ?_, ?_, ?_, ?_, ?_⟩
  · rw [List.nodup_append]
    refine ⟨h.nd, by simp, fun a ha b hb' => ?_⟩
    simp only [List.mem_singleton] at hb'
    subst hb'
    exact fun e => hkq (e ▸ ha)
  · intro j hj
    rw [List.length_set, hb]
    rcases List.mem_append.1 hj with hj | hj
    · have := h.full j hj
      refine ⟨this.1, ?_⟩
      split
      · rfl
      · exact this.2
    · simp only [List.mem_singleton] at hj
      subst hj
      exact ⟨hk, by rw [if_pos rfl]⟩
  · intro j hj hjq
    rw [List.length_set] at hj
    simp only [List.mem_append, List.mem_singleton, not_or] at hjq
    rw [hb, if_neg hjq.2]
    exact h.free j hj hjq.1
  · intro j hj
    rw [List.length_set] at hj
    rw [hwo]
    exact h.wo j hj
  · obtain ⟨A, B, hq, hA, hB, hF⟩ := h.old
    rcases h.wo k hk with hm | hm
    · have hBn : B = [] := by
        cases B with
        | nil => rfl
        | cons b B => have := hF (by simp) k hk hkq; omega
      subst hBn
      refine ⟨A ++ [k], [], by rw [hq]; simp, fun j hj => ?_, fun j hj => (by cases hj), fun hc => absurd rfl hc⟩
      rw [hwo]
      rcases List.mem_append.1 hj with hj | hj
      · exact hA j hj
      · simp only [List.mem_singleton] at hj; subst hj; exact hm
    · refine ⟨A, B ++ [k], by rw [hq, List.append_assoc], fun j hj => by rw [hwo]; exact hA j hj, fun j hj => ?_, fun _ j hj hjq => ?_⟩
      · rw [hwo]
        rcases List.mem_append.1 hj with hj | hj
        · exact hB j hj
        · simp only [List.mem_singleton] at hj; subst hj; exact hm
      · rw [List.length_set] at hj
        simp only [List.mem_append, List.mem_singleton, not_or] at hjq
        rw [hwo]
        have h1 := hl j hj (h.free j hj hjq.1)
        rcases h.wo j hj with h2 | h2
        · omega
        · exact h2
/-- The oldest full block is erased. -/
theorem Even.erase {l : List Blk} {f : Nat} {q : List Nat} {m : Int} (h : Even l (f :: q) m) : ∃ m', Even (l.set f ⟨0, 0, (bl l f).wo + 1⟩) q m' := by
  have hf := (h.full f (by simp)).1
  have hb := bl_set (l := l) (b := ⟨0, 0, (bl l f).wo + 1⟩) hf
  have hnd := List.nodup_cons.1 h.nd
  have hne : ∀ k ∈ q, k ≠ f := fun k hk e => hnd.1 (e ▸ hk)
  have hfull : ∀ k ∈ q, k < (l.set f ⟨0, 0, (bl l f).wo + 1⟩).length ∧ (bl (l.set f ⟨0, 0, (bl l f).wo + 1⟩) k).st = 2 := fun k hk => by
    rw [List.length_set, hb, if_neg (hne k hk)]
    exact h.full k (List.mem_cons_of_mem _ hk)
  have hfree : ∀ j, j < (l.set f ⟨0, 0, (bl l f).wo + 1⟩).length → j ∉ q → (bl (l.set f ⟨0, 0, (bl l f).wo + 1⟩) j).st = 0 := fun j hj hjq => by
    rw [List.length_set] at hj
    rw [hb]
    split
    · rfl
    · rename_i e
      exact h.free j hj (by simp only [List.mem_cons, not_or]; exact ⟨e, hjq⟩)
  obtain ⟨A, B, hq, hA, hB, hF⟩ := h.old
  cases A with
  | cons a A =>
    have e1 : f = a ∧ q = A ++ B := by simpa using hq
    have hm : (bl l f).wo = m := by rw [e1.1]; exact hA a (by simp)
    refine ⟨m, h.m0, hnd.2, hfull, hfree, fun j hj => ?_, A, B, e1.2, fun k hk => ?_, fun k hk => ?_, fun hc j hj hjq => ?_⟩
    · rw [List.length_set] at hj
      rw [hb]
      split
      · exact .inr (by show (bl l f).wo + 1 = m + 1; omega)
      · exact h.wo j hj
    · rw [hb, if_neg (hne k (by rw [e1.2]; exact List.mem_append_left _ hk))]
      exact hA k (List.mem_cons_of_mem _ hk)
    · rw [hb, if_neg (hne k (by rw [e1.2]; exact List.mem_append_right _ hk))]
      exact hB k hk
    · rw [List.length_set] at hj
      rw [hb]
      split
      · show (bl l f).wo + 1 = m + 1; omega
      · rename_i e
        exact hF hc j hj (by simp only [List.mem_cons, not_or]; exact ⟨e, hjq⟩)
  | nil =>
    have e1 : f :: q = B := by simpa using hq
    have hm : (bl l f).wo = m + 1 := hB f (by rw [← e1]; simp)
    have hall : ∀ j, j < l.length → (bl l j).wo = m + 1 := fun j hj => by
      by_cases hjq : j ∈ f :: q
      · exact hB j (by rw [← e1]; exact hjq)
      · exact hF (by rw [← e1]; simp) j hj hjq
    refine ⟨m + 1, by have := h.m0; omega, hnd.2, hfull, hfree, fun j hj => ?_, q, [], by simp, fun k hk => ?_, fun k hk => (by cases hk), fun hc => absurd rfl hc⟩
    · rw [List.length_set] at hj
      rw [hb]
      split
      · exact .inr (by show (bl l f).wo + 1 = m + 1 + 1; omega)
      · exact .inl (hall j hj)
    · rw [hb, if_neg (hne k hk)]
      exact hall k (h.full k (List.mem_cons_of_mem _ hk)).1
/-- While not all are full, one is free. -/
theorem Even.some_free {l : List Blk} {q : List Nat} {m : Int} (h : Even l q m) (hq : q.length < l.length) : ∃ j, j < l.length ∧ (bl l j).st = 0 := by
  refine Classical.byContradiction fun hc => ?_
  have hall : ∀ j, j < l.length → j ∈ q := fun j hj => Classical.byContradiction fun hn => hc ⟨j, hj, h.free j hj hn⟩
  have hsub : List.range l.length ⊆ q := fun j hj => hall j (List.mem_range.1 hj)
  have := (List.nodup_range (n := l.length)).length_le_of_subset hsub
  rw [List.length_range] at this
  omega
end Go.Proofs.Ytfdehjkpglkheaa.Aw
