/-
  Sorting by merging in place: what its steps come to. Plain Lean.
-/
import Derived.Test.YtklniadgdbjcpaaAwBun
set_option linter.unusedSimpArgs false
set_option linter.unusedVariables false
namespace Go.Proofs.Ytklniadgdbjcpaa.Aw
open Go.RowKit

structure Ordr {α : Type} (lt : α → α → Bool) : Prop where
  asym : ∀ x y, lt x y = true → lt y x = false
  tr : ∀ x y z, lt y x = false → lt z y = false → lt z x = false
section
variable {α : Type} {lt : α → α → Bool}
def Srt (lt : α → α → Bool) (l : List α) : Prop := l.Pairwise fun x y => lt y x = false
theorem srt_app {A B : List α} : Srt lt (A ++ B) ↔ Srt lt A ∧ Srt lt B ∧ ∀ u ∈ A, ∀ v ∈ B, lt v u = false := List.pairwise_append
theorem Ordr.refl (h : Ordr lt) (x : α) : lt x x = false := by
  cases e : lt x x with
  | false => rfl
  | true => have := h.asym x x e; rw [e] at this; exact this
theorem srt_last (h : Ordr lt) {A : List α} {x : α} (hs : Srt lt (A ++ [x])) : ∀ u ∈ A ++ [x], lt x u = false := by
  intro u hu
  rw [List.mem_append, List.mem_singleton] at hu
  rcases hu with hu | rfl
  · exact (srt_app.1 hs).2.2 u hu x (by simp)
  · exact h.refl u
theorem srt_head (h : Ordr lt) {A : List α} {x : α} (hs : Srt lt (x :: A)) : ∀ u ∈ x :: A, lt u x = false := by
  intro u hu
  rw [List.mem_cons] at hu
  rcases hu with rfl | hu
  · exact h.refl u
  · exact (List.pairwise_cons.1 hs).1 u hu
/-- All of one are not behind all of the other, if this is so of the last and the first one. -/
theorem le_parts (h : Ordr lt) {A B : List α} (hA : Srt lt A) (hB : Srt lt B) (hh : A = [] ∨ B = [] ∨ ∃ A' x y B', A = A' ++ [x] ∧ B = y :: B' ∧ lt y x = false) : ∀ u ∈ A, ∀ v ∈ B, lt v u = false := by
  intro u hu v hv
  rcases hh with rfl | rfl | ⟨A', x, y, B', rfl, rfl, e⟩
  · cases hu
  · cases hv
  · exact h.tr u x v (srt_last h hA u hu) (h.tr x y v e (srt_head h hB v hv))
/-- What lies behind the places a search has come to. -/
theorem sym_parts (h : Ordr lt) {X1 X2 Y1 Y2 : List α} (hX : Srt lt (X1 ++ X2)) (hY : Srt lt (Y1 ++ Y2))
    (h1 : X1 = [] ∨ Y2 = [] ∨ ∃ A' x y B', X1 = A' ++ [x] ∧ Y2 = y :: B' ∧ lt y x = false)
    (h2 : Y1 = [] ∨ X2 = [] ∨ ∃ A' x y B', Y1 = A' ++ [x] ∧ X2 = y :: B' ∧ lt y x = false) : ∀ u ∈ X1 ++ Y1, ∀ v ∈ X2 ++ Y2, lt v u = false := by
  have hX' := srt_app.1 hX
  have hY' := srt_app.1 hY
  intro u hu v hv
  rw [List.mem_append] at hu hv
  rcases hu with hu | hu
  · rcases hv with hv | hv
    · exact hX'.2.2 u hu v hv
    · exact le_parts h hX'.1 hY'.2.1 h1 u hu v hv
  · rcases hv with hv | hv
    · exact le_parts h hY'.1 hX'.2.1 h2 u hu v hv
    · exact hY'.2.2 u hu v hv
theorem srt_join {Z1 Z2 W1 W2 : List α} (h1 : Srt lt Z1) (h2 : Srt lt Z2) (p1 : Z1.Perm W1) (p2 : Z2.Perm W2) (h : ∀ u ∈ W1, ∀ v ∈ W2, lt v u = false) : Srt lt (Z1 ++ Z2) :=
  srt_app.2 ⟨h1, h2, fun u hu v hv => h u (p1.mem_iff.1 hu) v (p2.mem_iff.1 hv)⟩
/-- One is put between those that are not behind it, and those that are not ahead. -/
theorem srt_put (h : Ordr lt) {A B : List α} {x : α} (hs : Srt lt (A ++ B)) (h1 : A = [] ∨ ∃ A' y, A = A' ++ [y] ∧ lt x y = false) (h2 : B = [] ∨ ∃ y B', B = y :: B' ∧ lt y x = false) : Srt lt (A ++ x :: B) := by
  have hs' := srt_app.1 hs
  have hA : ∀ u ∈ A, lt x u = false := by
    rcases h1 with rfl | ⟨A', y, rfl, e⟩
    · intro u hu; cases hu
    · exact fun u hu => h.tr u y x (srt_last h hs'.1 u hu) e
  have hB : ∀ v ∈ B, lt v x = false := by
    rcases h2 with rfl | ⟨y, B', rfl, e⟩
    · intro u hu; cases hu
    · exact fun v hv => h.tr x y v e (srt_head h hs'.2.1 v hv)
  refine srt_app.2 ⟨hs'.1, List.pairwise_cons.2 ⟨hB, hs'.2.1⟩, fun u hu v hv => ?_⟩
  rw [List.mem_cons] at hv
  rcases hv with rfl | hv
  · exact hA u hu
  · exact hs'.2.2 u hu v hv
theorem set_mid (A B : List α) (x y : α) : (A ++ x :: B).set A.length y = A ++ y :: B := by simp
theorem get_mid (A B : List α) (x : α) (i : Nat) (hi : i = A.length) (h : i < (A ++ x :: B).length) : (A ++ x :: B)[i] = x := by subst hi; simp
/-- Two that are changed with one another. -/
theorem set_swap (A B C : List α) (x y : α) (i j : Nat) (hi : i = A.length) (hj : j = A.length + 1 + B.length) : ((A ++ x :: (B ++ y :: C)).set i y).set j x = A ++ y :: (B ++ x :: C) := by
  subst hi
  rw [set_mid, hj, show A ++ y :: (B ++ y :: C) = (A ++ y :: B) ++ y :: C by simp, show A.length + 1 + B.length = (A ++ y :: B).length by simp; omega, set_mid]
  simp
theorem set_swap' (A B C : List α) (x y : α) (i j : Nat) (hi : i = A.length) (hj : j = A.length + 1 + B.length) : ((A ++ x :: (B ++ y :: C)).set j x).set i y = A ++ y :: (B ++ x :: C) := by
  rw [List.set_comm _ _ (by omega), set_swap A B C x y i j hi hj]
theorem take_len (A B : List α) {n : Nat} (h : n = A.length) : (A ++ B).take n = A := by subst h; simp
theorem drop_len (A B : List α) {n : Nat} (h : n = A.length) : (A ++ B).drop n = B := by subst h; simp
theorem snoc_of (A : List α) (h : A ≠ []) : ∃ A' x, A = A' ++ [x] := ⟨A.dropLast, A.getLast h, (List.dropLast_concat_getLast h).symm⟩
theorem cons_of (A : List α) (h : A ≠ []) : ∃ x A', A = x :: A' := by cases A with | nil => exact absurd rfl h | cons x A => exact ⟨x, A, rfl⟩
/-- A list in two at a place. -/
theorem cut_at (A : List α) (n : Nat) (h : n ≤ A.length) : ∃ A1 A2, A = A1 ++ A2 ∧ A1.length = n := ⟨A.take n, A.drop n, (List.take_append_drop n A).symm, by simp; omega⟩
theorem cut_mid (A : List α) (n : Nat) (h : n < A.length) : ∃ A1 x A2, A = A1 ++ x :: A2 ∧ A1.length = n := by
  obtain ⟨A1, A2, rfl, h1⟩ := cut_at A n (by omega)
  cases A2 with
  | nil => simp at h; omega
  | cons x A2 => exact ⟨A1, x, A2, rfl, h1⟩
end

end Go.Proofs.Ytklniadgdbjcpaa.Aw
