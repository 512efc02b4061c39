/-
  Lists that rise by a number: taking, leaving out, putting in. Plain Lean.
-/
import Derived.Test.YthjnfjgejdlbfaaAwBun
set_option linter.unusedSimpArgs false
namespace Go.Proofs.Ythjnfjgejdlbfaa.Aw

class Key (α : Type) where
  key : α → Int
export Key (key)
section
variable {α : Type} [Key α]
def getG (id : Int) : List α → Option α
  | [] => none
  | a :: r => if key a = id then some a else getG id r
def delG (id : Int) : List α → List α
  | [] => []
  | a :: r => if key a = id then delG id r else a :: delG id r
def insG (x : α) : List α → List α
  | [] => [x]
  | a :: r => if key x < key a then x :: a :: r else a :: insG x r
def SortedG (A : List α) : Prop := A.Pairwise fun x y => key x < key y

theorem getG_some {id : Int} : ∀ {A : List α} {a : α}, getG id A = some a → a ∈ A ∧ key a = id
  | [], a, h => by cases h
  | x :: r, a, h => by
    simp only [getG] at h
    split at h
    · rename_i e; cases h; exact ⟨by simp, e⟩
    · have := getG_some h; exact ⟨by simp [this.1], this.2⟩
theorem getG_none {id : Int} : ∀ {A : List α}, getG id A = none → ∀ a ∈ A, key a ≠ id
  | [], _, a, ha => by cases ha
  | x :: r, h, a, ha => by
    simp only [getG] at h
    split at h
    · cases h
    · rename_i e
      rcases List.mem_cons.1 ha with rfl | ha
      · exact e
      · exact getG_none h a ha
theorem getG_mem {A : List α} (hs : SortedG A) {a : α} (ha : a ∈ A) : getG (key a) A = some a := by
  induction A with
  | nil => cases ha
  | cons x r ih =>
    have hp := List.pairwise_cons.1 hs
    simp only [getG]
    rcases List.mem_cons.1 ha with rfl | ha'
    · rw [if_pos rfl]
    · have := hp.1 a ha'
      rw [if_neg (by omega), ih hp.2 ha']
theorem mem_delG {id : Int} {x : α} : ∀ {A : List α}, x ∈ delG id A ↔ x ∈ A ∧ key x ≠ id
  | [] => by simp [delG]
  | a :: r => by
    simp only [delG]
    split
    · rename_i e
      rw [mem_delG (A := r), List.mem_cons]
      constructor
      · rintro ⟨h1, h2⟩; exact ⟨.inr h1, h2⟩
      · rintro ⟨rfl | h1, h2⟩
        · exact absurd e h2
        · exact ⟨h1, h2⟩
    · rename_i e
      rw [List.mem_cons, mem_delG (A := r), List.mem_cons]
      constructor
      · rintro (rfl | ⟨h1, h2⟩)
        · exact ⟨.inl rfl, e⟩
        · exact ⟨.inr h1, h2⟩
      · rintro ⟨rfl | h1, h2⟩
        · exact .inl rfl
        · exact .inr ⟨h1, h2⟩
theorem mem_insG {y x : α} : ∀ {A : List α}, x ∈ insG y A ↔ x = y ∨ x ∈ A
  | [] => by simp [insG]
  | a :: r => by
    simp only [insG]
    split
    · simp
    · rw [List.mem_cons, mem_insG (A := r), List.mem_cons]
      constructor
      · rintro (h | h | h)
        · exact .inr (.inl h)
        · exact .inl h
        · exact .inr (.inr h)
      · rintro (h | h | h)
        · exact .inr (.inl h)
        · exact .inl h
        · exact .inr (.inr h)
theorem delG_sorted {id : Int} : ∀ {A : List α}, SortedG A → SortedG (delG id A)
  | [], _ => List.Pairwise.nil
  | a :: r, h => by
    have hp := List.pairwise_cons.1 h
    simp only [delG]
    split
    · exact delG_sorted hp.2
    · exact List.pairwise_cons.2 ⟨fun x hx => hp.1 x (mem_delG.1 hx).1, delG_sorted hp.2⟩
theorem insG_sorted {x : α} : ∀ {A : List α}, SortedG A → (∀ a ∈ A, key a ≠ key x) → SortedG (insG x A)
  | [], _, _ => List.pairwise_singleton _ _
  | a :: r, h, hn => by
    have hp := List.pairwise_cons.1 h
    simp only [insG]
    split
    · rename_i hlt
      refine List.pairwise_cons.2 ⟨fun y hy => ?_, h⟩
      rcases List.mem_cons.1 hy with rfl | hy
      · exact hlt
      · have := hp.1 y hy; omega
    · rename_i hlt
      refine List.pairwise_cons.2 ⟨fun y hy => ?_, insG_sorted hp.2 fun z hz => hn z (List.mem_cons_of_mem _ hz)⟩
      rcases mem_insG.1 hy with rfl | hy
      · have := hn a (by simp); omega
      · exact hp.1 y hy
theorem delG_id {id : Int} : ∀ {A : List α}, (∀ a ∈ A, key a ≠ id) → delG id A = A
  | [], _ => rfl
  | a :: r, h => by
    simp only [delG, if_neg (h a (by simp)), delG_id fun b hb => h b (List.mem_cons_of_mem _ hb)]
theorem insG_len {x : α} : ∀ {A : List α}, (insG x A).length = A.length + 1
  | [] => rfl
  | a :: r => by
    simp only [insG]
    split
    · rfl
    · simp [insG_len (A := r)]
theorem delG_len {a : α} : ∀ {A : List α}, SortedG A → a ∈ A → (delG (key a) A).length + 1 = A.length
  | [], _, h => by cases h
  | x :: r, hs, h => by
    have hp := List.pairwise_cons.1 hs
    simp only [delG]
    rcases List.mem_cons.1 h with rfl | h'
    · rw [if_pos rfl, delG_id fun b hb => by have := hp.1 b hb; omega]; rfl
    · have := hp.1 a h'
      rw [if_neg (by omega)]
      simp [delG_len hp.2 h']
theorem getG_map {id : Int} : ∀ {A : List α} {j : Nat} (h : j < A.length), key A[j] = id → (∀ i (hi : i < j), key (A[i]'(by omega)) ≠ id) → getG id A = some A[j]
  | x :: r, 0, h, e, _ => by simp only [getG]; rw [if_pos (by simpa using e)]; rfl
  | x :: r, j + 1, h, e, hn => by
    have h0 := hn 0 (by omega)
    simp only [getG]
    rw [if_neg (by simpa using h0)]
    exact getG_map (A := r) (j := j) (by simpa using h) (by simpa using e) fun i hi => by have := hn (i + 1) (by omega); simpa using this
theorem getG_delG {id id' : Int} : ∀ {A : List α}, id ≠ id' → getG id (delG id' A) = getG id A
  | [], _ => rfl
  | a :: r, h => by
    simp only [delG, getG]
    split
    · rename_i e
      rw [if_neg (by omega), getG_delG h]
    · simp only [getG]; split
      · rfl
      · exact getG_delG h
theorem getG_insG {x : α} {id : Int} : ∀ {A : List α}, id ≠ key x → getG id (insG x A) = getG id A
  | [], h => by simp only [insG, getG]; rw [if_neg (by omega)]
  | a :: r, h => by
    simp only [insG]
    split
    · simp only [getG]; rw [if_neg (by omega)]
    · simp only [getG]; split
      · rfl
      · exact getG_insG h
theorem getG_insG_self {x : α} : ∀ {A : List α}, (∀ a ∈ A, key a ≠ key x) → getG (key x) (insG x A) = some x
  | [], h => by simp [insG, getG]
  | a :: r, h => by
    simp only [insG]
    split
    · simp [getG]
    · simp only [getG]; rw [if_neg (h a (by simp)), getG_insG_self fun b hb => h b (List.mem_cons_of_mem _ hb)]
end
end Go.Proofs.Ythjnfjgejdlbfaa.Aw
