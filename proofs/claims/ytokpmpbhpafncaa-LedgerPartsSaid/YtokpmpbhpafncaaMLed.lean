/-
  Accounts, rising by number: what the document says of them. Plain Lean.
-/
import Derived.Test.YtokpmpbhpafncaaAwBun
namespace Go.Proofs.Ytokpmpbhpafncaa.Aw
open Go.RowKit

structure Acc where
  id : Int
  size : Int
  used : Int
deriving DecidableEq

def row3 (a : Acc) : List PV := [.int .i64 a.id, .int .i64 a.size, .int .i64 a.used]
def row2 (a : Acc) : List PV := [.int .i64 a.size, .int .i64 a.used]
theorem row3_len (a : Acc) : (row3 a).length = 3 := rfl
def getA (id : Int) : List Acc → Option Acc
  | [] => none
  | a :: r => if a.id = id then some a else getA id r
def delA (id : Int) : List Acc → List Acc
  | [] => []
  | a :: r => if a.id = id then delA id r else a :: delA id r
def insA (x : Acc) : List Acc → List Acc
  | [] => [x]
  | a :: r => if x.id < a.id then x :: a :: r else a :: insA x r
def sumA : List Acc → Int
  | [] => 0
  | a :: r => a.used + sumA r
def SortedA (A : List Acc) : Prop := A.Pairwise fun x y => x.id < y.id

theorem sumA_app : ∀ (l m : List Acc), sumA (l ++ m) = sumA l + sumA m
  | [], m => by simp [sumA]
  | a :: r, m => by simp only [List.cons_append, sumA, sumA_app r m]; omega
theorem getA_some {id : Int} : ∀ {A : List Acc} {a : Acc}, getA id A = some a → a ∈ A ∧ a.id = id
  | [], a, h => by cases h
  | x :: r, a, h => by
    simp only [getA] at h
    split at h
    · rename_i e; cases h; exact ⟨by simp, e⟩
    · have := getA_some h; exact ⟨by simp [this.1], this.2⟩
theorem getA_none {id : Int} : ∀ {A : List Acc}, getA id A = none → ∀ a ∈ A, a.id ≠ id
  | [], _, a, ha => by cases ha
  | x :: r, h, a, ha => by
    simp only [getA] at h
    split at h
    · cases h
    · rename_i e
      rcases List.mem_cons.1 ha with rfl | ha
      · exact e
      · exact getA_none h a ha
theorem getA_mem {A : List Acc} (hs : SortedA A) {a : Acc} (ha : a ∈ A) : getA a.id A = some a := by
  induction A with
  | nil => cases ha
  | cons x r ih =>
    have hp := List.pairwise_cons.1 hs
    simp only [getA]
    rcases List.mem_cons.1 ha with rfl | ha'
    · rw [if_pos rfl]
    · have := hp.1 a ha'
      rw [if_neg (by omega), ih hp.2 ha']
theorem mem_delA {id : Int} {x : Acc} : ∀ {A : List Acc}, x ∈ delA id A ↔ x ∈ A ∧ x.id ≠ id
  | [] => by simp [delA]
  | a :: r => by
    simp only [delA]
    split
    · rename_i e
      rw [mem_delA (A := r), List.mem_cons]
      constructor
      · rintro ⟨h1, h2⟩; exact ⟨.inr h1, h2⟩
      · rintro ⟨rfl | h1, h2⟩
        · exact absurd e h2
        · exact ⟨h1, h2⟩
    · rename_i e
      rw [List.mem_cons, mem_delA (A := r), List.mem_cons]
      constructor
      · rintro (rfl | ⟨h1, h2⟩)
        · exact ⟨.inl rfl, e⟩
        · exact ⟨.inr h1, h2⟩
      · rintro ⟨rfl | h1, h2⟩
        · exact .inl rfl
        · exact .inr ⟨h1, h2⟩
theorem mem_insA {y x : Acc} : ∀ {A : List Acc}, x ∈ insA y A ↔ x = y ∨ x ∈ A
  | [] => by simp [insA]
  | a :: r => by
    simp only [insA]
    split
    · simp
    · rw [List.mem_cons, mem_insA (A := r), List.mem_cons]
      constructor
      · rintro (h | h | h)
        · exact .inr (.inl h)
        · exact .inl h
        · exact .inr (.inr h)
      · rintro (h | h | h)
        · exact .inr (.inl h)
        · exact .inl h
        · exact .inr (.inr h)
theorem delA_sorted {id : Int} : ∀ {A : List Acc}, SortedA A → SortedA (delA id A)
  | [], _ => List.Pairwise.nil
  | a :: r, h => by
    have hp := List.pairwise_cons.1 h
    simp only [delA]
    split
    · exact delA_sorted hp.2
    · exact List.pairwise_cons.2 ⟨fun x hx => hp.1 x (mem_delA.1 hx).1, delA_sorted hp.2⟩
theorem insA_sorted {x : Acc} : ∀ {A : List Acc}, SortedA A → (∀ a ∈ A, a.id ≠ x.id) → SortedA (insA x A)
  | [], _, _ => List.pairwise_singleton _ _
  | a :: r, h, hn => by
    have hp := List.pairwise_cons.1 h
    simp only [insA]
    split
    · rename_i hlt
      refine List.pairwise_cons.2 ⟨fun y hy => ?_, h⟩
      rcases List.mem_cons.1 hy with rfl | hy
      · exact hlt
      · have := hp.1 y hy; omega
    · rename_i hlt
      refine List.pairwise_cons.2 ⟨fun y hy => ?_, insA_sorted hp.2 fun z hz => hn z (List.mem_cons_of_mem _ hz)⟩
      rcases mem_insA.1 hy with rfl | hy
      · have := hn a (by simp); omega
      · exact hp.1 y hy
theorem insA_sum {x : Acc} : ∀ {A : List Acc}, sumA (insA x A) = x.used + sumA A
  | [] => by simp [insA, sumA]
  | a :: r => by
    simp only [insA]
    split
    · simp [sumA]
    · simp only [sumA, insA_sum (A := r)]; omega
theorem delA_id {id : Int} : ∀ {A : List Acc}, (∀ a ∈ A, a.id ≠ id) → delA id A = A
  | [], _ => rfl
  | a :: r, h => by
    simp only [delA, if_neg (h a (by simp)), delA_id fun b hb => h b (List.mem_cons_of_mem _ hb)]
theorem delA_sum {a : Acc} : ∀ {A : List Acc}, SortedA A → a ∈ A → sumA (delA a.id A) = sumA A - a.used
  | [], _, h => by cases h
  | x :: r, hs, h => by
    have hp := List.pairwise_cons.1 hs
    simp only [delA]
    rcases List.mem_cons.1 h with rfl | h'
    · rw [if_pos rfl, delA_id fun b hb => by have := hp.1 b hb; omega]; simp only [sumA]; omega
    · have := hp.1 a h'
      rw [if_neg (by omega)]
      simp only [sumA, delA_sum hp.2 h']; omega
theorem insA_len {x : Acc} : ∀ {A : List Acc}, (insA x A).length = A.length + 1
  | [] => rfl
  | a :: r => by
    simp only [insA]
    split
    · rfl
    · simp [insA_len (A := r)]
theorem delA_len {a : Acc} : ∀ {A : List Acc}, SortedA A → a ∈ A → (delA a.id A).length + 1 = A.length
  | [], _, h => by cases h
  | x :: r, hs, h => by
    have hp := List.pairwise_cons.1 hs
    simp only [delA]
    rcases List.mem_cons.1 h with rfl | h'
    · rw [if_pos rfl, delA_id fun b hb => by have := hp.1 b hb; omega]; rfl
    · have := hp.1 a h'
      rw [if_neg (by omega)]
      simp [delA_len hp.2 h']

/-- What may be: the numbers, the sizes, the charges, and their sum. -/
structure LedOk (cap : Int) (A : List Acc) : Prop where
  c0 : 0 ≤ cap
  c1 : cap ≤ 9223372036854775807
  srt : SortedA A
  ids : ∀ a ∈ A, 1 ≤ a.id ∧ a.id ≤ 65535
  szs : ∀ a ∈ A, 0 ≤ a.size ∧ a.size ≤ 16777216
  use : ∀ a ∈ A, 0 ≤ a.used
  sum : sumA A ≤ cap
  len : A.length ≤ 8

theorem sumA_nn : ∀ {A : List Acc}, (∀ a ∈ A, 0 ≤ a.used) → 0 ≤ sumA A
  | [], _ => Int.le_refl _
  | a :: r, h => by
    have h1 := h a (by simp)
    have h2 := sumA_nn (A := r) fun b hb => h b (List.mem_cons_of_mem _ hb)
    simp only [sumA]; omega
theorem sumA_take {A : List Acc} (h : ∀ a ∈ A, 0 ≤ a.used) (i : Nat) : 0 ≤ sumA (A.take i) ∧ sumA (A.take i) ≤ sumA A := by
  have e : sumA A = sumA (A.take i) + sumA (A.drop i) := by rw [← sumA_app, List.take_append_drop]
  have h1 := sumA_nn (A := A.take i) fun a ha => h a (List.mem_of_mem_take ha)
  have h2 := sumA_nn (A := A.drop i) fun a ha => h a (List.mem_of_mem_drop ha)
  omega
theorem sumA_get {A : List Acc} {i : Nat} (h : i < A.length) : sumA (A.take (i + 1)) = sumA (A.take i) + A[i].used := by
  rw [List.take_succ_eq_append_getElem h, sumA_app]; simp [sumA]
theorem LedOk.le {cap : Int} {A : List Acc} (h : LedOk cap A) {a : Acc} (ha : a ∈ A) : a.used ≤ sumA A := by
  have := delA_sum h.srt ha
  have h2 := sumA_nn (A := delA a.id A) fun b hb => h.use b (mem_delA.1 hb).1
  omega

/- what is done -/
def openS (A : List Acc) (id size : Int) : List Acc × Int :=
  if id < 1 ∨ 65535 < id ∨ size < 0 ∨ 16777216 < size then (A, 1) else
  match getA id A with
  | some _ => (A, 7)
  | none => if 8 ≤ A.length then (A, 70) else (insA ⟨id, size, 0⟩ A, 0)
def closeS (A : List Acc) (id : Int) : List Acc × Int × Int :=
  match getA id A with
  | none => (A, 0, 4)
  | some a => (delA id A, a.used, 0)
def resizeS (A : List Acc) (id size : Int) : List Acc × Int :=
  if size < 0 ∨ 16777216 < size then (A, 1) else
  match getA id A with
  | none => (A, 4)
  | some a => (insA ⟨id, size, a.used⟩ (delA id A), 0)
def chargeS (cap : Int) (A : List Acc) (id n : Int) : List Acc × Int :=
  if n < 0 then (A, 1) else
  match getA id A with
  | none => (A, 4)
  | some a => if cap - sumA A < n then (A, 71) else (insA ⟨id, a.size, a.used + n⟩ (delA id A), 0)
def creditS (A : List Acc) (id n : Int) : List Acc × Int :=
  if n < 0 then (A, 1) else
  match getA id A with
  | none => (A, 4)
  | some a => if a.used < n then (A, 1) else (insA ⟨id, a.size, a.used - n⟩ (delA id A), 0)
def ofS (A : List Acc) (id : Int) : Int × Int × Int :=
  match getA id A with
  | none => (0, 0, 4)
  | some a => (a.size, a.used, 0)

theorem LedOk.new (cap : Int) (h0 : 0 ≤ cap) (h1 : cap ≤ 9223372036854775807) : LedOk cap [] :=
  ⟨h0, h1, List.Pairwise.nil, (fun a h => by cases h), (fun a h => by cases h), (fun a h => by cases h), h0, by simp⟩
/-- One account that changes. -/
theorem LedOk.put {cap : Int} {A : List Acc} (h : LedOk cap A) {a b : Acc} (ha : a ∈ A) (hid : b.id = a.id) (hs : 0 ≤ b.size ∧ b.size ≤ 16777216) (hu : 0 ≤ b.used) (hc : sumA A - a.used + b.used ≤ cap) : LedOk cap (insA b (delA a.id A)) := by
  have hn : ∀ x ∈ delA a.id A, x.id ≠ b.id := fun x hx => by rw [hid]; exact (mem_delA.1 hx).2
  refine ⟨h.c0, h.c1, insA_sorted (delA_sorted h.srt) hn, ?_, ?_, ?_, ?_, ?_⟩
  · intro x hx
    rcases mem_insA.1 hx with rfl | hx
    · rw [hid]; exact h.ids a ha
    · exact h.ids x (mem_delA.1 hx).1
  · intro x hx
    rcases mem_insA.1 hx with rfl | hx
    · exact hs
    · exact h.szs x (mem_delA.1 hx).1
  · intro x hx
    rcases mem_insA.1 hx with rfl | hx
    · exact hu
    · exact h.use x (mem_delA.1 hx).1
  · rw [insA_sum, delA_sum h.srt ha]; omega
  · rw [insA_len, delA_len h.srt ha]; exact h.len
theorem LedOk.open {cap : Int} {A : List Acc} (h : LedOk cap A) (id size : Int) : LedOk cap (openS A id size).1 := by
  unfold openS
  split
  · exact h
  · rename_i h1
    split
    · exact h
    · rename_i h2
      split
      · exact h
      · rename_i h3
        have hn := getA_none h2
        refine ⟨h.c0, h.c1, insA_sorted h.srt hn, ?_, ?_, ?_, ?_, ?_⟩
        · intro x hx
          rcases mem_insA.1 hx with rfl | hx
          · show 1 ≤ id ∧ id ≤ 65535; omega
          · exact h.ids x hx
        · intro x hx
          rcases mem_insA.1 hx with rfl | hx
          · show 0 ≤ size ∧ size ≤ 16777216; omega
          · exact h.szs x hx
        · intro x hx
          rcases mem_insA.1 hx with rfl | hx
          · exact Int.le_refl _
          · exact h.use x hx
        · rw [insA_sum]; have := h.sum; simp; omega
        · rw [insA_len]; omega
theorem LedOk.close {cap : Int} {A : List Acc} (h : LedOk cap A) (id : Int) : LedOk cap (closeS A id).1 := by
  unfold closeS
  split
  · exact h
  · rename_i a ha
    obtain ⟨h1, h2⟩ := getA_some ha
    have hu := h.use a h1
    refine ⟨h.c0, h.c1, delA_sorted h.srt, fun x hx => h.ids x (mem_delA.1 hx).1, fun x hx => h.szs x (mem_delA.1 hx).1, fun x hx => h.use x (mem_delA.1 hx).1, ?_, ?_⟩
    · show sumA (delA id A) ≤ cap
      rw [← h2, delA_sum h.srt h1]; have := h.sum; omega
    · show (delA id A).length ≤ 8
      have := delA_len h.srt h1; rw [h2] at this; have := h.len; omega
theorem LedOk.resize {cap : Int} {A : List Acc} (h : LedOk cap A) (id size : Int) : LedOk cap (resizeS A id size).1 := by
  unfold resizeS
  split
  · exact h
  · split
    · exact h
    · rename_i a ha
      obtain ⟨h1, h2⟩ := getA_some ha
      have := h.put h1 (b := ⟨id, size, a.used⟩) h2.symm (by show 0 ≤ size ∧ size ≤ 16777216; omega) (h.use a h1) (by have := h.sum; show sumA A - a.used + a.used ≤ cap; omega)
      rw [h2] at this; exact this
theorem LedOk.charge {cap : Int} {A : List Acc} (h : LedOk cap A) (id n : Int) : LedOk cap (chargeS cap A id n).1 := by
  unfold chargeS
  split
  · exact h
  · split
    · exact h
    · rename_i a ha
      split
      · exact h
      · obtain ⟨h1, h2⟩ := getA_some ha
        have := h.put h1 (b := ⟨id, a.size, a.used + n⟩) h2.symm (h.szs a h1) (by have := h.use a h1; show 0 ≤ a.used + n; omega) (by show sumA A - a.used + (a.used + n) ≤ cap; omega)
        rw [h2] at this; exact this
theorem LedOk.credit {cap : Int} {A : List Acc} (h : LedOk cap A) (id n : Int) : LedOk cap (creditS A id n).1 := by
  unfold creditS
  split
  · exact h
  · split
    · exact h
    · rename_i a ha
      split
      · exact h
      · obtain ⟨h1, h2⟩ := getA_some ha
        have := h.put h1 (b := ⟨id, a.size, a.used - n⟩) h2.symm (h.szs a h1) (by show 0 ≤ a.used - n; omega) (by have := h.sum; show sumA A - a.used + (a.used - n) ≤ cap; omega)
        rw [h2] at this; exact this
end Go.Proofs.Ytokpmpbhpafncaa.Aw
