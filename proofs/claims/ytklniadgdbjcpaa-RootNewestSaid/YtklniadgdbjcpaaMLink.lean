/-
  Lists each of whose elements may be, and may stand behind the one ahead; the first place of something. Plain Lean.
-/
import Derived.Test.YtklniadgdbjcpaaAwBun
namespace Go.Proofs.Ytklniadgdbjcpaa.Aw
open Go.RowKit

def lkF {α : Type} (one : α → Bool) (lk : α → α → Bool) : Option α → List α → Bool
  | _, [] => true
  | none, e :: t => one e && lkF one lk (some e) t
  | some a, e :: t => one e && (lk a e && lkF one lk (some e) t)
def lkB {α : Type} (one : α → Bool) (lk : α → α → Bool) (l : List α) : Bool := lkF one lk none l
theorem lkF_some {α : Type} {one : α → Bool} {lk : α → α → Bool} : ∀ {l : List α} {a : α}, lkF one lk (some a) l = true ↔ (∀ i (h : i < l.length), one l[i] = true) ∧ (∀ h : 0 < l.length, lk a l[0] = true) ∧ ∀ i (h : i + 1 < l.length), lk l[i] l[i + 1] = true
  | [], a => by simp [lkF]
  | e :: t, a => by
    simp only [lkF, Bool.and_eq_true, lkF_some]
    constructor
    · rintro ⟨h1, h2, h3, h4, h5⟩
      refine ⟨fun i h => ?_, fun _ => h2, fun i h => ?_⟩
      · cases i with
        | zero => exact h1
        | succ i => exact h3 i (by simpa using h)
      · cases i with
        | zero => exact h4 (by simpa using h)
        | succ i => exact h5 i (by simpa using h)
    · rintro ⟨h1, h2, h3⟩
      exact ⟨h1 0 (by simp), h2 (by simp), fun i h => h1 (i + 1) (by simpa using h), fun h => h3 0 (by simpa using h), fun i h => h3 (i + 1) (by simpa using h)⟩
theorem lkB_at {α : Type} {one : α → Bool} {lk : α → α → Bool} {l : List α} : lkB one lk l = true ↔ (∀ i (h : i < l.length), one l[i] = true) ∧ ∀ i (h : i + 1 < l.length), lk l[i] l[i + 1] = true := by
  cases l with
  | nil => simp [lkB, lkF]
  | cons e t =>
    simp only [lkB, lkF, Bool.and_eq_true, lkF_some]
    constructor
    · rintro ⟨h1, h3, h4, h5⟩
      refine ⟨fun i h => ?_, fun i h => ?_⟩
      · cases i with
        | zero => exact h1
        | succ i => exact h3 i (by simpa using h)
      · cases i with
        | zero => exact h4 (by simpa using h)
        | succ i => exact h5 i (by simpa using h)
    · rintro ⟨h1, h3⟩
      exact ⟨h1 0 (by simp), fun i h => h1 (i + 1) (by simpa using h), fun h => h3 0 (by simpa using h), fun i h => h3 (i + 1) (by simpa using h)⟩
theorem lkB_one {α : Type} {one : α → Bool} {lk : α → α → Bool} {l : List α} (h : lkB one lk l = true) : ∀ e ∈ l, one e = true := fun e he => by
  obtain ⟨j, hj, rfl⟩ := List.mem_iff_getElem.1 he
  exact (lkB_at.1 h).1 j hj
/-- It fails where one may not be, or may not stand there. -/
theorem lkB_no1 {α : Type} {one : α → Bool} {lk : α → α → Bool} {l : List α} {i : Nat} (h : i < l.length) (ho : one l[i] = false) : lkB one lk l = false := by
  cases hb : lkB one lk l with
  | false => rfl
  | true => rw [(lkB_at.1 hb).1 i h] at ho; cases ho
theorem lkB_no2 {α : Type} {one : α → Bool} {lk : α → α → Bool} {l : List α} {i : Nat} (h : i + 1 < l.length) (ho : lk l[i] l[i + 1] = false) : lkB one lk l = false := by
  cases hb : lkB one lk l with
  | false => rfl
  | true => rw [(lkB_at.1 hb).2 i h] at ho; cases ho

def idxS {α : Type} (c : α → Bool) (l : List α) : Int := match l.findIdx? c with
  | some i => (i : Int)
  | none => -1
theorem idx_hit {α : Type} {c : α → Bool} {l : List α} {i : Nat} (h : i < l.length) (hc : c l[i] = true) (hj : ∀ j (hj : j < l.length), j < i → c l[j] = false) : idxS c l = (i : Int) := by
  have : l.findIdx? c = some i := List.findIdx?_eq_some_iff_getElem.2 ⟨h, hc, fun j hlt => by simpa using hj j (by omega) hlt⟩
  rw [idxS, this]
theorem idx_none {α : Type} {c : α → Bool} {l : List α} (hj : ∀ j (hj : j < l.length), c l[j] = false) : idxS c l = -1 := by
  have : l.findIdx? c = none := List.findIdx?_eq_none_iff.2 fun e he => by
    obtain ⟨j, h, rfl⟩ := List.mem_iff_getElem.1 he
    exact hj j h
  rw [idxS, this]
theorem idx_cases {α : Type} (c : α → Bool) (l : List α) : (∃ i, ∃ h : i < l.length, idxS c l = (i : Int) ∧ c l[i] = true ∧ ∀ j (hj : j < l.length), j < i → c l[j] = false) ∨ (idxS c l = -1 ∧ ∀ j (hj : j < l.length), c l[j] = false) := by
  cases h : l.findIdx? c with
  | none => exact .inr ⟨by rw [idxS, h], fun j hj => by simpa using List.findIdx?_eq_none_iff.1 h _ (List.getElem_mem hj)⟩
  | some i =>
    obtain ⟨h1, h2, h3⟩ := List.findIdx?_eq_some_iff_getElem.1 h
    exact .inl ⟨i, h1, by rw [idxS, h], h2, fun j hj hlt => by simpa using h3 j hlt⟩
end Go.Proofs.Ytklniadgdbjcpaa.Aw
