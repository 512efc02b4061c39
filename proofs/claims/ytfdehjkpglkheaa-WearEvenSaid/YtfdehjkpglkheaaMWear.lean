/-
  The first of the least of those that count. Plain Lean.
-/
import Derived.Test.YtfdehjkpglkheaaAwBun
namespace Go.Proofs.Ytfdehjkpglkheaa.Aw
open Go.RowKit

structure Blk where
  st : Int
  va : Int
  wo : Int

def rowB (b : Blk) : List PV := [.int .i64 b.st, .int .i64 b.va, .int .i64 b.wo]
theorem rowB_len (b : Blk) : (rowB b).length = 3 := rfl
def bl (l : List Blk) (j : Nat) : Blk := l.getD j ⟨0, 0, 0⟩
theorem bl_at {l : List Blk} {j : Nat} (h : j < l.length) : bl l j = l[j] := by simp [bl, h]

def wornS (b : Blk) : Int := if b.wo < 0 then 0 else b.wo
def cmpS (x y : Int) : Int := if x < y then -1 else if y < x then 1 else 0
def byWornS (a b : Blk) : Int := cmpS (wornS a) (wornS b)
def isS (s : Int) (b : Blk) : Bool := b.st == s
def badS (b : Blk) : Bool := b.st == 3 && decide (0 < b.va)
def goodS (b : Blk) : Bool := decide (0 ≤ b.st) && decide (b.st ≤ 2)
def vicO (a b : Blk) : Int := if cmpS a.va b.va ≠ 0 then cmpS a.va b.va else byWornS a b
theorem wornS_nn (b : Blk) : 0 ≤ wornS b := by simp only [wornS]; split <;> omega

def ltK (a b : Int × Int) : Prop := a.1 < b.1 ∨ (a.1 = b.1 ∧ a.2 < b.2)
instance (a b : Int × Int) : Decidable (ltK a b) := by unfold ltK; infer_instance
def kWorn (b : Blk) : Int × Int := (wornS b, 0)
def kMost (b : Blk) : Int × Int := (- wornS b, 0)
def kVic (b : Blk) : Int × Int := (b.va, wornS b)
def kZero (b : Blk) : Int × Int := (0, 0)
theorem cmp_neg {x y : Int} : cmpS x y < 0 ↔ x < y := by
  simp only [cmpS]
  split
  · omega
  · split <;> omega
theorem byWorn_lt {a b : Blk} : byWornS a b < 0 ↔ ltK (kWorn a) (kWorn b) := by rw [byWornS, cmp_neg]; simp [ltK, kWorn]
theorem most_lt {a b : Blk} : byWornS b a < 0 ↔ ltK (kMost a) (kMost b) := by rw [byWornS, cmp_neg]; simp only [ltK, kMost]; omega
theorem vic_lt {a b : Blk} : vicO a b < 0 ↔ ltK (kVic a) (kVic b) := by
  simp only [vicO, byWornS, cmpS, ltK, kVic]
  repeat' split
  all_goals omega
theorem zero_lt {a b : Blk} : (0 : Int) < 0 ↔ ltK (kZero a) (kZero b) := by simp [ltK, kZero]

/-- 'r' is the first place, of those from 'a' to 'b', of the least that count; -1: none counts. -/
def First (K : Blk → Int × Int) (c : Blk → Bool) (l : List Blk) (a b : Nat) (r : Int) : Prop :=
  (r = -1 ∧ ∀ j, a ≤ j → j < b → c (bl l j) = false) ∨
  ∃ k : Nat, r = k ∧ a ≤ k ∧ k < b ∧ c (bl l k) = true ∧ ∀ j, a ≤ j → j < b → c (bl l j) = true → (j < k → ltK (K (bl l k)) (K (bl l j))) ∧ ¬ ltK (K (bl l j)) (K (bl l k))

theorem First.uniq {K c l a b r r'} (h : First K c l a b r) (h' : First K c l a b r') : r = r' := by
  rcases h with ⟨rfl, h⟩ | ⟨k, rfl, h1, h2, h3, h4⟩
  · rcases h' with ⟨rfl, _⟩ | ⟨k', rfl, g1, g2, g3, g4⟩
    · rfl
    · rw [h k' g1 g2] at g3; cases g3
  · rcases h' with ⟨rfl, g⟩ | ⟨k', rfl, g1, g2, g3, g4⟩
    · rw [g k h1 h2] at h3; cases h3
    · rcases Nat.lt_trichotomy k k' with e | e | e
      · exact absurd ((g4 k h1 h2 h3).1 e) (h4 k' g1 g2 g3).2
      · rw [e]
      · exact absurd ((h4 k' g1 g2 g3).1 e) (g4 k h1 h2 h3).2

theorem First.none {K c l} (a : Nat) : First K c l a a (-1) := .inl ⟨rfl, fun j h1 h2 => by omega⟩
theorem First.lt {K c l a b r} (h : First K c l a b r) : -1 ≤ r ∧ r < b := by
  rcases h with ⟨rfl, _⟩ | ⟨k, rfl, h1, h2, _⟩ <;> omega
theorem First.at {K c l a b r} (h : First K c l a b r) (h0 : 0 ≤ r) : c (bl l r.toNat) = true := by
  rcases h with ⟨rfl, _⟩ | ⟨k, rfl, h1, h2, h3, _⟩
  · omega
  · simpa using h3
/-- One more behind: it is taken if it counts and is less. -/
theorem First.up {K c l a b r} (hab : a ≤ b) (h : First K c l a b r) : First K c l a (b + 1) (if c (bl l b) = true ∧ (r < 0 ∨ ltK (K (bl l b)) (K (bl l r.toNat))) then (b : Int) else r) := by
  rcases h with ⟨rfl, h⟩ | ⟨k, rfl, h1, h2, h3, h4⟩
  · by_cases hc : c (bl l b) = true
    · rw [if_pos ⟨hc, .inl (by omega)⟩]
      refine .inr ⟨b, rfl, hab, by omega, hc, fun j g1 g2 g3 => ?_⟩
      by_cases e : j = b
      · subst e; exact ⟨fun h => by omega, by simp [ltK]⟩
      · rw [h j g1 (by omega)] at g3; cases g3
    · rw [if_neg (fun h => hc h.1)]
      refine .inl ⟨rfl, fun j g1 g2 => ?_⟩
      by_cases e : j = b
      · subst e; simpa using hc
      · exact h j g1 (by omega)
  · simp only [Int.toNat_natCast]
    by_cases hc : c (bl l b) = true ∧ ltK (K (bl l b)) (K (bl l k))
    · rw [if_pos ⟨hc.1, .inr hc.2⟩]
      refine .inr ⟨b, rfl, hab, by omega, hc.1, fun j g1 g2 g3 => ?_⟩
      by_cases e : j = b
      · subst e; exact ⟨fun h => by omega, by simp [ltK]⟩
      · have := (h4 j g1 (by omega) g3).2
        have hl := hc.2
        refine ⟨fun _ => ?_, ?_⟩ <;> simp only [ltK] at * <;> omega
    · rw [if_neg (fun h => hc ⟨h.1, h.2.elim (fun h => by omega) id⟩)]
      refine .inr ⟨k, rfl, h1, by omega, h3, fun j g1 g2 g3 => ?_⟩
      by_cases e : j = b
      · subst e; exact ⟨fun h => by omega, fun h => hc ⟨g3, h⟩⟩
      · exact h4 j g1 (by omega) g3
/-- One more ahead: it is taken if it counts and none is less. -/
theorem First.down {K c l a b r} (hab : a + 1 ≤ b) (h : First K c l (a + 1) b r) : First K c l a b (if c (bl l a) = true ∧ (r < 0 ∨ ¬ ltK (K (bl l r.toNat)) (K (bl l a))) then (a : Int) else r) := by
  rcases h with ⟨rfl, h⟩ | ⟨k, rfl, h1, h2, h3, h4⟩
  · by_cases hc : c (bl l a) = true
    · rw [if_pos ⟨hc, .inl (by omega)⟩]
      refine .inr ⟨a, rfl, Nat.le_refl _, hab, hc, fun j g1 g2 g3 => ?_⟩
      by_cases e : j = a
      · subst e; exact ⟨fun h => by omega, by simp [ltK]⟩
      · rw [h j (by omega) g2] at g3; cases g3
    · rw [if_neg (fun h => hc h.1)]
      refine .inl ⟨rfl, fun j g1 g2 => ?_⟩
      by_cases e : j = a
      · subst e; simpa using hc
      · exact h j (by omega) g2
  · simp only [Int.toNat_natCast]
    by_cases hc : c (bl l a) = true ∧ ¬ ltK (K (bl l k)) (K (bl l a))
    · rw [if_pos ⟨hc.1, .inr hc.2⟩]
      refine .inr ⟨a, rfl, Nat.le_refl _, by omega, hc.1, fun j g1 g2 g3 => ?_⟩
      by_cases e : j = a
      · subst e; exact ⟨fun h => by omega, by simp [ltK]⟩
      · have := (h4 j (by omega) g2 g3).2
        have hl := hc.2
        refine ⟨fun h => by omega, ?_⟩
        simp only [ltK] at *; omega
    · rw [if_neg (fun h => hc ⟨h.1, h.2.elim (fun h => by omega) id⟩)]
      refine .inr ⟨k, rfl, by omega, h2, h3, fun j g1 g2 g3 => ?_⟩
      by_cases e : j = a
      · subst e
        have hl : ltK (K (bl l k)) (K (bl l j)) := Decidable.byContradiction fun h => hc ⟨g3, h⟩
        exact ⟨fun _ => hl, by simp only [ltK] at *; omega⟩
      · exact h4 j (by omega) g2 g3
end Go.Proofs.Ytfdehjkpglkheaa.Aw
