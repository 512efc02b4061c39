/-
  The first of the least of those that count. Plain Lean.; What the functions of the package 'wear' compute.; What the package 'wear' answers.
-/
import Derived.Test.YtdgpiobmncohjaaGreatDoorAwBun
import Derived.Test.YtdgpiobmncohjaaGreatDoorCodeS
set_option linter.unusedSimpArgs false
set_option linter.unusedVariables false
namespace Go.Proofs.YtdgpiobmncohjaaGreatDoor.Aw.Wr
open Go.RowKit

structure Blk where
  st : Int
  va : Int
  wo : Int

def rowB (b : Blk) : List PV := [.int .i64 b.st, .int .i64 b.va, .int .i64 b.wo]
theorem rowB_len (b : Blk) : (rowB b).length = 3 := rfl
def bl (l : List Blk) (j : Nat) : Blk := l.getD j ⟨0, 0, 0⟩
theorem bl_at {l : List Blk} {j : Nat} (h : j < l.length) : bl l j = l[j] := by simp [bl, h]

def wornS (b : Blk) : Int := if b.wo < 0 then 0 else b.wo
def cmpS (x y : Int) : Int := if x < y then -1 else if y < x then 1 else 0
def byWornS (a b : Blk) : Int := cmpS (wornS a) (wornS b)
def isS (s : Int) (b : Blk) : Bool := b.st == s
def ltK (a b : Int × Int) : Prop := a.1 < b.1 ∨ (a.1 = b.1 ∧ a.2 < b.2)
instance (a b : Int × Int) : Decidable (ltK a b) := by unfold ltK; infer_instance
def kWorn (b : Blk) : Int × Int := (wornS b, 0)
theorem cmp_neg {x y : Int} : cmpS x y < 0 ↔ x < y := by
  simp only [cmpS]
  split
  · omega
  · split <;> omega
theorem byWorn_lt {a b : Blk} : byWornS a b < 0 ↔ ltK (kWorn a) (kWorn b) := by rw [byWornS, cmp_neg]; simp [ltK, kWorn]
/-- 'r' is the first place, of those from 'a' to 'b', of the least that count; -1: none counts. -/
def First (K : Blk → Int × Int) (c : Blk → Bool) (l : List Blk) (a b : Nat) (r : Int) : Prop :=
  (r = -1 ∧ ∀ j, a ≤ j → j < b → c (bl l j) = false) ∨
  ∃ k : Nat, r = k ∧ a ≤ k ∧ k < b ∧ c (bl l k) = true ∧ ∀ j, a ≤ j → j < b → c (bl l j) = true → (j < k → ltK (K (bl l k)) (K (bl l j))) ∧ ¬ ltK (K (bl l j)) (K (bl l k))

theorem First.uniq {K c l a b r r'} (h : First K c l a b r) (h' : First K c l a b r') : r = r' := by
  rcases h with ⟨rfl, h⟩ | ⟨k, rfl, h1, h2, h3, h4⟩
  · rcases h' with ⟨rfl, _⟩ | ⟨k', rfl, g1, g2, g3, g4⟩
    · rfl
    · rw [h k' g1 g2] at g3; cases g3
  · rcases h' with ⟨rfl, g⟩ | ⟨k', rfl, g1, g2, g3, g4⟩
    · rw [g k h1 h2] at h3; cases h3
    · rcases Nat.lt_trichotomy k k' with e | e | e
      · exact absurd ((g4 k h1 h2 h3).1 e) (h4 k' g1 g2 g3).2
      · rw [e]
      · exact absurd ((h4 k' g1 g2 g3).1 e) (g4 k h1 h2 h3).2

theorem First.none {K c l} (a : Nat) : First K c l a a (-1) := .inl ⟨rfl, fun j h1 h2 => by omega⟩
theorem First.lt {K c l a b r} (h : First K c l a b r) : -1 ≤ r ∧ r < b := by
  rcases h with ⟨rfl, _⟩ | ⟨k, rfl, h1, h2, _⟩ <;> omega
theorem First.at {K c l a b r} (h : First K c l a b r) (h0 : 0 ≤ r) : c (bl l r.toNat) = true := by
  rcases h with ⟨rfl, _⟩ | ⟨k, rfl, h1, h2, h3, _⟩
  · omega
  · simpa using h3
/-- One more behind: it is taken if it counts and is less. -/
theorem First.up {K c l a b r} (hab : a ≤ b) (h : First K c l a b r) : First K c l a (b + 1) (if c (bl l b) = true ∧ (r < 0 ∨ ltK (K (bl l b)) (K (bl l r.toNat))) then (b : Int) else r) := by
  rcases h with ⟨rfl, h⟩ | ⟨k, rfl, h1, h2, h3, h4⟩
  · by_cases hc : c (bl l b) = true
    · rw [if_pos ⟨hc, .inl (by omega)⟩]
      refine .inr ⟨b, rfl, hab, by omega, hc, fun j g1 g2 g3 => ?_⟩
      by_cases e : j = b
      · subst e; exact ⟨fun h => by omega, by simp [ltK]⟩
      · rw [h j g1 (by omega)] at g3; cases g3
    · rw [if_neg (fun h => hc h.1)]
      refine .inl ⟨rfl, fun j g1 g2 => ?_⟩
      by_cases e : j = b
      · subst e; simpa using hc
      · exact h j g1 (by omega)
  · simp only [Int.toNat_natCast]
    by_cases hc : c (bl l b) = true ∧ ltK (K (bl l b)) (K (bl l k))
    · rw [if_pos ⟨hc.1, .inr hc.2⟩]
      refine .inr ⟨b, rfl, hab, by omega, hc.1, fun j g1 g2 g3 => ?_⟩
      by_cases e : j = b
      · subst e; exact ⟨fun h => by omega, by simp [ltK]⟩
      · have := (h4 j g1 (by omega) g3).2
        have hl := hc.2
        refine ⟨fun _ => ?_, ?_⟩ <;> simp only [ltK] at * <;> omega
    · rw [if_neg (fun h => hc ⟨h.1, h.2.elim (fun h => by omega) id⟩)]
      refine .inr ⟨k, rfl, h1, by omega, h3, fun j g1 g2 g3 => ?_⟩
      by_cases e : j = b
      · subst e; exact ⟨fun h => by omega, fun h => hc ⟨g3, h⟩⟩
      · exact h4 j g1 (by omega) g3
/-- One more ahead: it is taken if it counts and none is less. -/
theorem First.down {K c l a b r} (hab : a + 1 ≤ b) (h : First K c l (a + 1) b r) : First K c l a b (if c (bl l a) = true ∧ (r < 0 ∨ ¬ ltK (K (bl l r.toNat)) (K (bl l a))) then (a : Int) else r) := by
  rcases h with ⟨rfl, h⟩ | ⟨k, rfl, h1, h2, h3, h4⟩
  · by_cases hc : c (bl l a) = true
    · rw [if_pos ⟨hc, .inl (by omega)⟩]
      refine .inr ⟨a, rfl, Nat.le_refl _, hab, hc, fun j g1 g2 g3 => ?_⟩
      by_cases e : j = a
      · subst e; exact ⟨fun h => by omega, by simp [ltK]⟩
      · rw [h j (by omega) g2] at g3; cases g3
    · rw [if_neg (fun h => hc h.1)]
      refine .inl ⟨rfl, fun j g1 g2 => ?_⟩
      by_cases e : j = a
      · subst e; simpa using hc
      · exact h j (by omega) g2
  · simp only [Int.toNat_natCast]
    by_cases hc : c (bl l a) = true ∧ ¬ ltK (K (bl l k)) (K (bl l a))
    · rw [if_pos ⟨hc.1, .inr hc.2⟩]
      refine .inr ⟨a, rfl, Nat.le_refl _, by omega, hc.1, fun j g1 g2 g3 => ?_⟩
      by_cases e : j = a
      · subst e; exact ⟨fun h => by omega, by simp [ltK]⟩
      · have := (h4 j (by omega) g2 g3).2
        have hl := hc.2
        refine ⟨fun h => by omega, ?_⟩
        simp only [ltK] at *; omega
    · rw [if_neg (fun h => hc ⟨h.1, h.2.elim (fun h => by omega) id⟩)]
      refine .inr ⟨k, rfl, by omega, h2, h3, fun j g1 g2 g3 => ?_⟩
      by_cases e : j = a
      · subst e
        have hl : ltK (K (bl l k)) (K (bl l j)) := Decidable.byContradiction fun h => hc ⟨g3, h⟩
        exact ⟨fun _ => hl, by simp only [ltK] at *; omega⟩
      · exact h4 j (by omega) g2 g3
end Go.Proofs.YtdgpiobmncohjaaGreatDoor.Aw.Wr
namespace Go.Proofs.YtdgpiobmncohjaaGreatDoor.Aw.Wr
open Go.RowKit

abbrev pB (b : Blk) : PV := .agg (rowB b)
theorem isNaN_spec (x : Int) : PCall Tryz.prog 87 [.int .i64 x] (.bool false) := by
  refine pcall_go Tryz.func87 comp_cmp_isNaN_int ?_
  have d : (x != x) = false := by simp
  simp (config := {maxSteps := 4000000}) only [U_cmp_isNaN_int, d, reduceIte, reduceCtorEq, Nat.reduceEqDiff, Nat.reduceAdd, Int.reduceLT, Int.reduceLE, Int.reduceNeg, Int.reduceEq, Nat.reduceLT, Nat.reduceSub, Nat.reduceMul, Nat.reduceBEq, Nat.reduceLeDiff, Int.reduceBEq, Int.reduceBNe, Int.reduceToNat, ne_eq, implies_true, bA]
theorem cmp_spec (x y : Int) : PCall Tryz.prog 50 [.int .i64 x, .int .i64 y] (.int .i64 (cmpS x y)) := by
  refine pcall_go Tryz.func50 comp_cmp_Compare_int ?_
  simp (config := {maxSteps := 4000000}) only [U_cmp_Compare_int, reduceIte, reduceCtorEq, Nat.reduceEqDiff, Nat.reduceAdd, Int.reduceLT, Int.reduceLE, Int.reduceNeg, Int.reduceEq, Nat.reduceLT, Nat.reduceSub, Nat.reduceMul, Nat.reduceBEq, Nat.reduceLeDiff, Int.reduceBEq, Int.reduceBNe, Int.reduceToNat, ne_eq, implies_true, bA]
  refine callI (isNaN_spec x) ?_
  simp (config := {maxSteps := 4000000}) only [U_cmp_Compare_int, reduceIte, reduceCtorEq, Nat.reduceEqDiff, Nat.reduceAdd, Int.reduceLT, Int.reduceLE, Int.reduceNeg, Int.reduceEq, Nat.reduceLT, Nat.reduceSub, Nat.reduceMul, Nat.reduceBEq, Nat.reduceLeDiff, Int.reduceBEq, Int.reduceBNe, Int.reduceToNat, ne_eq, implies_true, bA]
  refine callI (isNaN_spec y) ?_
  by_cases h1 : x < y
  · have d1 : decide (x < y) = true := by simpa using h1
    simp (config := {maxSteps := 4000000}) only [U_cmp_Compare_int, d1, reduceIte, reduceCtorEq, Nat.reduceEqDiff, Nat.reduceAdd, Int.reduceLT, Int.reduceLE, Int.reduceNeg, Int.reduceEq, Nat.reduceLT, Nat.reduceSub, Nat.reduceMul, Nat.reduceBEq, Nat.reduceLeDiff, Int.reduceBEq, Int.reduceBNe, Int.reduceToNat, ne_eq, implies_true, bA]
    simp [cmpS, h1]
  · have d1 : decide (x < y) = false := by simpa using h1
    by_cases h2 : y < x
    · have d2 : decide (y < x) = true := by simpa using h2
      simp (config := {maxSteps := 4000000}) only [U_cmp_Compare_int, d1, d2, reduceIte, reduceCtorEq, Nat.reduceEqDiff, Nat.reduceAdd, Int.reduceLT, Int.reduceLE, Int.reduceNeg, Int.reduceEq, Nat.reduceLT, Nat.reduceSub, Nat.reduceMul, Nat.reduceBEq, Nat.reduceLeDiff, Int.reduceBEq, Int.reduceBNe, Int.reduceToNat, ne_eq, implies_true, bA]
      simp [cmpS, h1, h2]
    · have d2 : decide (y < x) = false := by simpa using h2
      simp (config := {maxSteps := 4000000}) only [U_cmp_Compare_int, d1, d2, reduceIte, reduceCtorEq, Nat.reduceEqDiff, Nat.reduceAdd, Int.reduceLT, Int.reduceLE, Int.reduceNeg, Int.reduceEq, Nat.reduceLT, Nat.reduceSub, Nat.reduceMul, Nat.reduceBEq, Nat.reduceLeDiff, Int.reduceBEq, Int.reduceBNe, Int.reduceToNat, ne_eq, implies_true, bA]
      simp [cmpS, h1, h2]
theorem worn_spec (b : Blk) : PCall Tryz.prog 190 [pB b] (.int .i64 (wornS b)) := by
  refine pcall_go Tryz.func190 comp_wear_worn ?_
  simp (config := {maxSteps := 4000000}) only [U_wear_worn, rowB, reduceIte, reduceCtorEq, Nat.reduceEqDiff, Nat.reduceAdd, Int.reduceLT, Int.reduceLE, Int.reduceNeg, Int.reduceEq, Nat.reduceLT, Nat.reduceSub, Nat.reduceMul, Nat.reduceBEq, Nat.reduceLeDiff, Int.reduceBEq, Int.reduceBNe, Int.reduceToNat, ne_eq, implies_true, bA]
  have : max b.wo 0 = wornS b := by simp only [wornS, Int.max_def]; split <;> split <;> omega
  rw [this]
theorem byWorn_spec (a b : Blk) : PCall Tryz.prog 175 [pB a, pB b] (.int .i64 (byWornS a b)) := by
  refine pcall_go Tryz.func175 comp_wear_byWorn ?_
  simp (config := {maxSteps := 4000000}) only [U_wear_byWorn, rowB, reduceIte, reduceCtorEq, Nat.reduceEqDiff, Nat.reduceAdd, Int.reduceLT, Int.reduceLE, Int.reduceNeg, Int.reduceEq, Nat.reduceLT, Nat.reduceSub, Nat.reduceMul, Nat.reduceBEq, Nat.reduceLeDiff, Int.reduceBEq, Int.reduceBNe, Int.reduceToNat, ne_eq, implies_true, bA]
  refine callI (worn_spec a) ?_
  simp (config := {maxSteps := 4000000}) only [U_wear_byWorn, rowB, reduceIte, reduceCtorEq, Nat.reduceEqDiff, Nat.reduceAdd, Int.reduceLT, Int.reduceLE, Int.reduceNeg, Int.reduceEq, Nat.reduceLT, Nat.reduceSub, Nat.reduceMul, Nat.reduceBEq, Nat.reduceLeDiff, Int.reduceBEq, Int.reduceBNe, Int.reduceToNat, ne_eq, implies_true, bA]
  refine callI (worn_spec b) ?_
  simp (config := {maxSteps := 4000000}) only [U_wear_byWorn, rowB, reduceIte, reduceCtorEq, Nat.reduceEqDiff, Nat.reduceAdd, Int.reduceLT, Int.reduceLE, Int.reduceNeg, Int.reduceEq, Nat.reduceLT, Nat.reduceSub, Nat.reduceMul, Nat.reduceBEq, Nat.reduceLeDiff, Int.reduceBEq, Int.reduceBNe, Int.reduceToNat, ne_eq, implies_true, bA]
  refine callI (cmp_spec _ _) ?_
  simp (config := {maxSteps := 4000000}) only [U_wear_byWorn, rowB, reduceIte, reduceCtorEq, Nat.reduceEqDiff, Nat.reduceAdd, Int.reduceLT, Int.reduceLE, Int.reduceNeg, Int.reduceEq, Nat.reduceLT, Nat.reduceSub, Nat.reduceMul, Nat.reduceBEq, Nat.reduceLeDiff, Int.reduceBEq, Int.reduceBNe, Int.reduceToNat, ne_eq, implies_true, bA]
  all_goals rfl
theorem is1_spec (s : Int) (b : Blk) : PCall Tryz.prog 189 [pB b, .fptr [.int .i64 s]] (.bool (isS s b)) := by
  refine pcall_go Tryz.func189 comp_wear_is_c1 ?_
  simp (config := {maxSteps := 4000000}) only [U_wear_is_c1, rowB, reduceIte, reduceCtorEq, Nat.reduceEqDiff, Nat.reduceAdd, Int.reduceLT, Int.reduceLE, Int.reduceNeg, Int.reduceEq, Nat.reduceLT, Nat.reduceSub, Nat.reduceMul, Nat.reduceBEq, Nat.reduceLeDiff, Int.reduceBEq, Int.reduceBNe, Int.reduceToNat, ne_eq, implies_true, bA]
  all_goals rfl
theorem is_spec (s : Int) : PCall Tryz.prog 174 [.int .i64 s] (.fn (.func 189) [] [.fptr [.int .i64 s]]) := by
  refine pcall_go Tryz.func174 comp_wear_is ?_
  simp (config := {maxSteps := 4000000}) only [U_wear_is, reduceIte, reduceCtorEq, Nat.reduceEqDiff, Nat.reduceAdd, Int.reduceLT, Int.reduceLE, Int.reduceNeg, Int.reduceEq, Nat.reduceLT, Nat.reduceSub, Nat.reduceMul, Nat.reduceBEq, Nat.reduceLeDiff, Int.reduceBEq, Int.reduceBNe, Int.reduceToNat, ne_eq, implies_true, bA]
theorem least_spec (K : Blk → Int × Int) (c : Blk → Bool) (o : Blk → Blk → Int) (l : List Blk) (g1 g2 : Nat) (cap1 : List PV) (hl : l.length ≤ 1000000) (hc1 : ownL cap1 = false) (hu1 : undL 0 cap1 = true)
    (ho : ∀ a b, o a b < 0 ↔ ltK (K a) (K b)) (hp1 : ∀ b, PCall Tryz.prog g1 (pB b :: cap1) (.bool (c b))) (hp2 : ∀ a b, PCall Tryz.prog g2 [pB a, pB b] (.int .i64 (o a b))) (r : Int) (hr : First K c l 0 l.length r) :
    PCall Tryz.prog 173 [.slc (l.map rowB), .fn (.func g1) [] cap1, .fn (.func g2) [] []] (.int .i64 r) := by
  refine pcall_go Tryz.func173 comp_wear_least_api_Block ?_
  simp (config := {maxSteps := 4000000}) only [U_wear_least_api_Block, reduceIte, reduceCtorEq, Nat.reduceEqDiff, Nat.reduceAdd, Int.reduceLT, Int.reduceLE, Int.reduceNeg, Int.reduceEq, Nat.reduceLT, Nat.reduceSub, Nat.reduceMul, Nat.reduceBEq, Nat.reduceLeDiff, Int.reduceBEq, Int.reduceBNe, Int.reduceToNat, ne_eq, implies_true, bA]
  refine loopF (fun x : Nat × Int => ⟨ofL [(0, .slc (l.map rowB)), (1, .fn (.func g1) [] cap1), (2, .fn (.func g2) [] []), (7, .int .i64 x.2), (10, .slc (l.map rowB)), (11, .int .i64 l.length), (12, .int .i64 x.1)], []⟩)
    (fun x => x.1 ≤ l.length ∧ First K c l 0 x.1 x.2) (fun x => l.length - x.1) (0, -1) ?_ ⟨Nat.zero_le _, First.none 0⟩ ?_
  · simp (config := {maxSteps := 4000000}) only [U_wear_least_api_Block, hu1, reduceIte, reduceCtorEq, Nat.reduceEqDiff, Nat.reduceAdd, Int.reduceLT, Int.reduceLE, Int.reduceNeg, Int.reduceEq, Nat.reduceLT, Nat.reduceSub, Nat.reduceMul, Nat.reduceBEq, Nat.reduceLeDiff, Int.reduceBEq, Int.reduceBNe, Int.reduceToNat, ne_eq, implies_true, bA]
    all_goals rfl
  · intro ⟨i, best⟩ ⟨hi, hf⟩
    simp only [] at hi hf ⊢
    by_cases h : i < l.length
    · have d : decide ((i : Int) < (l.length : Int)) = true := by simpa using h
      have e1 : IntKind.i64.wrap ((i : Int) + 1) = ((i + 1 : Nat) : Int) := by rw [wrapI (by omega) (by omega)]; omega
      have hup := hf.up (Nat.zero_le i)
      have hbl := bl_at h
      simp (config := {maxSteps := 4000000}) only [U_wear_least_api_Block, d, islV_map (g := rowB) h (rowB_len _), rowB, hc1, reduceIte, reduceCtorEq, Nat.reduceEqDiff, Nat.reduceAdd, Int.reduceLT, Int.reduceLE, Int.reduceNeg, Int.reduceEq, Nat.reduceLT, Nat.reduceSub, Nat.reduceMul, Nat.reduceBEq, Nat.reduceLeDiff, Int.reduceBEq, Int.reduceBNe, Int.reduceToNat, ne_eq, implies_true, bA]
      refine callI (hp1 l[i]) ?_
      by_cases hc : c l[i] = true
      · by_cases hb : best < 0
        · have d2 : decide (best < 0) = true := by simpa using hb
          simp (config := {maxSteps := 4000000}) only [U_wear_least_api_Block, d, islV_map (g := rowB) h (rowB_len _), rowB, hc, d2, e1, hu1, reduceIte, reduceCtorEq, Nat.reduceEqDiff, Nat.reduceAdd, Int.reduceLT, Int.reduceLE, Int.reduceNeg, Int.reduceEq, Nat.reduceLT, Nat.reduceSub, Nat.reduceMul, Nat.reduceBEq, Nat.reduceLeDiff, Int.reduceBEq, Int.reduceBNe, Int.reduceToNat, ne_eq, implies_true, bA]
          refine ⟨(i + 1, (i : Int)), rfl, ⟨h, ?_⟩, by show l.length - (i + 1) < l.length - i; omega⟩
          rwa [if_pos ⟨by rw [hbl]; exact hc, .inl hb⟩] at hup
        · have d2 : decide (best < 0) = false := by simpa using hb
          have hlt := hf.lt
          obtain ⟨k, rfl⟩ : ∃ k : Nat, best = k := ⟨best.toNat, by omega⟩
          have hk : k < l.length := by omega
          have hbk := bl_at hk
          simp (config := {maxSteps := 4000000}) only [U_wear_least_api_Block, d, islV_map (g := rowB) h (rowB_len _), islV_map (g := rowB) hk (rowB_len _), rowB, hc, d2, e1, reduceIte, reduceCtorEq, Nat.reduceEqDiff, Nat.reduceAdd, Int.reduceLT, Int.reduceLE, Int.reduceNeg, Int.reduceEq, Nat.reduceLT, Nat.reduceSub, Nat.reduceMul, Nat.reduceBEq, Nat.reduceLeDiff, Int.reduceBEq, Int.reduceBNe, Int.reduceToNat, ne_eq, implies_true, bA]
          refine callI (hp2 l[i] l[k]) ?_
          by_cases hlt2 : o l[i] l[k] < 0
          · have d3 : decide (o l[i] l[k] < 0) = true := by simpa using hlt2
            simp (config := {maxSteps := 4000000}) only [U_wear_least_api_Block, d3, e1, hu1, reduceIte, reduceCtorEq, Nat.reduceEqDiff, Nat.reduceAdd, Int.reduceLT, Int.reduceLE, Int.reduceNeg, Int.reduceEq, Nat.reduceLT, Nat.reduceSub, Nat.reduceMul, Nat.reduceBEq, Nat.reduceLeDiff, Int.reduceBEq, Int.reduceBNe, Int.reduceToNat, ne_eq, implies_true, bA]
            refine ⟨(i + 1, (i : Int)), rfl, ⟨h, ?_⟩, by show l.length - (i + 1) < l.length - i; omega⟩
            rwa [if_pos ⟨by rw [hbl]; exact hc, .inr (by rw [Int.toNat_natCast, hbl, hbk]; exact (ho _ _).1 hlt2)⟩] at hup
          · have d3 : decide (o l[i] l[k] < 0) = false := by simpa using hlt2
            simp (config := {maxSteps := 4000000}) only [U_wear_least_api_Block, d3, e1, hu1, reduceIte, reduceCtorEq, Nat.reduceEqDiff, Nat.reduceAdd, Int.reduceLT, Int.reduceLE, Int.reduceNeg, Int.reduceEq, Nat.reduceLT, Nat.reduceSub, Nat.reduceMul, Nat.reduceBEq, Nat.reduceLeDiff, Int.reduceBEq, Int.reduceBNe, Int.reduceToNat, ne_eq, implies_true, bA]
            refine ⟨(i + 1, (k : Int)), rfl, ⟨h, ?_⟩, by show l.length - (i + 1) < l.length - i; omega⟩
            rwa [if_neg (fun hh => hh.2.elim (fun h => by omega) fun h => hlt2 ((ho _ _).2 (by rwa [Int.toNat_natCast, hbl, hbk] at h)))] at hup
      · simp only [Bool.not_eq_true] at hc
        simp (config := {maxSteps := 4000000}) only [U_wear_least_api_Block, d, hc, e1, hu1, reduceIte, reduceCtorEq, Nat.reduceEqDiff, Nat.reduceAdd, Int.reduceLT, Int.reduceLE, Int.reduceNeg, Int.reduceEq, Nat.reduceLT, Nat.reduceSub, Nat.reduceMul, Nat.reduceBEq, Nat.reduceLeDiff, Int.reduceBEq, Int.reduceBNe, Int.reduceToNat, ne_eq, implies_true, bA]
        refine ⟨(i + 1, best), rfl, ⟨h, ?_⟩, by show l.length - (i + 1) < l.length - i; omega⟩
        rwa [if_neg (fun hh => by rw [hbl, hc] at hh; exact absurd hh.1 (by simp))] at hup
    · have d : decide ((i : Int) < (l.length : Int)) = false := by simpa using h
      have : i = l.length := by omega
      subst this
      simp (config := {maxSteps := 4000000}) only [U_wear_least_api_Block, d, reduceIte, reduceCtorEq, Nat.reduceEqDiff, Nat.reduceAdd, Int.reduceLT, Int.reduceLE, Int.reduceNeg, Int.reduceEq, Nat.reduceLT, Nat.reduceSub, Nat.reduceMul, Nat.reduceBEq, Nat.reduceLeDiff, Int.reduceBEq, Int.reduceBNe, Int.reduceToNat, ne_eq, implies_true, bA]
      rw [hf.uniq hr]
end Go.Proofs.YtdgpiobmncohjaaGreatDoor.Aw.Wr
namespace Go.Proofs.YtdgpiobmncohjaaGreatDoor.Aw.Wr
open Go.RowKit

/-- The first of the least that count, up to a place. -/
def firstN (K : Blk → Int × Int) (c : Blk → Bool) (l : List Blk) : Nat → Int
  | 0 => -1
  | b + 1 => if c (bl l b) = true ∧ (firstN K c l b < 0 ∨ ltK (K (bl l b)) (K (bl l (firstN K c l b).toNat))) then (b : Int) else firstN K c l b
theorem firstN_first (K c l) : ∀ b, First K c l 0 b (firstN K c l b)
  | 0 => First.none 0
  | b + 1 => (firstN_first K c l b).up (Nat.zero_le b)
def pickS (l : List Blk) : Int := firstN kWorn (isS 0) l l.length
def countN (l : List Blk) (s : Int) : Nat → Nat
  | 0 => 0
  | b + 1 => if (bl l b).st = s then countN l s b + 1 else countN l s b
theorem countN_le (l s) : ∀ b, countN l s b ≤ b
  | 0 => Nat.le_refl _
  | b + 1 => by have := countN_le l s b; simp only [countN]; split <;> omega

theorem pick_spec (l : List Blk) (hl : l.length ≤ 1000000) : PCall Tryz.prog 150 [.slc (l.map rowB)] (.int .i64 (pickS l)) := by
  refine pcall_go Tryz.func150 comp_wear_Pick ?_
  simp (config := {maxSteps := 4000000}) only [U_wear_Pick, reduceIte, reduceCtorEq, Nat.reduceEqDiff, Nat.reduceAdd, Int.reduceLT, Int.reduceLE, Int.reduceNeg, Int.reduceEq, Nat.reduceLT, Nat.reduceSub, Nat.reduceMul, Nat.reduceBEq, Nat.reduceLeDiff, Int.reduceBEq, Int.reduceBNe, Int.reduceToNat, ne_eq, implies_true, bA]
  refine callI (is_spec 0) ?_
  simp (config := {maxSteps := 4000000}) only [U_wear_Pick, reduceIte, reduceCtorEq, Nat.reduceEqDiff, Nat.reduceAdd, Int.reduceLT, Int.reduceLE, Int.reduceNeg, Int.reduceEq, Nat.reduceLT, Nat.reduceSub, Nat.reduceMul, Nat.reduceBEq, Nat.reduceLeDiff, Int.reduceBEq, Int.reduceBNe, Int.reduceToNat, ne_eq, implies_true, bA]
  refine callI (least_spec kWorn (isS 0) byWornS l _ _ _ hl rfl rfl (fun _ _ => byWorn_lt) (is1_spec 0) byWorn_spec _ (firstN_first _ _ _ _)) ?_
  simp (config := {maxSteps := 4000000}) only [U_wear_Pick, reduceIte, reduceCtorEq, Nat.reduceEqDiff, Nat.reduceAdd, Int.reduceLT, Int.reduceLE, Int.reduceNeg, Int.reduceEq, Nat.reduceLT, Nat.reduceSub, Nat.reduceMul, Nat.reduceBEq, Nat.reduceLeDiff, Int.reduceBEq, Int.reduceBNe, Int.reduceToNat, ne_eq, implies_true, bA]
  all_goals rfl
theorem count_spec (l : List Blk) (s : Int) (hl : l.length ≤ 1000000) : PCall Tryz.prog 102 [.slc (l.map rowB), .int .i64 s] (.int .i64 (countN l s l.length)) := by
  refine pcall_go Tryz.func102 comp_wear_Count ?_
  simp (config := {maxSteps := 4000000}) only [U_wear_Count, reduceIte, reduceCtorEq, Nat.reduceEqDiff, Nat.reduceAdd, Int.reduceLT, Int.reduceLE, Int.reduceNeg, Int.reduceEq, Nat.reduceLT, Nat.reduceSub, Nat.reduceMul, Nat.reduceBEq, Nat.reduceLeDiff, Int.reduceBEq, Int.reduceBNe, Int.reduceToNat, ne_eq, implies_true, bA]
  refine loopF (fun i : Nat => ⟨ofL [(1, .int .i64 s), (5, .int .i64 (countN l s i)), (8, .slc (l.map rowB)), (9, .int .i64 l.length), (10, .int .i64 i)], []⟩) (fun i => i ≤ l.length) (fun i => l.length - i) 0 ?_ (Nat.zero_le _) ?_
  · simp (config := {maxSteps := 4000000}) only [U_wear_Count, reduceIte, reduceCtorEq, Nat.reduceEqDiff, Nat.reduceAdd, Int.reduceLT, Int.reduceLE, Int.reduceNeg, Int.reduceEq, Nat.reduceLT, Nat.reduceSub, Nat.reduceMul, Nat.reduceBEq, Nat.reduceLeDiff, Int.reduceBEq, Int.reduceBNe, Int.reduceToNat, ne_eq, implies_true, bA]
    all_goals rfl
  · intro i hi
    by_cases h : i < l.length
    · have d : decide ((i : Int) < (l.length : Int)) = true := by simpa using h
      have e1 : IntKind.i64.wrap ((i : Int) + 1) = ((i + 1 : Nat) : Int) := by rw [wrapI (by omega) (by omega)]; omega
      have hc := countN_le l s i
      have e2 : IntKind.i64.wrap ((countN l s i : Int) + 1) = ((countN l s i + 1 : Nat) : Int) := by rw [wrapI (by omega) (by omega)]; omega
      have hb := bl_at h
      by_cases hs : l[i].st = s
      · have d2 : (l[i].st == s) = true := by simpa using hs
        simp (config := {maxSteps := 4000000}) only [U_wear_Count, d, islV_map (g := rowB) h (rowB_len _), rowB, d2, e1, e2, reduceIte, reduceCtorEq, Nat.reduceEqDiff, Nat.reduceAdd, Int.reduceLT, Int.reduceLE, Int.reduceNeg, Int.reduceEq, Nat.reduceLT, Nat.reduceSub, Nat.reduceMul, Nat.reduceBEq, Nat.reduceLeDiff, Int.reduceBEq, Int.reduceBNe, Int.reduceToNat, ne_eq, implies_true, bA]
        exact ⟨i + 1, by simp only [countN, hb, hs, if_true], h, by omega⟩
      · have d2 : (l[i].st == s) = false := by simpa using hs
        simp (config := {maxSteps := 4000000}) only [U_wear_Count, d, islV_map (g := rowB) h (rowB_len _), rowB, d2, e1, reduceIte, reduceCtorEq, Nat.reduceEqDiff, Nat.reduceAdd, Int.reduceLT, Int.reduceLE, Int.reduceNeg, Int.reduceEq, Nat.reduceLT, Nat.reduceSub, Nat.reduceMul, Nat.reduceBEq, Nat.reduceLeDiff, Int.reduceBEq, Int.reduceBNe, Int.reduceToNat, ne_eq, implies_true, bA]
        exact ⟨i + 1, by simp only [countN, hb, hs, if_false], h, by omega⟩
    · have d : decide ((i : Int) < (l.length : Int)) = false := by simpa using h
      have : i = l.length := by omega
      subst this
      simp (config := {maxSteps := 4000000}) only [U_wear_Count, d, reduceIte, reduceCtorEq, Nat.reduceEqDiff, Nat.reduceAdd, Int.reduceLT, Int.reduceLE, Int.reduceNeg, Int.reduceEq, Nat.reduceLT, Nat.reduceSub, Nat.reduceMul, Nat.reduceBEq, Nat.reduceLeDiff, Int.reduceBEq, Int.reduceBNe, Int.reduceToNat, ne_eq, implies_true, bA]
end Go.Proofs.YtdgpiobmncohjaaGreatDoor.Aw.Wr
