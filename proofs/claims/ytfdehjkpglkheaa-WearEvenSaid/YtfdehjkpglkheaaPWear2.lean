/-
  What the package 'wear' answers.
-/
import Derived.Test.YtfdehjkpglkheaaPWear
set_option linter.unusedSimpArgs false
set_option linter.unusedVariables false
namespace Go.Proofs.Ytfdehjkpglkheaa.Aw
open Go.RowKit

/-- The first of the least that count, up to a place. -/
def firstN (K : Blk → Int × Int) (c : Blk → Bool) (l : List Blk) : Nat → Int
  | 0 => -1
  | b + 1 => if c (bl l b) = true ∧ (firstN K c l b < 0 ∨ ltK (K (bl l b)) (K (bl l (firstN K c l b).toNat))) then (b : Int) else firstN K c l b
theorem firstN_first (K c l) : ∀ b, First K c l 0 b (firstN K c l b)
  | 0 => First.none 0
  | b + 1 => (firstN_first K c l b).up (Nat.zero_le b)
theorem firstN_neg {K K' : Blk → Int × Int} {c l} (b : Nat) (h : firstN K c l b < 0) : firstN K' c l b < 0 := by
  rcases firstN_first K c l b with ⟨_, h1⟩ | ⟨k, h1, _⟩
  · rcases firstN_first K' c l b with ⟨h2, _⟩ | ⟨k, h2, h3, h4, h5, _⟩
    · omega
    · rw [h1 k h3 h4] at h5; cases h5
  · omega
theorem firstN_lt (K c l b) : -1 ≤ firstN K c l b ∧ firstN K c l b < b := (firstN_first K c l b).lt
theorem firstN_at {K c l b} (h : 0 ≤ firstN K c l b) : c (bl l (firstN K c l b).toNat) = true := (firstN_first K c l b).at h
theorem firstN_uniq {K c l b r} (h : First K c l 0 b r) : r = firstN K c l b := h.uniq (firstN_first K c l b)

def pickS (l : List Blk) : Int := firstN kWorn (isS 0) l l.length
def badN (l : List Blk) : Int := firstN kZero badS l l.length
def victimS (l : List Blk) : Int := if 0 ≤ badN l then badN l else firstN kVic (isS 2) l l.length
def lowN (l : List Blk) (b : Nat) : Int := if firstN kWorn goodS l b < 0 then 0 else wornS (bl l (firstN kWorn goodS l b).toNat)
def highN (l : List Blk) (b : Nat) : Int := if firstN kMost goodS l b < 0 then 0 else wornS (bl l (firstN kMost goodS l b).toNat)
def gapS (l : List Blk) : Int := highN l l.length - lowN l l.length
def fullN (l : List Blk) : Int := firstN kWorn (isS 2) l l.length
def coldS (l : List Blk) (gap : Int) : Int := if fullN l < 0 ∨ highN l l.length - wornS (bl l (fullN l).toNat) ≤ (if gap < 0 then 0 else gap) then -1 else fullN l
def countN (l : List Blk) (s : Int) : Nat → Nat
  | 0 => 0
  | b + 1 => if (bl l b).st = s then countN l s b + 1 else countN l s b
theorem countN_le (l s) : ∀ b, countN l s b ≤ b
  | 0 => Nat.le_refl _
  | b + 1 => by have := countN_le l s b; simp only [countN]; split <;> omega

theorem pick_spec (l : List Blk) (hl : l.length ≤ 1000000) : PCall Try.prog 12 [.slc (l.map rowB)] (.int .i64 (pickS l)) := by
  refine pcall_go Try.func12 comp_wear_Pick ?_
  simp (config := {maxSteps := 4000000}) only [U_wear_Pick, reduceIte, reduceCtorEq, Nat.reduceEqDiff, Nat.reduceAdd, Int.reduceLT, Int.reduceLE, Int.reduceNeg, Int.reduceEq, Nat.reduceLT, Nat.reduceSub, Nat.reduceMul, Nat.reduceBEq, Nat.reduceLeDiff, Int.reduceBEq, Int.reduceBNe, Int.reduceToNat, ne_eq, implies_true, bA]
  refine callI (is_spec 0) ?_
  simp (config := {maxSteps := 4000000}) only [U_wear_Pick, reduceIte, reduceCtorEq, Nat.reduceEqDiff, Nat.reduceAdd, Int.reduceLT, Int.reduceLE, Int.reduceNeg, Int.reduceEq, Nat.reduceLT, Nat.reduceSub, Nat.reduceMul, Nat.reduceBEq, Nat.reduceLeDiff, Int.reduceBEq, Int.reduceBNe, Int.reduceToNat, ne_eq, implies_true, bA]
  refine callI (least_spec kWorn (isS 0) byWornS l _ _ _ hl rfl rfl (fun _ _ => byWorn_lt) (is1_spec 0) byWorn_spec _ (firstN_first _ _ _ _)) ?_
  simp (config := {maxSteps := 4000000}) only [U_wear_Pick, reduceIte, reduceCtorEq, Nat.reduceEqDiff, Nat.reduceAdd, Int.reduceLT, Int.reduceLE, Int.reduceNeg, Int.reduceEq, Nat.reduceLT, Nat.reduceSub, Nat.reduceMul, Nat.reduceBEq, Nat.reduceLeDiff, Int.reduceBEq, Int.reduceBNe, Int.reduceToNat, ne_eq, implies_true, bA]
  all_goals rfl
theorem victim_spec (l : List Blk) (hl : l.length ≤ 1000000) : PCall Try.prog 9 [.slc (l.map rowB)] (.int .i64 (victimS l)) := by
  refine pcall_go Try.func9 comp_wear_Victim ?_
  simp (config := {maxSteps := 4000000}) only [U_wear_Victim, reduceIte, reduceCtorEq, Nat.reduceEqDiff, Nat.reduceAdd, Int.reduceLT, Int.reduceLE, Int.reduceNeg, Int.reduceEq, Nat.reduceLT, Nat.reduceSub, Nat.reduceMul, Nat.reduceBEq, Nat.reduceLeDiff, Int.reduceBEq, Int.reduceBNe, Int.reduceToNat, ne_eq, implies_true, bA]
  refine callI (least_spec kZero badS (fun _ _ => 0) l _ _ [] hl rfl rfl (fun _ _ => zero_lt) bad_spec zero_spec _ (firstN_first _ _ _ _)) ?_
  by_cases h : 0 ≤ badN l
  · have d : decide (0 ≤ firstN kZero badS l l.length) = true := by simpa [badN] using h
    simp (config := {maxSteps := 4000000}) only [U_wear_Victim, d, reduceIte, reduceCtorEq, Nat.reduceEqDiff, Nat.reduceAdd, Int.reduceLT, Int.reduceLE, Int.reduceNeg, Int.reduceEq, Nat.reduceLT, Nat.reduceSub, Nat.reduceMul, Nat.reduceBEq, Nat.reduceLeDiff, Int.reduceBEq, Int.reduceBNe, Int.reduceToNat, ne_eq, implies_true, bA]
    rw [victimS, if_pos h]; rfl
  · have d : decide (0 ≤ firstN kZero badS l l.length) = false := by simpa [badN] using h
    simp (config := {maxSteps := 4000000}) only [U_wear_Victim, d, reduceIte, reduceCtorEq, Nat.reduceEqDiff, Nat.reduceAdd, Int.reduceLT, Int.reduceLE, Int.reduceNeg, Int.reduceEq, Nat.reduceLT, Nat.reduceSub, Nat.reduceMul, Nat.reduceBEq, Nat.reduceLeDiff, Int.reduceBEq, Int.reduceBNe, Int.reduceToNat, ne_eq, implies_true, bA]
    refine callI (is_spec 2) ?_
    simp (config := {maxSteps := 4000000}) only [U_wear_Victim, d, reduceIte, reduceCtorEq, Nat.reduceEqDiff, Nat.reduceAdd, Int.reduceLT, Int.reduceLE, Int.reduceNeg, Int.reduceEq, Nat.reduceLT, Nat.reduceSub, Nat.reduceMul, Nat.reduceBEq, Nat.reduceLeDiff, Int.reduceBEq, Int.reduceBNe, Int.reduceToNat, ne_eq, implies_true, bA]
    refine callI (least_spec kVic (isS 2) vicO l _ _ _ hl rfl rfl (fun _ _ => vic_lt) (is1_spec 2) vicO_spec _ (firstN_first _ _ _ _)) ?_
    simp (config := {maxSteps := 4000000}) only [U_wear_Victim, d, reduceIte, reduceCtorEq, Nat.reduceEqDiff, Nat.reduceAdd, Int.reduceLT, Int.reduceLE, Int.reduceNeg, Int.reduceEq, Nat.reduceLT, Nat.reduceSub, Nat.reduceMul, Nat.reduceBEq, Nat.reduceLeDiff, Int.reduceBEq, Int.reduceBNe, Int.reduceToNat, ne_eq, implies_true, bA]
    rw [victimS, if_neg h]
theorem most_spec (l : List Blk) (hl : l.length ≤ 1000000) : PCall Try.prog 30 [.slc (l.map rowB)] (.int .i64 (firstN kMost goodS l l.length)) := by
  refine pcall_go Try.func30 comp_wear_most ?_
  simp (config := {maxSteps := 4000000}) only [U_wear_most, reduceIte, reduceCtorEq, Nat.reduceEqDiff, Nat.reduceAdd, Int.reduceLT, Int.reduceLE, Int.reduceNeg, Int.reduceEq, Nat.reduceLT, Nat.reduceSub, Nat.reduceMul, Nat.reduceBEq, Nat.reduceLeDiff, Int.reduceBEq, Int.reduceBNe, Int.reduceToNat, ne_eq, implies_true, bA]
  refine callI (least_spec kMost goodS (fun a b => byWornS b a) l _ _ [] hl rfl rfl (fun _ _ => most_lt) good_spec most1_spec _ (firstN_first _ _ _ _)) ?_
  simp (config := {maxSteps := 4000000}) only [U_wear_most, reduceIte, reduceCtorEq, Nat.reduceEqDiff, Nat.reduceAdd, Int.reduceLT, Int.reduceLE, Int.reduceNeg, Int.reduceEq, Nat.reduceLT, Nat.reduceSub, Nat.reduceMul, Nat.reduceBEq, Nat.reduceLeDiff, Int.reduceBEq, Int.reduceBNe, Int.reduceToNat, ne_eq, implies_true, bA]
def wornOk (l : List Blk) : Prop := ∀ b ∈ l, b.wo ≤ 9223372036854775807
theorem worn_le {l : List Blk} (h : wornOk l) {k : Nat} (hk : k < l.length) : wornS (bl l k) ≤ 9223372036854775807 := by
  have := h _ (List.getElem_mem hk)
  rw [bl_at hk, wornS]; split <;> omega
theorem gap_spec (l : List Blk) (hl : l.length ≤ 1000000) (hw : wornOk l) : PCall Try.prog 16 [.slc (l.map rowB)] (.int .i64 (gapS l)) := by
  refine pcall_go Try.func16 comp_wear_Gap ?_
  simp (config := {maxSteps := 4000000}) only [U_wear_Gap, reduceIte, reduceCtorEq, Nat.reduceEqDiff, Nat.reduceAdd, Int.reduceLT, Int.reduceLE, Int.reduceNeg, Int.reduceEq, Nat.reduceLT, Nat.reduceSub, Nat.reduceMul, Nat.reduceBEq, Nat.reduceLeDiff, Int.reduceBEq, Int.reduceBNe, Int.reduceToNat, ne_eq, implies_true, bA]
  refine callI (least_spec kWorn goodS byWornS l _ _ [] hl rfl rfl (fun _ _ => byWorn_lt) good_spec byWorn_spec _ (firstN_first _ _ _ _)) ?_
  simp (config := {maxSteps := 4000000}) only [U_wear_Gap, reduceIte, reduceCtorEq, Nat.reduceEqDiff, Nat.reduceAdd, Int.reduceLT, Int.reduceLE, Int.reduceNeg, Int.reduceEq, Nat.reduceLT, Nat.reduceSub, Nat.reduceMul, Nat.reduceBEq, Nat.reduceLeDiff, Int.reduceBEq, Int.reduceBNe, Int.reduceToNat, ne_eq, implies_true, bA]
  refine callI (most_spec l hl) ?_
  have h1 := firstN_lt kWorn goodS l l.length
  have h2 := firstN_lt kMost goodS l l.length
  by_cases h : firstN kWorn goodS l l.length < 0
  · have d : decide (firstN kWorn goodS l l.length < 0) = true := by simpa using h
    have h' : firstN kMost goodS l l.length < 0 := firstN_neg _ h
    simp (config := {maxSteps := 4000000}) only [U_wear_Gap, d, reduceIte, reduceCtorEq, Nat.reduceEqDiff, Nat.reduceAdd, Int.reduceLT, Int.reduceLE, Int.reduceNeg, Int.reduceEq, Nat.reduceLT, Nat.reduceSub, Nat.reduceMul, Nat.reduceBEq, Nat.reduceLeDiff, Int.reduceBEq, Int.reduceBNe, Int.reduceToNat, ne_eq, implies_true, bA]
    simp [gapS, lowN, highN, h, h']
  · have d : decide (firstN kWorn goodS l l.length < 0) = false := by simpa using h
    have h' : ¬ firstN kMost goodS l l.length < 0 := fun h' => h (firstN_neg _ h')
    have e3 : gapS l = wornS (bl l (firstN kMost goodS l l.length).toNat) - wornS (bl l (firstN kWorn goodS l l.length).toNat) := by simp [gapS, lowN, highN, h, h']
    rw [e3]
    obtain ⟨i, hi⟩ : ∃ i : Nat, firstN kWorn goodS l l.length = i := ⟨(firstN kWorn goodS l l.length).toNat, by omega⟩
    obtain ⟨k, hk⟩ : ∃ k : Nat, firstN kMost goodS l l.length = k := ⟨(firstN kMost goodS l l.length).toNat, by omega⟩
    rw [hi] at d h1 ⊢
    rw [hk] at h2 ⊢
    have hil : i < l.length := by omega
    have hkl : k < l.length := by omega
    have b1 := worn_le hw hil
    have b2 := worn_le hw hkl
    have b3 := wornS_nn (bl l i)
    have b4 := wornS_nn (bl l k)
    simp only [Int.toNat_natCast]
    rw [bl_at hil] at *
    rw [bl_at hkl] at *
    simp (config := {maxSteps := 4000000}) only [U_wear_Gap, d, islV_map (g := rowB) hil (rowB_len _), islV_map (g := rowB) hkl (rowB_len _), rowB, reduceIte, reduceCtorEq, Nat.reduceEqDiff, Nat.reduceAdd, Int.reduceLT, Int.reduceLE, Int.reduceNeg, Int.reduceEq, Nat.reduceLT, Nat.reduceSub, Nat.reduceMul, Nat.reduceBEq, Nat.reduceLeDiff, Int.reduceBEq, Int.reduceBNe, Int.reduceToNat, ne_eq, implies_true, bA]
    refine callI (worn_spec l[k]) ?_
    simp (config := {maxSteps := 4000000}) only [U_wear_Gap, d, islV_map (g := rowB) hil (rowB_len _), islV_map (g := rowB) hkl (rowB_len _), rowB, reduceIte, reduceCtorEq, Nat.reduceEqDiff, Nat.reduceAdd, Int.reduceLT, Int.reduceLE, Int.reduceNeg, Int.reduceEq, Nat.reduceLT, Nat.reduceSub, Nat.reduceMul, Nat.reduceBEq, Nat.reduceLeDiff, Int.reduceBEq, Int.reduceBNe, Int.reduceToNat, ne_eq, implies_true, bA]
    refine callI (worn_spec l[i]) ?_
    simp (config := {maxSteps := 4000000}) only [U_wear_Gap, wrapI (n := wornS l[k] - wornS l[i]) (by omega) (by omega), reduceIte, reduceCtorEq, Nat.reduceEqDiff, Nat.reduceAdd, Int.reduceLT, Int.reduceLE, Int.reduceNeg, Int.reduceEq, Nat.reduceLT, Nat.reduceSub, Nat.reduceMul, Nat.reduceBEq, Nat.reduceLeDiff, Int.reduceBEq, Int.reduceBNe, Int.reduceToNat, ne_eq, implies_true, bA]
theorem cold_spec (l : List Blk) (gap : Int) (hl : l.length ≤ 1000000) (hw : wornOk l) : PCall Try.prog 17 [.slc (l.map rowB), .int .i64 gap] (.int .i64 (coldS l gap)) := by
  refine pcall_go Try.func17 comp_wear_Cold ?_
  simp (config := {maxSteps := 4000000}) only [U_wear_Cold, reduceIte, reduceCtorEq, Nat.reduceEqDiff, Nat.reduceAdd, Int.reduceLT, Int.reduceLE, Int.reduceNeg, Int.reduceEq, Nat.reduceLT, Nat.reduceSub, Nat.reduceMul, Nat.reduceBEq, Nat.reduceLeDiff, Int.reduceBEq, Int.reduceBNe, Int.reduceToNat, ne_eq, implies_true, bA]
  refine callI (is_spec 2) ?_
  simp (config := {maxSteps := 4000000}) only [U_wear_Cold, reduceIte, reduceCtorEq, Nat.reduceEqDiff, Nat.reduceAdd, Int.reduceLT, Int.reduceLE, Int.reduceNeg, Int.reduceEq, Nat.reduceLT, Nat.reduceSub, Nat.reduceMul, Nat.reduceBEq, Nat.reduceLeDiff, Int.reduceBEq, Int.reduceBNe, Int.reduceToNat, ne_eq, implies_true, bA]
  refine callI (least_spec kWorn (isS 2) byWornS l _ _ _ hl rfl rfl (fun _ _ => byWorn_lt) (is1_spec 2) byWorn_spec _ (firstN_first _ _ _ _)) ?_
  have h1 := firstN_lt kWorn (isS 2) l l.length
  have h2 := firstN_lt kMost goodS l l.length
  by_cases h : firstN kWorn (isS 2) l l.length < 0
  · have d : decide (firstN kWorn (isS 2) l l.length < 0) = true := by simpa using h
    simp (config := {maxSteps := 4000000}) only [U_wear_Cold, d, reduceIte, reduceCtorEq, Nat.reduceEqDiff, Nat.reduceAdd, Int.reduceLT, Int.reduceLE, Int.reduceNeg, Int.reduceEq, Nat.reduceLT, Nat.reduceSub, Nat.reduceMul, Nat.reduceBEq, Nat.reduceLeDiff, Int.reduceBEq, Int.reduceBNe, Int.reduceToNat, ne_eq, implies_true, bA]
    simp [coldS, fullN, h]
  · have d : decide (firstN kWorn (isS 2) l l.length < 0) = false := by simpa using h
    have h' : ¬ firstN kMost goodS l l.length < 0 := by
      intro h'
      have hc := firstN_at (K := kWorn) (c := isS 2) (l := l) (b := l.length) (by omega)
      rcases firstN_first kMost goodS l l.length with ⟨_, g⟩ | ⟨k, g, _⟩
      · have := g (firstN kWorn (isS 2) l l.length).toNat (Nat.zero_le _) (by omega)
        simp only [isS, beq_iff_eq] at hc
        simp [goodS, hc] at this
      · omega
    have e3 : coldS l gap = if wornS (bl l (firstN kMost goodS l l.length).toNat) - wornS (bl l (firstN kWorn (isS 2) l l.length).toNat) ≤ (if gap < 0 then 0 else gap) then -1 else firstN kWorn (isS 2) l l.length := by
      simp [coldS, highN, fullN, h, h']
    rw [e3]
    obtain ⟨i, hi⟩ : ∃ i : Nat, firstN kWorn (isS 2) l l.length = i := ⟨(firstN kWorn (isS 2) l l.length).toNat, by omega⟩
    obtain ⟨k, hk⟩ : ∃ k : Nat, firstN kMost goodS l l.length = k := ⟨(firstN kMost goodS l l.length).toNat, by omega⟩
    rw [hi] at d h1 ⊢
    rw [hk] at h2 ⊢
    have hil : i < l.length := by omega
    have hkl : k < l.length := by omega
    have b1 := worn_le hw hil
    have b2 := worn_le hw hkl
    have b3 := wornS_nn (bl l i)
    have b4 := wornS_nn (bl l k)
    simp only [Int.toNat_natCast]
    rw [bl_at hil] at *
    rw [bl_at hkl] at *
    have hmx : max gap 0 = if gap < 0 then 0 else gap := by simp only [Int.max_def]; split <;> split <;> omega
    simp (config := {maxSteps := 4000000}) only [U_wear_Cold, d, reduceIte, reduceCtorEq, Nat.reduceEqDiff, Nat.reduceAdd, Int.reduceLT, Int.reduceLE, Int.reduceNeg, Int.reduceEq, Nat.reduceLT, Nat.reduceSub, Nat.reduceMul, Nat.reduceBEq, Nat.reduceLeDiff, Int.reduceBEq, Int.reduceBNe, Int.reduceToNat, ne_eq, implies_true, bA]
    refine callI (most_spec l hl) ?_
    rw [hk]
    simp (config := {maxSteps := 4000000}) only [U_wear_Cold, d, islV_map (g := rowB) hil (rowB_len _), islV_map (g := rowB) hkl (rowB_len _), rowB, reduceIte, reduceCtorEq, Nat.reduceEqDiff, Nat.reduceAdd, Int.reduceLT, Int.reduceLE, Int.reduceNeg, Int.reduceEq, Nat.reduceLT, Nat.reduceSub, Nat.reduceMul, Nat.reduceBEq, Nat.reduceLeDiff, Int.reduceBEq, Int.reduceBNe, Int.reduceToNat, ne_eq, implies_true, bA]
    refine callI (worn_spec l[k]) ?_
    simp (config := {maxSteps := 4000000}) only [U_wear_Cold, d, islV_map (g := rowB) hil (rowB_len _), islV_map (g := rowB) hkl (rowB_len _), rowB, reduceIte, reduceCtorEq, Nat.reduceEqDiff, Nat.reduceAdd, Int.reduceLT, Int.reduceLE, Int.reduceNeg, Int.reduceEq, Nat.reduceLT, Nat.reduceSub, Nat.reduceMul, Nat.reduceBEq, Nat.reduceLeDiff, Int.reduceBEq, Int.reduceBNe, Int.reduceToNat, ne_eq, implies_true, bA]
    refine callI (worn_spec l[i]) ?_
    by_cases h5 : wornS l[k] - wornS l[i] ≤ (if gap < 0 then 0 else gap)
    · have d5 : decide (wornS l[k] - wornS l[i] ≤ (if gap < 0 then 0 else gap)) = true := by simpa using h5
      simp (config := {maxSteps := 4000000}) only [U_wear_Cold, d, wrapI (n := wornS l[k] - wornS l[i]) (by omega) (by omega), hmx, d5, reduceIte, reduceCtorEq, Nat.reduceEqDiff, Nat.reduceAdd, Int.reduceLT, Int.reduceLE, Int.reduceNeg, Int.reduceEq, Nat.reduceLT, Nat.reduceSub, Nat.reduceMul, Nat.reduceBEq, Nat.reduceLeDiff, Int.reduceBEq, Int.reduceBNe, Int.reduceToNat, ne_eq, implies_true, bA]
      rw [if_pos (by rw [bl_at hil, bl_at hkl]; exact h5)]
    · have d5 : decide (wornS l[k] - wornS l[i] ≤ (if gap < 0 then 0 else gap)) = false := by simpa using h5
      simp (config := {maxSteps := 4000000}) only [U_wear_Cold, d, wrapI (n := wornS l[k] - wornS l[i]) (by omega) (by omega), hmx, d5, reduceIte, reduceCtorEq, Nat.reduceEqDiff, Nat.reduceAdd, Int.reduceLT, Int.reduceLE, Int.reduceNeg, Int.reduceEq, Nat.reduceLT, Nat.reduceSub, Nat.reduceMul, Nat.reduceBEq, Nat.reduceLeDiff, Int.reduceBEq, Int.reduceBNe, Int.reduceToNat, ne_eq, implies_true, bA]
      rw [if_neg (by rw [bl_at hil, bl_at hkl]; exact h5)]
theorem count_spec (l : List Blk) (s : Int) (hl : l.length ≤ 1000000) : PCall Try.prog 14 [.slc (l.map rowB), .int .i64 s] (.int .i64 (countN l s l.length)) := by
  refine pcall_go Try.func14 comp_wear_Count ?_
  simp (config := {maxSteps := 4000000}) only [U_wear_Count, reduceIte, reduceCtorEq, Nat.reduceEqDiff, Nat.reduceAdd, Int.reduceLT, Int.reduceLE, Int.reduceNeg, Int.reduceEq, Nat.reduceLT, Nat.reduceSub, Nat.reduceMul, Nat.reduceBEq, Nat.reduceLeDiff, Int.reduceBEq, Int.reduceBNe, Int.reduceToNat, ne_eq, implies_true, bA]
  refine loopF (fun i : Nat => ⟨ofL [(1, .int .i64 s), (5, .int .i64 (countN l s i)), (8, .slc (l.map rowB)), (9, .int .i64 l.length), (10, .int .i64 i)], []⟩) (fun i => i ≤ l.length) (fun i => l.length - i) 0 ?_ (Nat.zero_le _) ?_
  · simp (config := {maxSteps := 4000000}) only [U_wear_Count, reduceIte, reduceCtorEq, Nat.reduceEqDiff, Nat.reduceAdd, Int.reduceLT, Int.reduceLE, Int.reduceNeg, Int.reduceEq, Nat.reduceLT, Nat.reduceSub, Nat.reduceMul, Nat.reduceBEq, Nat.reduceLeDiff, Int.reduceBEq, Int.reduceBNe, Int.reduceToNat, ne_eq, implies_true, bA]
    all_goals rfl
  · intro i hi
    by_cases h : i < l.length
    · have d : decide ((i : Int) < (l.length : Int)) = true := by simpa using h
      have e1 : IntKind.i64.wrap ((i : Int) + 1) = ((i + 1 : Nat) : Int) := by rw [wrapI (by omega) (by omega)]; omega
      have hc := countN_le l s i
      have e2 : IntKind.i64.wrap ((countN l s i : Int) + 1) = ((countN l s i + 1 : Nat) : Int) := by rw [wrapI (by omega) (by omega)]; omega
      have hb := bl_at h
      by_cases hs : l[i].st = s
      · have d2 : (l[i].st == s) = true := by simpa using hs
        simp (config := {maxSteps := 4000000}) only [U_wear_Count, d, islV_map (g := rowB) h (rowB_len _), rowB, d2, e1, e2, reduceIte, reduceCtorEq, Nat.reduceEqDiff, Nat.reduceAdd, Int.reduceLT, Int.reduceLE, Int.reduceNeg, Int.reduceEq, Nat.reduceLT, Nat.reduceSub, Nat.reduceMul, Nat.reduceBEq, Nat.reduceLeDiff, Int.reduceBEq, Int.reduceBNe, Int.reduceToNat, ne_eq, implies_true, bA]
        exact ⟨i + 1, by simp only [countN, hb, hs, if_true], h, by omega⟩
      · have d2 : (l[i].st == s) = false := by simpa using hs
        simp (config := {maxSteps := 4000000}) only [U_wear_Count, d, islV_map (g := rowB) h (rowB_len _), rowB, d2, e1, reduceIte, reduceCtorEq, Nat.reduceEqDiff, Nat.reduceAdd, Int.reduceLT, Int.reduceLE, Int.reduceNeg, Int.reduceEq, Nat.reduceLT, Nat.reduceSub, Nat.reduceMul, Nat.reduceBEq, Nat.reduceLeDiff, Int.reduceBEq, Int.reduceBNe, Int.reduceToNat, ne_eq, implies_true, bA]
        exact ⟨i + 1, by simp only [countN, hb, hs, if_false], h, by omega⟩
    · have d : decide ((i : Int) < (l.length : Int)) = false := by simpa using h
      have : i = l.length := by omega
      subst this
      simp (config := {maxSteps := 4000000}) only [U_wear_Count, d, reduceIte, reduceCtorEq, Nat.reduceEqDiff, Nat.reduceAdd, Int.reduceLT, Int.reduceLE, Int.reduceNeg, Int.reduceEq, Nat.reduceLT, Nat.reduceSub, Nat.reduceMul, Nat.reduceBEq, Nat.reduceLeDiff, Int.reduceBEq, Int.reduceBNe, Int.reduceToNat, ne_eq, implies_true, bA]
end Go.Proofs.Ytfdehjkpglkheaa.Aw
