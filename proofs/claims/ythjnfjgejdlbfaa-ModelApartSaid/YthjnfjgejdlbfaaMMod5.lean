/-
  Counting sectors one by one. Plain Lean.
-/
import Derived.Test.YthjnfjgejdlbfaaL17
set_option linter.unusedSimpArgs false
set_option linter.unusedVariables false
namespace Go.Proofs.Ythjnfjgejdlbfaa.Aw
open Go.RowKit

def onJ (S : List Sc) (j : Nat) : Bool := (getG (j : Int) S).isSome
def onS (S : List Sc) : List Bool := (List.range 40).map (onJ S)
theorem onS_len (S : List Sc) : (onS S).length = 40 := by simp [onS]
theorem onS_get {S : List Sc} {j : Nat} (h : j < 40) : (onS S)[j]? = some (onJ S j) := by simp [onS, h]
theorem keys_nodup {S : List Sc} (h : SortedG S) : (S.map key).Nodup := by
  rw [List.nodup_iff_pairwise_ne, List.pairwise_map]
  exact h.imp fun hlt e => by omega
theorem on_perm {S : List Sc} (h : SecOk 40 S) : (S.map key).Perm (((List.range 40).filter (onJ S)).map fun j : Nat => (j : Int)) := by
  rw [List.perm_ext_iff_of_nodup (keys_nodup h.srt) (by
    rw [List.nodup_iff_pairwise_ne, List.pairwise_map]
    refine (List.nodup_iff_pairwise_ne.1 (List.Pairwise.filter _ List.nodup_range)).imp fun hne e => hne (by omega))]
  intro k
  rw [mem_keyG, List.mem_map]
  constructor
  · intro hk
    cases hg : getG k S with
    | none => rw [hg] at hk; cases hk
    | some x =>
      obtain ⟨hx, hxk⟩ := getG_some hg
      have := h.rng x hx
      rw [key_sc] at hxk
      refine ⟨k.toNat, List.mem_filter.2 ⟨List.mem_range.2 (by omega), ?_⟩, by omega⟩
      rw [onJ, show ((k.toNat : Nat) : Int) = k by omega, hg]; rfl
  · rintro ⟨j, hj, rfl⟩
    exact (List.mem_filter.1 hj).2
theorem on_count {S : List Sc} (h : SecOk 40 S) : S.length = (onS S).countP id := by
  have := (on_perm h).length_eq
  simp only [List.length_map] at this
  rw [this, onS, List.countP_map, List.countP_eq_length_filter]
  rfl
theorem on_in {S : List Sc} (h : SecOk 40 S) {f n : Nat} (hf : f + n ≤ 40) : inS S (f : Int) ((f : Int) + (n : Int)) = ((List.range n).countP fun k => onJ S (f + k) : Int) := by
  rw [inS_count, (on_perm h).countP_eq, List.countP_map, List.countP_filter]
  congr 1
  have e : List.range 40 = List.range' 0 f ++ (List.range' f n ++ List.range' (f + n) (40 - (f + n))) := by
    rw [List.range_eq_range', show 40 = f + (n + (40 - (f + n))) by omega, ← List.range'_append_1, ← List.range'_append_1, Nat.zero_add]
    simp only [show f + (n + (40 - (f + n))) - (f + n) = 40 - (f + n) by omega]
  rw [e, List.countP_append, List.countP_append, List.range'_eq_map_range (s := f), List.countP_map]
  have a1 : (List.range' 0 f).countP (fun a => ((inR (f : Int) (n : Int)) ∘ fun j : Nat => (j : Int)) a && onJ S a) = 0 := by
    rw [List.countP_eq_zero]
    intro j hj
    rw [List.mem_range'_1] at hj
    have : ¬ ((f : Int) ≤ (j : Int)) := by omega
    simp [inR, this]
  have a2 : (List.range' (f + n) (40 - (f + n))).countP (fun a => ((inR (f : Int) (n : Int)) ∘ fun j : Nat => (j : Int)) a && onJ S a) = 0 := by
    rw [List.countP_eq_zero]
    intro j hj
    rw [List.mem_range'_1] at hj
    have : ¬ ((j : Int) - (f : Int) < (n : Int)) := by omega
    simp [inR, this]
  rw [a1, a2, Nat.zero_add, Nat.add_zero]
  apply List.countP_congr
  intro k hk
  have hk2 := List.mem_range.1 hk
  have b1 : (f : Int) ≤ ((f + k : Nat) : Int) := by omega
  have b2 : ((f + k : Nat) : Int) - (f : Int) < (n : Int) := by omega
  simp only [Function.comp, inR, b1, b2, decide_true, Bool.true_and]
theorem on_more {S : List Sc} (h : SecOk 40 S) {f n : Nat} (hf : f + n ≤ 40) : ((List.range n).countP fun k => !onJ S (f + k) : Int) = (n : Int) - inS S (f : Int) ((f : Int) + (n : Int)) := by
  rw [on_in h hf]
  have := List.length_eq_countP_add_countP (p := fun k => onJ S (f + k)) (l := List.range n)
  rw [List.length_range] at this
  have e : (List.range n).countP (fun a => !onJ S (f + a)) = (List.range n).countP fun a => decide ¬ onJ S (f + a) = true := by
    apply List.countP_congr
    intro k _
    cases onJ S (f + k) <;> simp
  rw [e]
  omega

def runR (on : List Bool) (f : Nat) (v : Bool) : Nat → List Bool
  | 0 => on
  | k + 1 => (runR on f v k).set (f + k) v
theorem runR_len (on : List Bool) (f : Nat) (v : Bool) : ∀ k, (runR on f v k).length = on.length
  | 0 => rfl
  | k + 1 => by rw [runR, List.length_set, runR_len on f v k]
theorem runR_get (on : List Bool) (f : Nat) (v : Bool) (j : Nat) (hj : j < on.length) : ∀ k, (runR on f v k)[j]? = if f ≤ j ∧ j < f + k then some v else on[j]?
  | 0 => by rw [if_neg (by omega)]; rfl
  | k + 1 => by
    rw [runR, List.getElem?_set, runR_len]
    by_cases c : f + k = j
    · subst c
      rw [if_pos rfl, if_pos hj, if_pos ⟨by omega, by omega⟩]
    · rw [if_neg c, runR_get on f v j hj k]
      by_cases c2 : f ≤ j ∧ j < f + k
      · rw [if_pos c2, if_pos (by omega)]
      · rw [if_neg c2, if_neg (by omega)]
theorem runR_lay {S : List Sc} {f n : Nat} {D : List (List UInt8)} (hD : D.length = n) (hf : f + n ≤ 40) : runR (onS S) f true n = onS (layS S (f : Int) D) := by
  apply List.ext_getElem?
  intro j
  by_cases hj : j < 40
  · rw [runR_get _ _ _ _ (by rw [onS_len]; exact hj), onS_get hj, onS_get hj, onJ, onJ, getG_lay, hD]
    by_cases c : f ≤ j ∧ j < f + n
    · rw [if_pos c, if_pos ⟨by omega, by omega⟩, List.getElem?_eq_getElem (by omega)]; rfl
    · rw [if_neg c, if_neg (by omega)]
  · rw [List.getElem?_eq_none (by rw [runR_len, onS_len]; omega), List.getElem?_eq_none (by rw [onS_len]; omega)]
theorem runR_cut {S : List Sc} {f n : Nat} (hf : f + n ≤ 40) : runR (onS S) f false n = onS (cutS S (f : Int) ((f : Int) + (n : Int))) := by
  apply List.ext_getElem?
  intro j
  by_cases hj : j < 40
  · rw [runR_get _ _ _ _ (by rw [onS_len]; exact hj), onS_get hj, onS_get hj, onJ, onJ, cutS, getG_filter (fun a => decide (a < (f : Int)) || decide ((f : Int) + (n : Int) ≤ a))]
    by_cases c : f ≤ j ∧ j < f + n
    · have a1 : ¬ ((j : Int) < (f : Int)) := by omega
      have a2 : ¬ ((f : Int) + (n : Int) ≤ (j : Int)) := by omega
      rw [if_pos c, if_neg (by simp [a1, a2])]; rfl
    · rw [if_neg c]
      by_cases c2 : j < f
      · rw [if_pos (by simp; omega)]
      · rw [if_pos (by simp; omega)]
  · rw [List.getElem?_eq_none (by rw [runR_len, onS_len]; omega), List.getElem?_eq_none (by rw [onS_len]; omega)]
theorem cnt_set {l : List Bool} {j : Nat} {v : Bool} (h : j < l.length) : ((l.set j v).countP id : Int) = (l.countP id : Int) - (if l[j] = true then 1 else 0) + (if v = true then 1 else 0) := by
  have h1 : ∀ (l : List Bool) (j : Nat) (h : j < l.length), (l.set j v).countP id + (if l[j] = true then 1 else 0) = l.countP id + (if v = true then 1 else 0) := by
    intro l
    induction l with
    | nil => intro j h; simp at h
    | cons a r ih =>
      intro j h
      cases j with
      | zero => simp only [List.set_cons_zero, List.countP_cons, List.getElem_cons_zero, id]; omega
      | succ j =>
        have := ih j (by simpa using h)
        simp only [List.set_cons_succ, List.countP_cons, List.getElem_cons_succ, id] at this ⊢
        omega
  have := h1 l j h
  split <;> split <;> simp_all <;> omega
def dataC (q : Rq) : List (List UInt8) := if q.op = 4 then pieces q.d (wN q).toNat else List.replicate (wN q).toNat blankB
def oneV (S : List Sc) : List Spc := [⟨1, 40, S⟩]
theorem counts_do {S : List Sc} (q : Rq) (hid : q.id = 1) (hop : q.op = 4 ∨ q.op = 5 ∨ q.op = 6) (hf : 0 ≤ q.fr) (hr : wN q ≤ 40 - q.fr) (hw : 1 ≤ wN q) :
    doV 30 (oneV S) q = if wB q = false then (oneV S, ⟨1, [], 0, 0⟩) else if q.op = 6 then (oneV (cutS S q.fr (q.fr + wN q)), ⟨0, [], 0, 0⟩) else
      if 30 - (S.length : Int) < ((dataC q).length : Int) - inS S q.fr (q.fr + ((dataC q).length : Int)) then (oneV S, ⟨71, [], 0, 0⟩)
      else (oneV (layS S q.fr (dataC q)), ⟨0, [], 0, 0⟩) := by
  have hg : getG q.id (oneV S) = some ⟨1, 40, S⟩ := by rw [hid]; rfl
  have e : doV 30 (oneV S) q = ((secV 30 (oneV S) ⟨1, 40, S⟩ q).1, ⟨(secV 30 (oneV S) ⟨1, 40, S⟩ q).2.1, (secV 30 (oneV S) ⟨1, 40, S⟩ q).2.2, 0, 0⟩) := by
    unfold doV
    rw [if_neg (by omega), if_neg (by omega), if_neg (by omega), if_neg (by omega), hg]
    simp only
    rw [if_neg (by omega), if_neg (by omega), if_neg (by omega)]
  rw [e]
  unfold secV
  by_cases hB : wB q = false
  · rw [if_pos hB, if_pos hB]
  · rw [if_neg hB, if_neg hB, if_neg (by simp only; omega), if_neg (by omega)]
    by_cases c6 : q.op = 6
    · rw [if_pos c6, if_pos c6]; rfl
    · rw [if_neg c6, if_neg c6]
      change ((layV 30 (oneV S) 1 q.fr (dataC q)).1, (⟨(layV 30 (oneV S) 1 q.fr (dataC q)).2, [], 0, 0⟩ : Ans)) = _
      have hg1 : getG 1 (oneV S) = some ⟨1, 40, S⟩ := rfl
      have hu : usedV (oneV S) = (S.length : Int) := by simp [oneV, usedV]
      unfold layV
      rw [hg1]
      simp only
      rw [hu]
      split
      · rfl
      · rfl
end Go.Proofs.Ythjnfjgejdlbfaa.Aw
