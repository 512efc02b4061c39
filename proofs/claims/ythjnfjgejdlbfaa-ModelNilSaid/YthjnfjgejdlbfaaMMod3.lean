/-
  Which sector has a number, behind a laying and behind a cut.
-/
import Derived.Test.YthjnfjgejdlbfaaPModC
set_option linter.unusedSimpArgs false
set_option linter.unusedVariables false
namespace Go.Proofs.Ythjnfjgejdlbfaa.Aw
open Go.RowKit

theorem getG_app {k : Int} : ∀ (l m : List Sc), getG k (l ++ m) = (getG k l).or (getG k m)
  | [], m => by simp [getG]
  | a :: r, m => by
    simp only [List.cons_append, getG]
    split
    · rfl
    · exact getG_app r m
theorem getG_filter {k : Int} (p : Int → Bool) : ∀ (S : List Sc), getG k (S.filter fun x => p x.at_) = if p k = true then getG k S else none
  | [] => by simp [getG]
  | a :: r => by
    rw [List.filter_cons]
    by_cases hk : a.at_ = k
    · by_cases hp : p k = true
      · rw [if_pos (by rw [hk]; exact hp), if_pos hp]; simp only [getG, key_sc, hk, if_true]
      · rw [if_neg (by rw [hk]; exact hp), getG_filter p r, if_neg hp, if_neg hp]
    · by_cases hpa : p a.at_ = true
      · rw [if_pos hpa]; simp only [getG, key_sc, if_neg hk]; exact getG_filter p r
      · rw [if_neg hpa]; simp only [getG, key_sc, if_neg hk]; exact getG_filter p r
theorem getG_scs {k : Int} : ∀ (D : List (List UInt8)) (fr : Int), getG k (scsFrom fr D) = if fr ≤ k then (D[(k - fr).toNat]?).map fun d => ⟨k, d⟩ else none
  | [], fr => by simp [scsFrom, getG]
  | d :: r, fr => by
    simp only [scsFrom, getG, key_sc]
    by_cases c : fr = k
    · subst c; simp
    · rw [if_neg c, getG_scs r (fr + 1)]
      by_cases c2 : fr ≤ k
      · rw [if_pos (by omega), if_pos c2, show (k - fr).toNat = (k - (fr + 1)).toNat + 1 by omega, List.getElem?_cons_succ]
      · rw [if_neg (by omega), if_neg c2]
theorem getG_lay {S : List Sc} {fr k : Int} {D : List (List UInt8)} : getG k (layS S fr D) = if fr ≤ k ∧ k < fr + (D.length : Int) then (D[(k - fr).toNat]?).map fun d => ⟨k, d⟩ else getG k S := by
  rw [layS, getG_app, getG_app, getG_filter (fun a => decide (a < fr)), getG_filter (fun a => decide (fr + (D.length : Int) ≤ a)), getG_scs]
  by_cases c : fr ≤ k
  · rw [if_neg (by simp; omega), Option.none_or, if_pos c]
    by_cases c2 : k < fr + (D.length : Int)
    · rw [if_neg (show ¬ (decide (fr + (D.length : Int) ≤ k) = true) by simp; omega), if_pos ⟨c, c2⟩]; simp
    · rw [if_pos (by simp; omega), if_neg (by omega), List.getElem?_eq_none (by omega)]; rfl
  · rw [if_pos (by simp; omega), if_neg c, if_neg (show ¬ (decide (fr + (D.length : Int) ≤ k) = true) by simp; omega), if_neg (by omega)]; simp
theorem lay_step {S : List Sc} {fr k : Int} {D : List (List UInt8)} {i : Nat} (hi : i < D.length) : getG k (layS S fr (D.take (i + 1))) = if k = fr + (i : Int) then some ⟨k, D[i]⟩ else getG k (layS S fr (D.take i)) := by
  rw [getG_lay, getG_lay]
  have l1 : (D.take (i + 1)).length = i + 1 := by simp; omega
  have l2 : (D.take i).length = i := by simp; omega
  rw [l1, l2]
  by_cases c : k = fr + (i : Int)
  · subst c
    rw [if_pos ⟨by omega, by omega⟩, if_pos rfl, show (fr + (i : Int) - fr).toNat = i by omega]
    simp [List.getElem?_take, hi]
  · rw [if_neg c]
    by_cases c1 : fr ≤ k ∧ k < fr + (i : Int)
    · rw [if_pos (by omega), if_pos c1, List.getElem?_take_of_lt (by omega), List.getElem?_take_of_lt (by omega)]
    · rw [if_neg (by omega), if_neg c1]
theorem lay_nil {S : List Sc} {fr k : Int} : getG k (layS S fr []) = getG k S := by rw [getG_lay, if_neg (by simp)]
theorem SecRel.cut {es : Ents} {S : List Sc} (h : SecRel es S) {hole : Int → Bool} {fr to_ : Int} (hh : ∀ k, (getG k S).isSome = true → (!hole k) = (decide (k < fr) || decide (to_ ≤ k))) : SecRel (es.filter fun e => !hole e.2.1) (cutS S fr to_) := by
  intro k
  rw [mGet_filter (fun k => !hole k), cutS, getG_filter (fun a => decide (a < fr) || decide (to_ ≤ a)), h k]
  cases hg : getG k S with
  | none => simp
  | some x =>
    rw [← hh k (by rw [hg]; rfl)]
    by_cases c : hole k = true
    · simp [c]
    · simp [c]
theorem SecRel.put {es : Ents} {S S' : List Sc} {k0 : Int} {ck : Nat} {d : List UInt8} (h : SecRel es S) (hs : ∀ k, getG k S' = if k = k0 then some ⟨k, d⟩ else getG k S) : SecRel (mPutE ck k0 (.str d) es) S' := by
  intro k
  rw [mGet_put, hs k]
  by_cases c : k = k0
  · rw [if_pos c, if_pos c]; rfl
  · rw [if_neg c, if_neg c]; exact h k
theorem SecRel.re {es : Ents} {S S' : List Sc} (h : SecRel es S) (hs : ∀ k, getG k S' = getG k S) : SecRel es S' := fun k => by rw [hs k]; exact h k
theorem SecRel.keys {ck : Nat} {es : Ents} {S : List Sc} (h : SecRel es S) (ok : MapOk ck es) (hs : SortedG S) : (es.map (·.2.1)).Perm (S.map key) := keys_perm ok hs fun k => by rw [h k]; cases getG k S <;> rfl
end Go.Proofs.Ythjnfjgejdlbfaa.Aw
