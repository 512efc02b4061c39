/-
  What a volume becomes keeps what may be. Plain Lean.
-/
import Derived.Test.YthjnfjgejdlbfaaMMod
set_option linter.unusedSimpArgs false
namespace Go.Proofs.Ythjnfjgejdlbfaa.Aw

theorem sorted_filter {S : List Sc} (h : SortedG S) (p : Sc → Bool) : SortedG (S.filter p) := List.Pairwise.sublist List.filter_sublist h
theorem cutS_len (S : List Sc) (fr to_ : Int) : (cutS S fr to_).length ≤ S.length := List.length_filter_le _ _
theorem SecOk.filter {size : Int} {S : List Sc} (h : SecOk size S) (p : Sc → Bool) : SecOk size (S.filter p) :=
  ⟨sorted_filter h.srt p, fun x hx => h.rng x (List.mem_filter.1 hx).1, fun x hx => h.len x (List.mem_filter.1 hx).1⟩
theorem SecOk.shrink {size size' : Int} {S : List Sc} (h : SecOk size S) (hs : size ≤ 16777216) : SecOk size' (cutS S size' 16777216) :=
  ⟨sorted_filter h.srt _, fun x hx => by
    obtain ⟨h1, h2⟩ := List.mem_filter.1 hx
    have := h.rng x h1
    simp only [Bool.or_eq_true, decide_eq_true_eq] at h2
    omega, fun x hx => h.len x (List.mem_filter.1 hx).1⟩
theorem scsFrom_len (fr : Int) (d : List (List UInt8)) : (scsFrom fr d).length = d.length := by
  induction d generalizing fr with
  | nil => rfl
  | cons a r ih => simp [scsFrom, ih]
theorem mem_scsFrom {x : Sc} : ∀ {d : List (List UInt8)} {fr : Int}, x ∈ scsFrom fr d → fr ≤ x.at_ ∧ x.at_ < fr + (d.length : Int) ∧ x.dat ∈ d
  | [], _, h => by cases h
  | a :: r, fr, h => by
    simp only [scsFrom, List.mem_cons] at h
    simp only [List.length_cons, List.mem_cons]
    rcases h with rfl | h
    · exact ⟨Int.le_refl _, by show fr < _; omega, .inl rfl⟩
    · obtain ⟨h1, h2, h3⟩ := mem_scsFrom h
      exact ⟨by omega, by omega, .inr h3⟩
theorem scsFrom_sorted : ∀ (d : List (List UInt8)) (fr : Int), SortedG (scsFrom fr d)
  | [], _ => List.Pairwise.nil
  | a :: r, fr => List.pairwise_cons.2 ⟨fun y hy => by have := (mem_scsFrom hy).1; simp only [key_sc]; omega, scsFrom_sorted r (fr + 1)⟩
theorem scsFrom_get (fr : Int) : ∀ {d : List (List UInt8)} {i : Nat}, (scsFrom fr d)[i]? = (d[i]?).map fun x => ⟨fr + (i : Int), x⟩ := by
  intro d i
  induction d generalizing fr i with
  | nil => simp [scsFrom]
  | cons a r ih =>
    cases i with
    | zero => simp [scsFrom]
    | succ i =>
      simp only [scsFrom, List.getElem?_cons_succ, ih]
      cases r[i]? with
      | none => rfl
      | some v => simp only [Option.map_some, Option.some.injEq, Sc.mk.injEq, and_true]; omega
theorem filter_parts : ∀ (S : List Sc) {fr to_ : Int}, fr ≤ to_ → ((S.filter fun x => decide (x.at_ < fr)).length + (S.filter fun x => decide (to_ ≤ x.at_)).length) = (cutS S fr to_).length
  | [], _, _, _ => rfl
  | a :: r, fr, to_, h => by
    have ih := filter_parts r h
    simp only [cutS] at ih ⊢
    by_cases h1 : a.at_ < fr
    · have h2 : ¬ to_ ≤ a.at_ := by omega
      simp only [List.filter_cons, h1, h2, decide_true, decide_false, Bool.true_or, if_true, Bool.false_eq_true, if_false, List.length_cons]
      omega
    · by_cases h2 : to_ ≤ a.at_
      · simp only [List.filter_cons, h1, h2, decide_true, decide_false, Bool.false_or, if_true, Bool.false_eq_true, if_false, List.length_cons]
        omega
      · simp only [List.filter_cons, h1, h2, decide_false, Bool.or_self, Bool.false_eq_true, if_false]
        exact ih
theorem layS_len (S : List Sc) (fr : Int) (d : List (List UInt8)) : ((layS S fr d).length : Int) = (S.length : Int) - inS S fr (fr + (d.length : Int)) + (d.length : Int) := by
  have := filter_parts S (fr := fr) (to_ := fr + (d.length : Int)) (by omega)
  simp only [layS, List.length_append, scsFrom_len, inS]
  omega
theorem SecOk.lay {size : Int} {S : List Sc} (h : SecOk size S) {fr : Int} {d : List (List UInt8)} (h0 : 0 ≤ fr) (h1 : fr + (d.length : Int) ≤ size) (hd : ∀ x ∈ d, x.length = 32) : SecOk size (layS S fr d) := by
  have hm : ∀ {x}, x ∈ layS S fr d → x ∈ S ∨ x ∈ scsFrom fr d := fun {x} hx => by
    rcases List.mem_append.1 hx with hx | hx
    · exact .inl (List.mem_filter.1 hx).1
    · rcases List.mem_append.1 hx with hx | hx
      · exact .inr hx
      · exact .inl (List.mem_filter.1 hx).1
  refine ⟨?_, fun x hx => ?_, fun x hx => ?_⟩
  · refine List.pairwise_append.2 ⟨sorted_filter h.srt _, List.pairwise_append.2 ⟨scsFrom_sorted d fr, sorted_filter h.srt _, fun x hx y hy => ?_⟩, fun x hx y hy => ?_⟩
    · have h2 := mem_scsFrom hx
      have h3 := (List.mem_filter.1 hy).2
      simp only [decide_eq_true_eq] at h3
      simp only [key_sc]; omega
    · have h3 := (List.mem_filter.1 hx).2
      simp only [decide_eq_true_eq] at h3
      rcases List.mem_append.1 hy with hy | hy
      · have h2 := mem_scsFrom hy
        simp only [key_sc]; omega
      · have h2 := (List.mem_filter.1 hy).2
        simp only [decide_eq_true_eq] at h2
        simp only [key_sc]; omega
  · rcases hm hx with h2 | h2
    · exact h.rng x h2
    · have := mem_scsFrom h2; omega
  · rcases hm hx with h2 | h2
    · exact h.len x h2
    · exact hd _ (mem_scsFrom h2).2.2

theorem VolOk.resize {cap : Int} {L : List Spc} (h : VolOk cap L) (id size : Int) : VolOk cap (resizeV L id size).1 := by
  unfold resizeV
  split
  · exact h
  · cases hg : getG id L with
    | none => exact h
    | some s =>
      obtain ⟨h1, h2⟩ := getG_some hg
      have hz := h.szs s h1
      have hl := cutS_len s.S size 16777216
      have hu := h.use
      exact h.put h1 h2.symm (by simp only; omega) ((h.sec s h1).shrink (by omega)) (by simp only; omega)
theorem VolOk.delete {cap : Int} {L : List Spc} (h : VolOk cap L) (id : Int) : VolOk cap (deleteV L id).1 := by
  unfold deleteV
  split
  · exact h
  · exact h.del id
theorem within_ok {L : List Spc} {id fr n : Int} {may : Bool} (h : withinV L id fr n may = 0) : ∃ s, getG id L = some s ∧ may = true ∧ 1 ≤ n ∧ 0 ≤ fr ∧ fr + n ≤ s.size := by
  unfold withinV at h
  cases hg : getG id L with
  | none => rw [hg] at h; simp at h
  | some s =>
    rw [hg] at h
    simp only at h
    split at h
    · simp at h
    · rename_i c
      split at h
      · simp at h
      · rename_i c2
        refine ⟨s, rfl, ?_, by omega, by omega, by omega⟩
        cases may with
        | true => rfl
        | false => simp at c
theorem VolOk.lay {cap : Int} {L : List Spc} (h : VolOk cap L) {id fr : Int} {d : List (List UInt8)} {s : Spc} (hg : getG id L = some s) (h0 : 0 ≤ fr) (h1 : fr + (d.length : Int) ≤ s.size) (hd : ∀ x ∈ d, x.length = 32) : VolOk cap (layV cap L id fr d).1 := by
  unfold layV
  rw [hg]
  simp only
  split
  · exact h
  · obtain ⟨h2, h3⟩ := getG_some hg
    have hl := layS_len s.S fr d
    exact h.put h2 h3.symm (h.szs s h2) ((h.sec s h2).lay h0 h1 hd) (by simp only; omega)
theorem pieces_32 : ∀ (n : Nat) (d : List UInt8), 32 * n ≤ d.length → ∀ x ∈ pieces d n, x.length = 32
  | 0, _, _, x, hx => by cases hx
  | n + 1, d, h, x, hx => by
    rcases List.mem_cons.1 hx with rfl | hx
    · simp; omega
    · exact pieces_32 n (d.drop 32) (by simp; omega) x hx
theorem VolOk.write {cap : Int} {L : List Spc} (h : VolOk cap L) (id fr : Int) (d : List UInt8) : VolOk cap (writeV cap L id fr d).1 := by
  unfold writeV
  simp only
  split
  · exact h
  · rename_i c
    obtain ⟨s, hg, hm, h1, h2, h3⟩ := within_ok (Decidable.not_not.1 c)
    exact h.lay hg h2 (by rw [pieces_len]; omega) (pieces_32 _ d (by omega))
theorem VolOk.zero {cap : Int} {L : List Spc} (h : VolOk cap L) (id fr n : Int) : VolOk cap (zeroV cap L id fr n).1 := by
  unfold zeroV
  simp only
  split
  · exact h
  · rename_i c
    obtain ⟨s, hg, hm, h1, h2, h3⟩ := within_ok (Decidable.not_not.1 c)
    exact h.lay hg h2 (by rw [List.length_replicate]; omega) fun x hx => by rw [(List.mem_replicate.1 hx).2]; rfl
theorem VolOk.trim {cap : Int} {L : List Spc} (h : VolOk cap L) (id fr n : Int) : VolOk cap (trimV L id fr n).1 := by
  unfold trimV
  simp only
  split
  · exact h
  · cases hg : getG id L with
    | none => exact h
    | some s =>
      obtain ⟨h1, h2⟩ := getG_some hg
      have hl := cutS_len s.S fr (fr + n)
      have hu := h.use
      exact h.put h1 h2.symm (h.szs s h1) ((h.sec s h1).filter _) (by simp only; omega)
end Go.Proofs.Ythjnfjgejdlbfaa.Aw
