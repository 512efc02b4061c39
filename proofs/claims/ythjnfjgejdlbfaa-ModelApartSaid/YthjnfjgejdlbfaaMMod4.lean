/-
  What is asked twice; what is asked of another namespace. Plain Lean.
-/
import Derived.Test.YthjnfjgejdlbfaaPSame
set_option linter.unusedSimpArgs false
set_option linter.unusedVariables false
namespace Go.Proofs.Ythjnfjgejdlbfaa.Aw
open Go.RowKit

theorem sorted_ext {α : Type} [Key α] {S1 S2 : List α} (h1 : SortedG S1) (h2 : SortedG S2) (h : ∀ k, getG k S1 = getG k S2) : S1 = S2 := by
  have a := sorted_sub h1 h2 fun x hx => by
    have := getG_mem h1 hx
    rw [h] at this
    exact (getG_some this).1
  have b := sorted_sub h2 h1 fun x hx => by
    have := getG_mem h2 hx
    rw [← h] at this
    exact (getG_some this).1
  exact a.2 (Nat.le_antisymm a.1 b.1)
theorem delG_insG {α : Type} [Key α] {s : α} : ∀ {X : List α}, (∀ x ∈ X, key x ≠ key s) → delG (key s) (insG s X) = X
  | [], _ => by simp [insG, delG]
  | a :: r, h => by
    simp only [insG]
    split
    · simp only [delG, if_true]
      rw [if_neg (h a (by simp)), delG_id fun x hx => h x (List.mem_cons_of_mem _ hx)]
    · simp only [delG]
      rw [if_neg (h a (by simp)), delG_insG fun x hx => h x (List.mem_cons_of_mem _ hx)]
theorem putV_put (A : List Spc) {s s' : Spc} (hid : s'.id = s.id) : putV (putV A s) s' = putV A s' := by
  have hn : ∀ x ∈ delG s.id A, key x ≠ key s := fun x hx => (mem_delG.1 hx).2
  have h := delG_insG hn
  simp only [key_spc] at h
  rw [putV, putV, putV, hid, h]
theorem getG_putV {A : List Spc} {s : Spc} : getG s.id (putV A s) = some s := by
  have hn : ∀ x ∈ delG s.id A, key x ≠ key s := fun x hx => (mem_delG.1 hx).2
  exact getG_insG_self hn
theorem getG_putV_ne {A : List Spc} {s : Spc} {id : Int} (h : id ≠ s.id) : getG id (putV A s) = getG id A := by
  rw [putV, getG_insG (by rw [key_spc]; exact h), getG_delG h]
theorem cutS_cutS (S : List Sc) (fr to_ : Int) : cutS (cutS S fr to_) fr to_ = cutS S fr to_ := by
  unfold cutS
  rw [List.filter_filter]
  apply List.filter_congr
  intro x _
  rw [Bool.and_self]
theorem layS_layS {size : Int} {S : List Sc} (h : SecOk size S) {fr : Int} {D : List (List UInt8)} (h0 : 0 ≤ fr) (h1 : fr + (D.length : Int) ≤ size) (hD : ∀ x ∈ D, x.length = 32) : layS (layS S fr D) fr D = layS S fr D := by
  have s1 := h.lay h0 h1 hD
  have s2 := s1.lay h0 h1 hD
  refine sorted_ext s2.srt s1.srt fun k => ?_
  rw [getG_lay]
  split
  · rename_i c; rw [getG_lay, if_pos c]
  · rfl
theorem inS_lay {size : Int} {S : List Sc} (h : SecOk size S) {fr : Int} {D : List (List UInt8)} (h0 : 0 ≤ fr) (h1 : fr + (D.length : Int) ≤ size) (hD : ∀ x ∈ D, x.length = 32) : inS (layS S fr D) fr (fr + (D.length : Int)) = (D.length : Int) := by
  have e1 := layS_len (layS S fr D) fr D
  rw [layS_layS h h0 h1 hD] at e1
  omega

/-- Bytes that are laid. -/
def dataQ (q : Rq) : List (List UInt8) := if q.op = 4 then pieces q.d (wN q).toNat else List.replicate (wN q).toNat blankB
theorem dataQ_len (q : Rq) : (dataQ q).length = (wN q).toNat := by unfold dataQ; split <;> simp [pieces_len]
theorem dataQ_32 {q : Rq} (hB : wB q = true) : ∀ x ∈ dataQ q, x.length = 32 := by
  unfold dataQ
  split
  · rename_i c
    simp only [wB, wN, c, if_true, Bool.and_eq_true, decide_eq_true_eq] at hB
    refine pieces_32 _ _ ?_
    simp only [wN, c, if_true]
    omega
  · intro x hx; rw [(List.mem_replicate.1 hx).2]; rfl
theorem wB_pos {q : Rq} (hB : wB q = true) : 1 ≤ wN q := by
  simp only [wB, Bool.and_eq_true, decide_eq_true_eq] at hB
  exact hB.1
theorem sec_twice {cap : Int} {A : List Spc} (h : VolOk cap A) {s : Spc} (q : Rq) (hg : getG s.id A = some s) :
    ∃ s', s'.id = s.id ∧ getG s.id (secV cap A s q).1 = some s' ∧ (secV cap (secV cap A s q).1 s' q).1 = (secV cap A s q).1 ∧ (secV cap (secV cap A s q).1 s' q).2 = (secV cap A s q).2 := by
  by_cases hB : wB q = false
  · have e : secV cap A s q = (A, 1, []) := if_pos hB
    rw [e]
    exact ⟨s, rfl, hg, by rw [e], by rw [e]⟩
  · have hB' : wB q = true := by simpa using hB
    have hw := wB_pos hB'
    by_cases c1 : q.fr < 0 ∨ s.size < q.fr ∨ s.size - q.fr < wN q
    · have e : secV cap A s q = (A, 82, []) := by unfold secV; rw [if_neg hB, if_pos c1]
      rw [e]
      exact ⟨s, rfl, hg, by rw [e], by rw [e]⟩
    · by_cases c7 : q.op = 7
      · have e : secV cap A s q = (A, 0, readS s.S q.fr (wN q).toNat) := by unfold secV; rw [if_neg hB, if_neg c1, if_pos c7]
        rw [e]
        exact ⟨s, rfl, hg, by rw [e], by rw [e]⟩
      · by_cases c6 : q.op = 6
        · have e : ∀ A s, s.size = s.size → secV cap A s q = if q.fr < 0 ∨ s.size < q.fr ∨ s.size - q.fr < wN q then (A, 82, []) else (putV A ⟨s.id, s.size, cutS s.S q.fr (q.fr + wN q)⟩, 0, []) := by
            intro A s _
            unfold secV
            rw [if_neg hB]
            by_cases hr : q.fr < 0 ∨ s.size < q.fr ∨ s.size - q.fr < wN q
            · rw [if_pos hr, if_pos hr]
            · rw [if_neg hr, if_neg hr, if_neg c7, if_pos c6]
          rw [e A s rfl, if_neg c1]
          refine ⟨⟨s.id, s.size, cutS s.S q.fr (q.fr + wN q)⟩, rfl, getG_putV (s := ⟨s.id, s.size, cutS s.S q.fr (q.fr + wN q)⟩), ?_, ?_⟩
          · rw [e _ _ rfl, if_neg c1]
            simp only
            rw [cutS_cutS, putV_put _ rfl]
          · rw [e _ _ rfl, if_neg c1]
        · have e : ∀ A s, secV cap A s q = if q.fr < 0 ∨ s.size < q.fr ∨ s.size - q.fr < wN q then (A, 82, []) else ((layV cap A s.id q.fr (dataQ q)).1, (layV cap A s.id q.fr (dataQ q)).2, []) := by
            intro A s
            unfold secV
            rw [if_neg hB]
            by_cases hr : q.fr < 0 ∨ s.size < q.fr ∨ s.size - q.fr < wN q
            · rw [if_pos hr, if_pos hr]
            · rw [if_neg hr, if_neg hr, if_neg c7, if_neg c6]; rfl
          have hl := dataQ_len q
          have h32 := dataQ_32 hB'
          have hsec := h.sec s (getG_some hg).1
          have hlen : ((dataQ q).length : Int) = wN q := by omega
          rw [e A s, if_neg c1]
          simp only
          by_cases c2 : cap - usedV A < ((dataQ q).length : Int) - inS s.S q.fr (q.fr + ((dataQ q).length : Int))
          · have e2 : layV cap A s.id q.fr (dataQ q) = (A, 71) := by unfold layV; rw [hg]; exact if_pos c2
            rw [e2]
            refine ⟨s, rfl, hg, ?_, ?_⟩
            · rw [e A s, if_neg c1, e2]
            · rw [e A s, if_neg c1, e2]
          · have e2 : layV cap A s.id q.fr (dataQ q) = (putV A ⟨s.id, s.size, layS s.S q.fr (dataQ q)⟩, 0) := by unfold layV; rw [hg]; exact if_neg c2
            have hv := h.lay hg (fr := q.fr) (d := dataQ q) (by omega) (by omega) h32
            rw [e2] at hv
            rw [e2]
            have hg2 : getG s.id (putV A ⟨s.id, s.size, layS s.S q.fr (dataQ q)⟩) = some ⟨s.id, s.size, layS s.S q.fr (dataQ q)⟩ := getG_putV (s := ⟨s.id, s.size, layS s.S q.fr (dataQ q)⟩)
            have e3 : layV cap (putV A ⟨s.id, s.size, layS s.S q.fr (dataQ q)⟩) s.id q.fr (dataQ q) = (putV A ⟨s.id, s.size, layS s.S q.fr (dataQ q)⟩, 0) := by
              unfold layV
              rw [hg2]
              simp only
              rw [inS_lay hsec (by omega) (by omega) h32, layS_layS hsec (by omega) (by omega) h32, if_neg (by have hu : usedV (putV A ⟨s.id, s.size, layS s.S q.fr (dataQ q)⟩) ≤ cap := hv.use; omega), putV_put _ rfl]
            refine ⟨⟨s.id, s.size, layS s.S q.fr (dataQ q)⟩, rfl, hg2, ?_, ?_⟩
            · rw [e _ _, if_neg c1]; simp only; rw [e3]
            · rw [e _ _, if_neg c1]; simp only; rw [e3]
/-- Asked twice is once. -/
theorem do_twice {cap : Int} {A : List Spc} (h : VolOk cap A) (q : Rq) :
    (q.op = 1 ∨ q.op = 3 → (doV cap A q).2.e ≠ 0 ∨ (doV cap (doV cap A q).1 q).2.e ≠ 0) ∧
    (q.op ≠ 1 → q.op ≠ 3 → (doV cap (doV cap A q).1 q).1 = (doV cap A q).1 ∧ (doV cap (doV cap A q).1 q).2.e = (doV cap A q).2.e ∧ (doV cap (doV cap A q).1 q).2.d = (doV cap A q).2.d) := by
  by_cases c0 : q.op < 1 ∨ 10 < q.op ∨ (q.op = 2 ∧ (q.n < 0 ∨ 16777216 < q.n))
  · have e : doV cap A q = (A, ⟨1, [], 0, 0⟩) := if_pos c0
    rw [e]
    exact ⟨fun _ => .inl (by simp), fun _ _ => by rw [e]; exact ⟨rfl, rfl, rfl⟩⟩
  · by_cases c1 : q.op = 1
    · have e : ∀ A, doV cap A q = ((createV A q.id q.n).1, ⟨(createV A q.id q.n).2, [], 0, 0⟩) := fun A => by unfold doV; rw [if_neg c0, if_pos c1]
      refine ⟨fun _ => ?_, fun hc => absurd c1 hc⟩
      rw [e, e]
      simp only
      by_cases d1 : q.id < 1 ∨ 65535 < q.id ∨ q.n < 0 ∨ 16777216 < q.n
      · left; unfold createV; rw [if_pos d1]; simp
      · cases hg : getG q.id A with
        | some a => left; unfold createV; rw [if_neg d1, hg]; simp
        | none =>
          by_cases d2 : 8 ≤ A.length
          · left; unfold createV; rw [if_neg d1, hg]; simp [d2]
          · right
            have e2 : (createV A q.id q.n).1 = insG ⟨q.id, q.n, []⟩ A := by unfold createV; rw [if_neg d1, hg]; simp [d2]
            have hg2 : getG q.id (insG ⟨q.id, q.n, []⟩ A) = some ⟨q.id, q.n, []⟩ := getG_insG_self (x := (⟨q.id, q.n, []⟩ : Spc)) fun a ha => getG_none hg a ha
            rw [e2]; unfold createV; rw [if_neg d1, hg2]; simp
    · by_cases c8 : q.op = 8
      · have e : ∀ A, doV cap A q = (A, ⟨0, [], 0, 0⟩) := fun A => by unfold doV; rw [if_neg c0, if_neg c1, if_pos c8]
        exact ⟨fun hc => by omega, fun _ _ => by rw [e, e]; exact ⟨rfl, rfl, rfl⟩⟩
      · by_cases c10 : q.op = 10
        · have e : ∀ A, doV cap A q = (A, ⟨0, [], cap, usedV A⟩) := fun A => by unfold doV; rw [if_neg c0, if_neg c1, if_neg c8, if_pos c10]
          exact ⟨fun hc => by omega, fun _ _ => by rw [e, e]; exact ⟨rfl, rfl, rfl⟩⟩
        · cases hg : getG q.id A with
          | none =>
            have e : doV cap A q = (A, ⟨4, [], 0, 0⟩) := by unfold doV; rw [if_neg c0, if_neg c1, if_neg c8, if_neg c10, hg]
            rw [e]
            exact ⟨fun _ => .inl (by simp), fun _ _ => by rw [e]; exact ⟨rfl, rfl, rfl⟩⟩
          | some s =>
            obtain ⟨hsA, hid⟩ := getG_some hg
            rw [key_spc] at hid
            by_cases c2 : q.op = 2
            · have e : ∀ A s, getG q.id A = some s → doV cap A q = (putV A ⟨q.id, q.n, cutS s.S q.n 16777216⟩, ⟨0, [], 0, 0⟩) := fun A s hg => by
                unfold doV; rw [if_neg c0, if_neg c1, if_neg c8, if_neg c10, hg]; simp only; rw [if_pos c2]
              refine ⟨fun hc => by omega, fun _ _ => ?_⟩
              rw [e A s hg]
              simp only
              rw [e _ ⟨q.id, q.n, cutS s.S q.n 16777216⟩ (getG_putV (s := ⟨q.id, q.n, cutS s.S q.n 16777216⟩))]
              simp only
              rw [cutS_cutS, putV_put _ rfl]
              refine ⟨?_, ?_, ?_⟩ <;> first | rfl | trivial
            · by_cases c3 : q.op = 3
              · have e : doV cap A q = (delG q.id A, ⟨0, [], 0, 0⟩) := by
                  unfold doV; rw [if_neg c0, if_neg c1, if_neg c8, if_neg c10, hg]; simp only; rw [if_neg c2, if_pos c3]
                have hgn : getG q.id (delG q.id A) = none := by
                  cases hh : getG q.id (delG q.id A) with
                  | none => rfl
                  | some x =>
                    obtain ⟨h1, h2⟩ := getG_some hh
                    exact absurd h2 (mem_delG.1 h1).2
                refine ⟨fun _ => .inr ?_, fun _ hc => absurd c3 hc⟩
                rw [e]; simp only
                unfold doV; rw [if_neg c0, if_neg c1, if_neg c8, if_neg c10, hgn]; simp
              · by_cases c9 : q.op = 9
                · have e : doV cap A q = (A, ⟨0, [], s.size, (s.S.length : Int)⟩) := by
                    unfold doV; rw [if_neg c0, if_neg c1, if_neg c8, if_neg c10, hg]; simp only; rw [if_neg c2, if_neg c3, if_pos c9]
                  rw [e]
                  exact ⟨fun hc => by omega, fun _ _ => by rw [e]; exact ⟨rfl, rfl, rfl⟩⟩
                · have e : ∀ A s, getG q.id A = some s → doV cap A q = ((secV cap A s q).1, ⟨(secV cap A s q).2.1, (secV cap A s q).2.2, 0, 0⟩) := fun A s hg => by
                    unfold doV; rw [if_neg c0, if_neg c1, if_neg c8, if_neg c10, hg]; simp only; rw [if_neg c2, if_neg c3, if_neg c9]
                  have hg1 : getG s.id A = some s := by rw [hid]; exact hg
                  obtain ⟨s', h1, h2, h3, h4⟩ := sec_twice h q hg1
                  refine ⟨fun hc => by omega, fun _ _ => ?_⟩
                  rw [e A s hg]
                  simp only
                  rw [e _ s' (by rw [← hid]; exact h2)]
                  exact ⟨h3, by simp only; rw [h4], by simp only; rw [h4]⟩
/-- What is asked of one leaves another as it was. -/
theorem sec_apart {cap : Int} {A : List Spc} {s : Spc} (q : Rq) {id : Int} (hg : getG s.id A = some s) (hne : id ≠ s.id) : getG id (secV cap A s q).1 = getG id A := by
  unfold secV
  by_cases hB : wB q = false
  · rw [if_pos hB]
  rw [if_neg hB]
  by_cases hr : q.fr < 0 ∨ s.size < q.fr ∨ s.size - q.fr < wN q
  · rw [if_pos hr]
  rw [if_neg hr]
  by_cases c7 : q.op = 7
  · rw [if_pos c7]
  rw [if_neg c7]
  by_cases c6 : q.op = 6
  · rw [if_pos c6]; exact getG_putV_ne hne
  rw [if_neg c6]
  change getG id (layV cap A s.id q.fr (dataQ q)).1 = _
  unfold layV
  rw [hg]
  simp only
  split
  · rfl
  · exact getG_putV_ne hne
theorem do_apart {cap : Int} {A : List Spc} (q : Rq) {id : Int} (hne : id ≠ q.id) : getG id (doV cap A q).1 = getG id A := by
  unfold doV
  split
  · rfl
  split
  · unfold createV
    split
    · rfl
    · split
      · rfl
      · split
        · rfl
        · exact getG_insG (x := (⟨q.id, q.n, []⟩ : Spc)) (by rw [key_spc]; exact hne)
  split
  · rfl
  split
  · rfl
  split
  · rfl
  · rename_i s hg
    have hid : s.id = q.id := (getG_some hg).2
    split
    · exact getG_putV_ne hne
    split
    · exact getG_delG hne
    split
    · rfl
    · exact sec_apart q (by rw [hid]; exact hg) (by rw [hid]; exact hne)
end Go.Proofs.Ythjnfjgejdlbfaa.Aw
