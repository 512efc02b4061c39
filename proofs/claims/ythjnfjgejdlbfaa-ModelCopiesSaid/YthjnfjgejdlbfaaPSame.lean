/-
  The model: whether two say the same.
-/
import Derived.Test.YthjnfjgejdlbfaaPMC
set_option linter.unusedSimpArgs false
set_option linter.unusedVariables false
namespace Go.Proofs.Ythjnfjgejdlbfaa.Aw
open Go.RowKit

theorem sorted_sub {α : Type} [Key α] : ∀ {S2 S1 : List α}, SortedG S1 → SortedG S2 → (∀ x ∈ S1, x ∈ S2) → S1.length ≤ S2.length ∧ (S1.length = S2.length → S1 = S2)
  | [], S1, _, _, h => by
    cases S1 with
    | nil => exact ⟨Nat.le_refl _, fun _ => rfl⟩
    | cons a r => exact absurd (h a (by simp)) (by simp)
  | b :: r2, [], _, _, _ => ⟨Nat.zero_le _, fun h => by simp at h⟩
  | b :: r2, a :: r1, h1, h2, h => by
    have p1 := List.pairwise_cons.1 h1
    have p2 := List.pairwise_cons.1 h2
    rcases List.mem_cons.1 (h a (by simp)) with rfl | ha
    · have ih := sorted_sub p1.2 p2.2 fun x hx => by
        rcases List.mem_cons.1 (h x (List.mem_cons_of_mem _ hx)) with rfl | hx2
        · have := p1.1 _ hx; omega
        · exact hx2
      exact ⟨by simp; exact ih.1, fun hl => by rw [ih.2 (by simpa using hl)]⟩
    · have hba := p2.1 a ha
      have ih := sorted_sub h1 p2.2 fun x hx => by
        rcases List.mem_cons.1 (h x hx) with rfl | hx2
        · rcases List.mem_cons.1 hx with rfl | hx3
          · omega
          · have := p1.1 _ hx3; omega
        · exact hx2
      have h3 := ih.1
      simp only [List.length_cons] at h3 ⊢
      exact ⟨by omega, fun hl => by omega⟩
theorem getG_key {α : Type} [Key α] {k : Int} {S : List α} {x : α} (h : getG k S = some x) : x ∈ S ∧ key x = k := getG_some h

theorem equal_i {ob : List AObj} {m1 m2 c1 c2 : Nat} {es1 es2 : Ents} {S1 S2 : List Sc} (h1 : ob[m1]? = some (.map c1 es1)) (h2 : ob[m2]? = some (.map c2 es2)) (ok1 : MapOk c1 es1) (ok2 : MapOk c2 es2) (r1 : SecRel es1 S1) (r2 : SecRel es2 S2) (s1 : SortedG S1) (s2 : SortedG S2) :
    ICall Try.prog 48 [.mp m1, .mp m2] ob fun r ob' => r = .bool (decide (S1 = S2)) ∧ ∃ ex, ob' = ob ++ ex := by
  refine icall_dr Try.func48 comp_maps_Equal_string ?_
  have l1 := keys_len (r1.keys ok1 s1)
  have l2 := keys_len (r2.keys ok2 s2)
  have A1 := fun l => apL h1 l
  have A2 := fun l => apL h2 l
  by_cases hl : es1.length = es2.length
  · have dl : ((es1.length : Int) != (es2.length : Int)) = false := by simp; omega
    simp (config := {maxSteps := 4000000}) only [U_maps_Equal_string, h1, h2, dl, reduceIte, reduceCtorEq, Nat.reduceEqDiff, Nat.reduceAdd, Int.reduceLT, Int.reduceLE, Int.reduceNeg, Int.reduceEq, Nat.reduceLT, Nat.reduceSub, Nat.reduceMul, Nat.reduceBEq, Nat.reduceLeDiff, Int.reduceBEq, Int.reduceBNe, Int.reduceToNat, ne_eq, implies_true, bA]
    refine loopF (fun seen : List Nat => ⟨ofL [(1, .mp m2), (15, .ref ob.length 0)], ob ++ [.iter m1 c1 seen c1]⟩) (fun seen => ∀ e ∈ es1, seen.contains e.1 = true → mGet e.2.1 es2 = some e.2.2) (fun seen => (mLeft seen es1).length) [] ?_ (fun e _ h => by simp at h) ?_
    · simp (config := {maxSteps := 4000000}) only [U_maps_Equal_string, reduceIte, reduceCtorEq, Nat.reduceEqDiff, Nat.reduceAdd, Int.reduceLT, Int.reduceLE, Int.reduceNeg, Int.reduceEq, Nat.reduceLT, Nat.reduceSub, Nat.reduceMul, Nat.reduceBEq, Nat.reduceLeDiff, Int.reduceBEq, Int.reduceBNe, Int.reduceToNat, ne_eq, implies_true, bA]
    · intro seen hJ
      simp (config := {maxSteps := 4000000}) only [U_maps_Equal_string, ap0, A1, A2, reduceIte, reduceCtorEq, Nat.reduceEqDiff, Nat.reduceAdd, Int.reduceLT, Int.reduceLE, Int.reduceNeg, Int.reduceEq, Nat.reduceLT, Nat.reduceSub, Nat.reduceMul, Nat.reduceBEq, Nat.reduceLeDiff, Int.reduceBEq, Int.reduceBNe, Int.reduceToNat, ne_eq, implies_true, bA]
      refine ⟨ok1.lt, Nat.le_refl _, fun hn => ?_, fun e he => ?_⟩
      · have hall : ∀ e ∈ es1, mGet e.2.1 es2 = some e.2.2 := fun e he => hJ e he (by
          have := List.filter_eq_nil_iff.1 hn e he
          simpa using this)
        have hsub : ∀ x ∈ S1, x ∈ S2 := fun x hx => by
          have hg := getG_mem s1 hx
          have hm := r1 (key x)
          rw [hg] at hm
          obtain ⟨e, he, hk, hv⟩ := mGet_some hm
          have h3 := hall e he
          rw [hk, r2 (key x), hv] at h3
          cases hg2 : getG (key x) S2 with
          | none => rw [hg2] at h3; cases h3
          | some y =>
            rw [hg2] at h3
            obtain ⟨hy, hyk⟩ := getG_some hg2
            simp only [Option.map_some, Option.some.injEq, PV.str.injEq] at h3
            have : x = y := by
              cases x; cases y
              simp only [key_sc] at hyk h3
              rw [hyk, h3]
            rw [this]; exact hy
        have heq : S1 = S2 := (sorted_sub s1 s2 hsub).2 (by omega)
        have d : decide (S1 = S2) = true := by simpa using heq
        simp (config := {maxSteps := 4000000}) only [U_maps_Equal_string, d, reduceIte, reduceCtorEq, Nat.reduceEqDiff, Nat.reduceAdd, Int.reduceLT, Int.reduceLE, Int.reduceNeg, Int.reduceEq, Nat.reduceLT, Nat.reduceSub, Nat.reduceMul, Nat.reduceBEq, Nat.reduceLeDiff, Int.reduceBEq, Int.reduceBNe, Int.reduceToNat, ne_eq, implies_true, bA]
        exact ⟨_, rfl, rfl, _, rfl⟩
      · obtain ⟨he1, he2⟩ := mem_left.1 he
        have hf := find_entry ok1.nd he1
        have hm1 := mGet_mem ok1.kd e he1
        have hr1 := r1 e.2.1
        rw [hm1] at hr1
        cases hg1 : getG e.2.1 S1 with
        | none => rw [hg1] at hr1; cases hr1
        | some x =>
          rw [hg1] at hr1
          simp only [Option.map_some, Option.some.injEq] at hr1
          have hr2 := r2 e.2.1
          cases hg2 : getG e.2.1 S2 with
          | none =>
            rw [hg2] at hr2
            simp only [Option.map_none] at hr2
            have d : decide (S1 = S2) = false := by
              simp only [decide_eq_false_iff_not]
              intro hc; rw [hc, hg2] at hg1; cases hg1
            simp (config := {maxSteps := 4000000}) only [U_maps_Equal_string, ap0, st0, A1, A2, hf, hr2, d, reduceIte, reduceCtorEq, Nat.reduceEqDiff, Nat.reduceAdd, Int.reduceLT, Int.reduceLE, Int.reduceNeg, Int.reduceEq, Nat.reduceLT, Nat.reduceSub, Nat.reduceMul, Nat.reduceBEq, Nat.reduceLeDiff, Int.reduceBEq, Int.reduceBNe, Int.reduceToNat, ne_eq, implies_true, bA]
            exact ⟨_, rfl, rfl, _, rfl⟩
          | some y =>
            rw [hg2] at hr2
            simp only [Option.map_some] at hr2
            by_cases hd : x.dat = y.dat
            · have dd : (x.dat == y.dat) = true := by simpa using hd
              simp (config := {maxSteps := 4000000}) only [U_maps_Equal_string, ap0, st0, A1, A2, hf, hr1, hr2, dd, reduceIte, reduceCtorEq, Nat.reduceEqDiff, Nat.reduceAdd, Int.reduceLT, Int.reduceLE, Int.reduceNeg, Int.reduceEq, Nat.reduceLT, Nat.reduceSub, Nat.reduceMul, Nat.reduceBEq, Nat.reduceLeDiff, Int.reduceBEq, Int.reduceBNe, Int.reduceToNat, ne_eq, implies_true, bA]
              refine ⟨seen ++ [e.1], rfl, fun z hz hzs => ?_, left_step he⟩
              rw [seen_snoc, Bool.or_eq_true] at hzs
              rcases hzs with hzs | hzs
              · exact hJ z hz hzs
              · have hze : z.1 = e.1 := eq_of_beq hzs
                have hz2 := find_entry ok1.nd hz
                rw [hze, hf] at hz2
                have := Option.some.inj hz2
                rw [← this, hr2, hr1, hd]
            · have dd : (x.dat == y.dat) = false := by simpa using hd
              have d : decide (S1 = S2) = false := by
                simp only [decide_eq_false_iff_not]
                intro hc; rw [hc, hg2] at hg1; cases hg1; exact hd rfl
              simp (config := {maxSteps := 4000000}) only [U_maps_Equal_string, ap0, st0, A1, A2, hf, hr1, hr2, dd, d, reduceIte, reduceCtorEq, Nat.reduceEqDiff, Nat.reduceAdd, Int.reduceLT, Int.reduceLE, Int.reduceNeg, Int.reduceEq, Nat.reduceLT, Nat.reduceSub, Nat.reduceMul, Nat.reduceBEq, Nat.reduceLeDiff, Int.reduceBEq, Int.reduceBNe, Int.reduceToNat, ne_eq, implies_true, bA]
              exact ⟨_, rfl, rfl, _, rfl⟩
  · have dl : ((es1.length : Int) != (es2.length : Int)) = true := by simp; omega
    have d : decide (S1 = S2) = false := by
      simp only [decide_eq_false_iff_not]
      intro hc; rw [hc] at l1; omega
    simp (config := {maxSteps := 4000000}) only [U_maps_Equal_string, h1, h2, dl, d, reduceIte, reduceCtorEq, Nat.reduceEqDiff, Nat.reduceAdd, Int.reduceLT, Int.reduceLE, Int.reduceNeg, Int.reduceEq, Nat.reduceLT, Nat.reduceSub, Nat.reduceMul, Nat.reduceBEq, Nat.reduceLeDiff, Int.reduceBEq, Int.reduceBNe, Int.reduceToNat, ne_eq, implies_true, bA]
    exact ⟨_, rfl, rfl, [], by simp⟩

theorem same_c1_i {ob : List AObj} {b1 b2 m1 m2 c1 c2 : Nat} {z1 z2 : Int} {es1 es2 : Ents} {S1 S2 : List Sc} (g1 : ob[b1]? = some (.box [.int .i64 z1, .mp m1])) (g2 : ob[b2]? = some (.box [.int .i64 z2, .mp m2])) (h1 : ob[m1]? = some (.map c1 es1)) (h2 : ob[m2]? = some (.map c2 es2)) (ok1 : MapOk c1 es1) (ok2 : MapOk c2 es2) (r1 : SecRel es1 S1) (r2 : SecRel es2 S2) (s1 : SortedG S1) (s2 : SortedG S2) :
    ICall Try.prog 47 [.ref b1 0, .ref b2 0] ob fun r ob' => r = .bool (decide (z1 = z2 ∧ S1 = S2)) ∧ ∃ ex, ob' = ob ++ ex := by
  refine icall_dr Try.func47 comp_model_Model_Same_c1 ?_
  by_cases hz : z1 = z2
  · have dz : (z1 == z2) = true := by simpa using hz
    have d : decide (z1 = z2 ∧ S1 = S2) = decide (S1 = S2) := by simp [hz]
    simp (config := {maxSteps := 4000000}) only [U_model_Model_Same_c1, g1, g2, dz, reduceIte, reduceCtorEq, Nat.reduceEqDiff, Nat.reduceAdd, Int.reduceLT, Int.reduceLE, Int.reduceNeg, Int.reduceEq, Nat.reduceLT, Nat.reduceSub, Nat.reduceMul, Nat.reduceBEq, Nat.reduceLeDiff, Int.reduceBEq, Int.reduceBNe, Int.reduceToNat, ne_eq, implies_true, bA]
    refine callM (equal_i h1 h2 ok1 ok2 r1 r2 s1 s2) ?_
    rintro r ob' ⟨rfl, ex, rfl⟩
    simp (config := {maxSteps := 4000000}) only [U_model_Model_Same_c1, d, reduceIte, reduceCtorEq, Nat.reduceEqDiff, Nat.reduceAdd, Int.reduceLT, Int.reduceLE, Int.reduceNeg, Int.reduceEq, Nat.reduceLT, Nat.reduceSub, Nat.reduceMul, Nat.reduceBEq, Nat.reduceLeDiff, Int.reduceBEq, Int.reduceBNe, Int.reduceToNat, ne_eq, implies_true, bA]
    exact ⟨_, rfl, rfl, _, rfl⟩
  · have dz : (z1 == z2) = false := by simpa using hz
    have d : decide (z1 = z2 ∧ S1 = S2) = false := by simp [hz]
    simp (config := {maxSteps := 4000000}) only [U_model_Model_Same_c1, g1, g2, dz, d, reduceIte, reduceCtorEq, Nat.reduceEqDiff, Nat.reduceAdd, Int.reduceLT, Int.reduceLE, Int.reduceNeg, Int.reduceEq, Nat.reduceLT, Nat.reduceSub, Nat.reduceMul, Nat.reduceBEq, Nat.reduceLeDiff, Int.reduceBEq, Int.reduceBNe, Int.reduceToNat, ne_eq, implies_true, bA]
    exact ⟨_, rfl, rfl, [], by simp⟩
theorem equalF_i {ob : List AObj} {b1 m1 c1 b2 m2 c2 : Nat} {E1 E2 : List SpE} {cap1 cap2 : Int} {A1 A2 : List Spc} (h1 : ModAt ob b1 m1 c1 E1 cap1 A1) (h2 : ModAt ob b2 m2 c2 E2 cap2 A2) :
    ICall Try.prog 46 [.mp m1, .mp m2, .fn (.func 47) [] []] ob fun r ob' => r = .bool (decide (A1 = A2)) ∧ ∃ ex, ob' = ob ++ ex := by
  refine icall_dr Try.func46 comp_maps_EqualFunc_model_space ?_
  have l1 := h1.len
  have l2 := h2.len
  have a1 := h1.hm
  have a2 := h2.hm
  have B1 := fun l => apL h1.hm l
  have B2 := fun l => apL h2.hm l
  by_cases hl : E1.length = E2.length
  · have dl : ((E1.length : Int) != (E2.length : Int)) = false := by simp; omega
    simp (config := {maxSteps := 4000000}) only [U_maps_EqualFunc_model_space, a1, a2, dl, reduceIte, reduceCtorEq, Nat.reduceEqDiff, Nat.reduceAdd, Int.reduceLT, Int.reduceLE, Int.reduceNeg, Int.reduceEq, Nat.reduceLT, Nat.reduceSub, Nat.reduceMul, Nat.reduceBEq, Nat.reduceLeDiff, Int.reduceBEq, Int.reduceBNe, Int.reduceToNat, ne_eq, implies_true, bA]
    refine loopF (fun x : List Nat × List AObj => ⟨ofL [(1, .mp m2), (2, .fn (.func 47) [] []), (17, .ref ob.length 0)], ob ++ (.iter m1 c1 x.1 c1 :: x.2)⟩) (fun x => ∀ e ∈ E1, x.1.contains e.born = true → e.s ∈ A2) (fun x => (mLeft x.1 (E1.map entM)).length) ([], []) ?_ (fun e _ h => by simp at h) ?_
    · simp (config := {maxSteps := 4000000}) only [U_maps_EqualFunc_model_space, reduceIte, reduceCtorEq, Nat.reduceEqDiff, Nat.reduceAdd, Int.reduceLT, Int.reduceLE, Int.reduceNeg, Int.reduceEq, Nat.reduceLT, Nat.reduceSub, Nat.reduceMul, Nat.reduceBEq, Nat.reduceLeDiff, Int.reduceBEq, Int.reduceBNe, Int.reduceToNat, ne_eq, implies_true, bA]
    · rintro ⟨seen, ex⟩ hJ
      simp only at hJ
      simp (config := {maxSteps := 4000000}) only [U_maps_EqualFunc_model_space, ap0, B1, B2, reduceIte, reduceCtorEq, Nat.reduceEqDiff, Nat.reduceAdd, Int.reduceLT, Int.reduceLE, Int.reduceNeg, Int.reduceEq, Nat.reduceLT, Nat.reduceSub, Nat.reduceMul, Nat.reduceBEq, Nat.reduceLeDiff, Int.reduceBEq, Int.reduceBNe, Int.reduceToNat, ne_eq, implies_true, bA]
      refine ⟨h1.ok.lt, Nat.le_refl _, fun hn => ?_, fun e he => ?_⟩
      · have hsub : ∀ x ∈ A1, x ∈ A2 := fun x hx => by
          obtain ⟨e, he, rfl⟩ := List.mem_map.1 (h1.mem.mem_iff.2 hx)
          refine hJ e he ?_
          have := List.filter_eq_nil_iff.1 hn (entM e) (List.mem_map_of_mem he)
          simpa [entM] using this
        have heq : A1 = A2 := (sorted_sub h1.vol.srt h2.vol.srt hsub).2 (by omega)
        have d : decide (A1 = A2) = true := by simpa using heq
        simp (config := {maxSteps := 4000000}) only [U_maps_EqualFunc_model_space, d, reduceIte, reduceCtorEq, Nat.reduceEqDiff, Nat.reduceAdd, Int.reduceLT, Int.reduceLE, Int.reduceNeg, Int.reduceEq, Nat.reduceLT, Nat.reduceSub, Nat.reduceMul, Nat.reduceBEq, Nat.reduceLeDiff, Int.reduceBEq, Int.reduceBNe, Int.reduceToNat, ne_eq, implies_true, bA]
        exact ⟨_, rfl, rfl, _, rfl⟩
      · obtain ⟨he1, he2⟩ := mem_left.1 he
        obtain ⟨x, hx, rfl⟩ := List.mem_map.1 he1
        have hf := find_entry h1.ok.nd he1
        simp only [entM] at hf he2
        have hxA := h1.inA hx
        have hgx : getG x.s.id A1 = some x.s := getG_mem h1.vol.srt hxA
        cases hg2 : getG x.s.id A2 with
        | none =>
          have hk := h2.getN hg2
          have d : decide (A1 = A2) = false := by
            simp only [decide_eq_false_iff_not]
            intro hc; rw [hc, hg2] at hgx; cases hgx
          simp (config := {maxSteps := 4000000}) only [U_maps_EqualFunc_model_space, ap0, st0, B1, B2, hf, hk, entM, d, reduceIte, reduceCtorEq, Nat.reduceEqDiff, Nat.reduceAdd, Int.reduceLT, Int.reduceLE, Int.reduceNeg, Int.reduceEq, Nat.reduceLT, Nat.reduceSub, Nat.reduceMul, Nat.reduceBEq, Nat.reduceLeDiff, Int.reduceBEq, Int.reduceBNe, Int.reduceToNat, ne_eq, implies_true, bA]
          exact ⟨_, rfl, rfl, _, rfl⟩
        | some s =>
          obtain ⟨F1, y, F2, hE2, rfl, hk⟩ := h2.get hg2
          have hy : y ∈ E2 := by rw [hE2]; exact mid_mem.2 (.inl rfl)
          have hyid : y.s.id = x.s.id := (getG_some hg2).2
          simp (config := {maxSteps := 4000000}) only [U_maps_EqualFunc_model_space, ap0, st0, B1, B2, hf, hk, entM, reduceIte, reduceCtorEq, Nat.reduceEqDiff, Nat.reduceAdd, Int.reduceLT, Int.reduceLE, Int.reduceNeg, Int.reduceEq, Nat.reduceLT, Nat.reduceSub, Nat.reduceMul, Nat.reduceBEq, Nat.reduceLeDiff, Int.reduceBEq, Int.reduceBNe, Int.reduceToNat, ne_eq, implies_true, bA]
          refine callM (same_c1_i (apL (h1.sp x hx) _) (apL (h2.sp y hy) _) (apL (h1.mp x hx) _) (apL (h2.mp y hy) _) (h1.mok x hx) (h2.mok y hy) (h1.rel x hx) (h2.rel y hy) (h1.vol.sec _ hxA).srt (h2.vol.sec _ (h2.inA hy)).srt) ?_
          rintro r ob' ⟨rfl, ex2, rfl⟩
          by_cases hq : x.s.size = y.s.size ∧ x.s.S = y.s.S
          · have dq : decide (x.s.size = y.s.size ∧ x.s.S = y.s.S) = true := by simpa using hq
            have hxy : x.s = y.s := by
              have h3 := hq.1; have h4 := hq.2
              cases hxs : x.s; cases hys : y.s
              rw [hxs, hys] at hyid h3 h4
              simp only at hyid h3 h4
              rw [hyid, h3, h4]
            simp (config := {maxSteps := 4000000}) only [U_maps_EqualFunc_model_space, ap0, st0, dq, reduceIte, reduceCtorEq, Nat.reduceEqDiff, Nat.reduceAdd, Int.reduceLT, Int.reduceLE, Int.reduceNeg, Int.reduceEq, Nat.reduceLT, Nat.reduceSub, Nat.reduceMul, Nat.reduceBEq, Nat.reduceLeDiff, Int.reduceBEq, Int.reduceBNe, Int.reduceToNat, ne_eq, implies_true, bA]
            refine ⟨(seen ++ [x.born], ex ++ ex2), rfl, fun z hz hzs => ?_, left_step he⟩
            rw [seen_snoc, Bool.or_eq_true] at hzs
            rcases hzs with hzs | hzs
            · exact hJ z hz hzs
            · have hze : z.born = x.born := eq_of_beq hzs
              have hz2 := find_entry h1.ok.nd (List.mem_map_of_mem (f := entM) hz)
              simp only [entM] at hz2
              rw [hze, hf] at hz2
              have h5 := Option.some.inj hz2
              simp only [Prod.mk.injEq, PV.ref.injEq] at h5
              have : z.s = x.s := by
                have g1 := h1.sp z hz
                have hzi := getG_mem h1.vol.srt (h1.inA hz)
                rw [key_spc, ← h5.2.1, hgx] at hzi
                exact (Option.some.inj hzi).symm
              rw [this, hxy]; exact h2.inA hy
          · have dq : decide (x.s.size = y.s.size ∧ x.s.S = y.s.S) = false := by simpa using hq
            have d : decide (A1 = A2) = false := by
              simp only [decide_eq_false_iff_not]
              intro hc; rw [hc, hg2] at hgx
              have := Option.some.inj hgx
              exact hq ⟨by rw [this], by rw [this]⟩
            simp (config := {maxSteps := 4000000}) only [U_maps_EqualFunc_model_space, ap0, st0, dq, d, reduceIte, reduceCtorEq, Nat.reduceEqDiff, Nat.reduceAdd, Int.reduceLT, Int.reduceLE, Int.reduceNeg, Int.reduceEq, Nat.reduceLT, Nat.reduceSub, Nat.reduceMul, Nat.reduceBEq, Nat.reduceLeDiff, Int.reduceBEq, Int.reduceBNe, Int.reduceToNat, ne_eq, implies_true, bA]
            exact ⟨_, rfl, rfl, _, rfl⟩
  · have dl : ((E1.length : Int) != (E2.length : Int)) = true := by simp; omega
    have d : decide (A1 = A2) = false := by
      simp only [decide_eq_false_iff_not]
      intro hc; rw [hc] at l1; omega
    simp (config := {maxSteps := 4000000}) only [U_maps_EqualFunc_model_space, a1, a2, dl, d, reduceIte, reduceCtorEq, Nat.reduceEqDiff, Nat.reduceAdd, Int.reduceLT, Int.reduceLE, Int.reduceNeg, Int.reduceEq, Nat.reduceLT, Nat.reduceSub, Nat.reduceMul, Nat.reduceBEq, Nat.reduceLeDiff, Int.reduceBEq, Int.reduceBNe, Int.reduceToNat, ne_eq, implies_true, bA]
    exact ⟨_, rfl, rfl, [], by simp⟩
theorem same_r {ob : List AObj} {fp1 fp2 : List Nat} {b1 b2 : Nat} {cap1 cap2 : Int} {A1 A2 : List Spc} (h1 : Mod ob fp1 b1 cap1 A1) (h2 : Mod ob fp2 b2 cap2 A2) :
    RCall Try.prog 22 [.ref b1 0, .ref b2 0] ob (.bool (decide (cap1 = cap2 ∧ A1 = A2))) := by
  obtain ⟨m1, c1, E1, h1, _⟩ := h1
  obtain ⟨m2, c2, E2, h2, _⟩ := h2
  refine RCall.of (K := fun r ob' => r = .bool (decide (cap1 = cap2 ∧ A1 = A2)) ∧ ∃ ex, ob' = ob ++ ex) ?_ (fun r ob' h => h) rfl
  refine icall_dr Try.func22 comp_model_Model_Same ?_
  have g1 := h1.hb
  have g2 := h2.hb
  by_cases hz : cap1 = cap2
  · have dz : (cap1 == cap2) = true := by simpa using hz
    have d : decide (cap1 = cap2 ∧ A1 = A2) = decide (A1 = A2) := by simp [hz]
    simp (config := {maxSteps := 4000000}) only [U_model_Model_Same, g1, g2, dz, reduceIte, reduceCtorEq, Nat.reduceEqDiff, Nat.reduceAdd, Int.reduceLT, Int.reduceLE, Int.reduceNeg, Int.reduceEq, Nat.reduceLT, Nat.reduceSub, Nat.reduceMul, Nat.reduceBEq, Nat.reduceLeDiff, Int.reduceBEq, Int.reduceBNe, Int.reduceToNat, ne_eq, implies_true, bA]
    refine callM (equalF_i h1 h2) ?_
    rintro r ob' ⟨rfl, ex, rfl⟩
    simp (config := {maxSteps := 4000000}) only [U_model_Model_Same, d, reduceIte, reduceCtorEq, Nat.reduceEqDiff, Nat.reduceAdd, Int.reduceLT, Int.reduceLE, Int.reduceNeg, Int.reduceEq, Nat.reduceLT, Nat.reduceSub, Nat.reduceMul, Nat.reduceBEq, Nat.reduceLeDiff, Int.reduceBEq, Int.reduceBNe, Int.reduceToNat, ne_eq, implies_true, bA]
    exact ⟨_, rfl, rfl, _, rfl⟩
  · have dz : (cap1 == cap2) = false := by simpa using hz
    have d : decide (cap1 = cap2 ∧ A1 = A2) = false := by simp [hz]
    simp (config := {maxSteps := 4000000}) only [U_model_Model_Same, g1, g2, dz, d, reduceIte, reduceCtorEq, Nat.reduceEqDiff, Nat.reduceAdd, Int.reduceLT, Int.reduceLE, Int.reduceNeg, Int.reduceEq, Nat.reduceLT, Nat.reduceSub, Nat.reduceMul, Nat.reduceBEq, Nat.reduceLeDiff, Int.reduceBEq, Int.reduceBNe, Int.reduceToNat, ne_eq, implies_true, bA]
    exact ⟨_, rfl, rfl, [], by simp⟩
end Go.Proofs.Ythjnfjgejdlbfaa.Aw
