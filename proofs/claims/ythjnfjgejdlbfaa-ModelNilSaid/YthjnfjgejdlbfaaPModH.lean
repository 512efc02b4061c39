/-
  The model: what a request does, and what it answers.
-/
import Derived.Test.YthjnfjgejdlbfaaPModG
set_option linter.unusedSimpArgs false
set_option linter.unusedVariables false
namespace Go.Proofs.Ythjnfjgejdlbfaa.Aw
open Go.RowKit

structure Ans where
  e : Int
  d : List UInt8
  sz : Int
  us : Int
def doV (cap : Int) (A : List Spc) (q : Rq) : List Spc × Ans :=
  if q.op < 1 ∨ 10 < q.op ∨ (q.op = 2 ∧ (q.n < 0 ∨ 16777216 < q.n)) then (A, ⟨1, [], 0, 0⟩) else
  if q.op = 1 then ((createV A q.id q.n).1, ⟨(createV A q.id q.n).2, [], 0, 0⟩) else
  if q.op = 8 then (A, ⟨0, [], 0, 0⟩) else
  if q.op = 10 then (A, ⟨0, [], cap, usedV A⟩) else
  match getG q.id A with
  | none => (A, ⟨4, [], 0, 0⟩)
  | some s =>
    if q.op = 2 then (putV A ⟨q.id, q.n, cutS s.S q.n 16777216⟩, ⟨0, [], 0, 0⟩) else
    if q.op = 3 then (delG q.id A, ⟨0, [], 0, 0⟩) else
    if q.op = 9 then (A, ⟨0, [], s.size, (s.S.length : Int)⟩) else
    ((secV cap A s q).1, ⟨(secV cap A s q).2.1, (secV cap A s q).2.2, 0, 0⟩)
/-- What a request does to a model. -/
def MutD (ob : List AObj) (fp : List Nat) (b : Nat) (cap : Int) (A : List Spc) (q : Rq) (r : PV) (ob' : List AObj) : Prop :=
  ∃ ids fp', r = repP (doV cap A q).2.e (doV cap A q).2.d (doV cap A q).2.sz (doV cap A q).2.us ids ∧ Mod ob' fp' b cap (doV cap A q).1 ∧ Frame ob fp ob' fp' ∧
    (q.op ≠ 10 → ids = .slc []) ∧ (q.op = 10 → ∃ j, ids = .osl j 0 A.length ∧ ob'[j]? = some (.list 1 (rowsZ .i64 (A.map (·.id)))) ∧ ob.length ≤ j ∧ j ∉ fp')
theorem MutD.of {ob ob' fp b cap A q} {A' : List Spc} {a : Ans} (hd : doV cap A q = (A', a)) (h10 : q.op ≠ 10) (h : Mut ob fp b cap A' (repP a.e a.d a.sz a.us (.slc [])) (repP a.e a.d a.sz a.us (.slc [])) ob') : MutD ob fp b cap A q (repP a.e a.d a.sz a.us (.slc [])) ob' := by
  obtain ⟨_, fp', hM, hF⟩ := h
  refine ⟨_, fp', by rw [hd], by rw [hd]; exact hM, hF, fun _ => rfl, fun h => absurd h h10⟩

set_option maxHeartbeats 1000000 in
theorem do_i' {ob b m ck E cap A} (h : ModAt ob b m ck E cap A) (q : Rq) (hq : q.d.length ≤ 1000) : ICall Try.prog 12 [.ref b 0, pQ q] ob (MutD ob (fpM b m E) b cap A q) := by
  refine icall_dr Try.func12 comp_model_Model_Do ?_
  have hbA := fun l => apL h.hb l
  have hmA := fun l => apL h.hm l
  have hlm := lt_of_get h.hm
  have hlb := lt_of_get h.hb
  have hqA := sA hlm
  by_cases c0 : q.op < 1 ∨ 10 < q.op
  · have hd : doV cap A q = (A, ⟨1, [], 0, 0⟩) := if_pos (by omega)
    simp (config := {maxSteps := 4000000}) only [U_model_Model_Do, ap0, ap1, reduceIte, reduceCtorEq, Nat.reduceEqDiff, Nat.reduceAdd, Int.reduceLT, Int.reduceLE, Int.reduceNeg, Int.reduceEq, Nat.reduceLT, Nat.reduceSub, Nat.reduceMul, Nat.reduceBEq, Nat.reduceLeDiff, Int.reduceBEq, Int.reduceBNe, Int.reduceToNat, ne_eq, implies_true, bA]
    refine callI (name_no c0) ?_
    simp (config := {maxSteps := 4000000}) only [U_model_Model_Do, ap0, ap1, reduceIte, reduceCtorEq, Nat.reduceEqDiff, Nat.reduceAdd, Int.reduceLT, Int.reduceLE, Int.reduceNeg, Int.reduceEq, Nat.reduceLT, Nat.reduceSub, Nat.reduceMul, Nat.reduceBEq, Nat.reduceLeDiff, Int.reduceBEq, Int.reduceBNe, Int.reduceToNat, ne_eq, implies_true, bA]
    refine callI (fail_spec 1) ?_
    simp (config := {maxSteps := 4000000}) only [U_model_Model_Do, ap0, ap1, st1, reduceIte, reduceCtorEq, Nat.reduceEqDiff, Nat.reduceAdd, Int.reduceLT, Int.reduceLE, Int.reduceNeg, Int.reduceEq, Nat.reduceLT, Nat.reduceSub, Nat.reduceMul, Nat.reduceBEq, Nat.reduceLeDiff, Int.reduceBEq, Int.reduceBNe, Int.reduceToNat, ne_eq, implies_true, bA]
    exact ⟨_, rfl, MutD.of hd (by omega) (Mut.ext h)⟩
  · obtain ⟨nm, hnm, hnq⟩ := name_yes c0
    simp (config := {maxSteps := 4000000}) only [U_model_Model_Do, ap0, ap1, reduceIte, reduceCtorEq, Nat.reduceEqDiff, Nat.reduceAdd, Int.reduceLT, Int.reduceLE, Int.reduceNeg, Int.reduceEq, Nat.reduceLT, Nat.reduceSub, Nat.reduceMul, Nat.reduceBEq, Nat.reduceLeDiff, Int.reduceBEq, Int.reduceBNe, Int.reduceToNat, ne_eq, implies_true, bA]
    refine callI hnm ?_
    by_cases c2 : q.op = 2
    · have d1 : (q.op == 1) = false := by simp [c2]
      have d8 : (q.op == 8) = false := by simp [c2]
      have d10 : (q.op == 10) = false := by simp [c2]
      have d2 : (q.op == 2) = true := by simp [c2]
      simp (config := {maxSteps := 4000000}) only [U_model_Model_Do, ap0, ap1, hnq, d2, reduceIte, reduceCtorEq, Nat.reduceEqDiff, Nat.reduceAdd, Int.reduceLT, Int.reduceLE, Int.reduceNeg, Int.reduceEq, Nat.reduceLT, Nat.reduceSub, Nat.reduceMul, Nat.reduceBEq, Nat.reduceLeDiff, Int.reduceBEq, Int.reduceBNe, Int.reduceToNat, ne_eq, implies_true, bA]
      by_cases c3 : q.n < 0 ∨ 16777216 < q.n
      · refine callI (sized_no c3) ?_
        have hd : doV cap A q = (A, ⟨1, [], 0, 0⟩) := if_pos (by omega)
        simp (config := {maxSteps := 4000000}) only [U_model_Model_Do, ap0, ap1, reduceIte, reduceCtorEq, Nat.reduceEqDiff, Nat.reduceAdd, Int.reduceLT, Int.reduceLE, Int.reduceNeg, Int.reduceEq, Nat.reduceLT, Nat.reduceSub, Nat.reduceMul, Nat.reduceBEq, Nat.reduceLeDiff, Int.reduceBEq, Int.reduceBNe, Int.reduceToNat, ne_eq, implies_true, bA]
        refine callI (fail_spec 1) ?_
        simp (config := {maxSteps := 4000000}) only [U_model_Model_Do, ap0, ap1, st1, reduceIte, reduceCtorEq, Nat.reduceEqDiff, Nat.reduceAdd, Int.reduceLT, Int.reduceLE, Int.reduceNeg, Int.reduceEq, Nat.reduceLT, Nat.reduceSub, Nat.reduceMul, Nat.reduceBEq, Nat.reduceLeDiff, Int.reduceBEq, Int.reduceBNe, Int.reduceToNat, ne_eq, implies_true, bA]
        exact ⟨_, rfl, MutD.of hd (by omega) (Mut.ext h)⟩
      · refine callI (sized_yes c3) ?_
        cases hg : getG q.id A with
        | none =>
          have hk := h.getN hg
          have hd : doV cap A q = (A, ⟨4, [], 0, 0⟩) := by
            unfold doV
            rw [if_neg (by omega), if_neg (by omega), if_neg (by omega), if_neg (by omega), hg]
          simp (config := {maxSteps := 4000000}) only [U_model_Model_Do, ap0, ap1, d1, d8, d10, hbA, hmA, hk, reduceIte, reduceCtorEq, Nat.reduceEqDiff, Nat.reduceAdd, Int.reduceLT, Int.reduceLE, Int.reduceNeg, Int.reduceEq, Nat.reduceLT, Nat.reduceSub, Nat.reduceMul, Nat.reduceBEq, Nat.reduceLeDiff, Int.reduceBEq, Int.reduceBNe, Int.reduceToNat, ne_eq, implies_true, bA]
          refine callI (fail_spec 4) ?_
          simp (config := {maxSteps := 4000000}) only [U_model_Model_Do, ap0, ap1, st1, reduceIte, reduceCtorEq, Nat.reduceEqDiff, Nat.reduceAdd, Int.reduceLT, Int.reduceLE, Int.reduceNeg, Int.reduceEq, Nat.reduceLT, Nat.reduceSub, Nat.reduceMul, Nat.reduceBEq, Nat.reduceLeDiff, Int.reduceBEq, Int.reduceBNe, Int.reduceToNat, ne_eq, implies_true, bA]
          exact ⟨_, rfl, MutD.of hd (by omega) (Mut.ext h)⟩
        | some s =>
          have hd : doV cap A q = (putV A ⟨q.id, q.n, cutS s.S q.n 16777216⟩, ⟨0, [], 0, 0⟩) := by
            unfold doV
            rw [if_neg (by omega), if_neg (by omega), if_neg (by omega), if_neg (by omega), hg]
            simp only []
            rw [if_pos c2]
          have hvol : VolOk cap (putV A ⟨q.id, q.n, cutS s.S q.n 16777216⟩) := by
            have := h.vol.resize q.id q.n
            unfold resizeV at this
            rw [if_neg (by omega), hg] at this
            exact this
          obtain ⟨E1, e, E2, rfl, rfl, hk⟩ := h.get hg
          have hid : e.s.id = q.id := (getG_some hg).2
          have he : e ∈ E1 ++ e :: E2 := mid_mem.2 (.inl rfl)
          have heA := h.inA he
          have hsp := h.sp e he
          have hmp := h.mp e he
          have hsec := h.vol.sec e.s heA
          have hszs := h.vol.szs e.s heA
          have hls := lt_of_get hsp
          have hlp := lt_of_get hmp
          have hne : e.sb ≠ e.sm := fun c => by rw [c, hmp] at hsp; cases hsp
          have hsA := fun l => apL hsp l
          obtain ⟨ob1, hob1⟩ : ∃ o, ob.set e.sb (.box [.int .i64 q.n, .mp e.sm]) = o := ⟨_, rfl⟩
          have hl1 : ob1.length = ob.length := by rw [← hob1]; simp
          have hs1 : ob1[e.sb]? = some (.box [.int .i64 q.n, .mp e.sm]) := by rw [← hob1, List.getElem?_set_self hls]
          have hm1 : ob1[e.sm]? = some (.map e.ck e.es) := by rw [← hob1, List.getElem?_set_ne hne]; exact hmp
          have qB : ∀ l, (ob ++ l).set e.sb (.box [.int .i64 q.n, .mp e.sm]) = ob1 ++ l := fun l => by rw [← hob1]; exact List.set_append_left _ _ hls
          have g0 : ∀ l, (ob1 ++ l)[ob.length]? = l[0]? := fun l => by have := ap0 ob1 l; rwa [hl1] at this
          have g1 : ∀ l, (ob1 ++ l)[ob.length + 1]? = l[1]? := fun l => by have := ap1 ob1 l; rwa [hl1] at this
          simp (config := {maxSteps := 4000000}) only [U_model_Model_Do, ap0, ap1, d1, d8, d10, d2, hbA, hmA, hk, hsA, qB, reduceIte, reduceCtorEq, Nat.reduceEqDiff, Nat.reduceAdd, Int.reduceLT, Int.reduceLE, Int.reduceNeg, Int.reduceEq, Nat.reduceLT, Nat.reduceSub, Nat.reduceMul, Nat.reduceBEq, Nat.reduceLeDiff, Int.reduceBEq, Int.reduceBNe, Int.reduceToNat, ne_eq, implies_true, bA]
          refine callM (cut_i (hole := fun k => decide (q.n ≤ k)) (f := 30) (cap := [.ref ob.length 0]) (apL hs1 _) (apL hm1 _) (h.mok e he) fun ob' hk2 x hx => ?_) ?_
          · refine do_c1_i (q := q) ?_
            rw [hk2 _ (by omega) (by simp; omega), g0]; rfl
          · rintro r ob' ⟨ex, rfl⟩
            have hlp1 : e.sm < ob1.length := by omega
            have qA := sA hlp1
            have qy1 : ∀ x l, (ob1.set e.sm x ++ l)[ob.length + 1]? = l[1]? := fun x l => by have := sy1 ob1 e.sm x l; rwa [hl1] at this
            have qz1 : ∀ x y l, (ob1.set e.sm x ++ l).set (ob.length + 1) y = ob1.set e.sm x ++ l.set 1 y := fun x y l => by have := sz1 ob1 e.sm x y l; rwa [hl1] at this
            simp (config := {maxSteps := 4000000}) only [U_model_Model_Do, qA, qy1, qz1, reduceIte, reduceCtorEq, Nat.reduceEqDiff, Nat.reduceAdd, Int.reduceLT, Int.reduceLE, Int.reduceNeg, Int.reduceEq, Nat.reduceLT, Nat.reduceSub, Nat.reduceMul, Nat.reduceBEq, Nat.reduceLeDiff, Int.reduceBEq, Int.reduceBNe, Int.reduceToNat, ne_eq, implies_true, bA]
            refine ⟨_, rfl, MutD.of hd (by omega) ?_⟩
            rw [← hid] at hvol ⊢
            refine h.wit (S' := cutS e.s.S q.n 16777216) ?_ (sx1 hlp1 _ _) (by simp; omega) (fun i h2 h3 h4 => ?_) ((h.mok e he).sub List.filter_sublist) ((h.rel e he).cut (hole := fun k => decide (q.n ≤ k)) fun k hk3 => ?_) hvol
            · rw [sx4 hne (by omega), hs1]
            · rw [sx4 h3 (by omega), ← hob1, List.getElem?_set_ne (Ne.symm h2)]
            · cases hgk : getG k e.s.S with
              | none => rw [hgk] at hk3; cases hk3
              | some y =>
                obtain ⟨hy, rfl⟩ := getG_some hgk
                have := hsec.rng y hy
                rw [key_sc]
                by_cases c : q.n ≤ y.at_
                · have a1 : ¬ y.at_ < q.n := by omega
                  have a2 : ¬ (16777216 ≤ y.at_) := by omega
                  simp [c, a1, a2]
                · have a1 : y.at_ < q.n := by omega
                  simp [c, a1]
    · have d2 : (q.op == 2) = false := by simpa using c2
      by_cases c1 : q.op = 1
      · have d1 : (q.op == 1) = true := by simp [c1]
        have hd : doV cap A q = ((createV A q.id q.n).1, ⟨(createV A q.id q.n).2, [], 0, 0⟩) := by
          unfold doV
          rw [if_neg (by omega), if_pos c1]
        simp (config := {maxSteps := 4000000}) only [U_model_Model_Do, ap0, ap1, hnq, d2, d1, reduceIte, reduceCtorEq, Nat.reduceEqDiff, Nat.reduceAdd, Int.reduceLT, Int.reduceLE, Int.reduceNeg, Int.reduceEq, Nat.reduceLT, Nat.reduceSub, Nat.reduceMul, Nat.reduceBEq, Nat.reduceLeDiff, Int.reduceBEq, Int.reduceBNe, Int.reduceToNat, ne_eq, implies_true, bA]
        refine callM (create_i (h.keep fun i hi => List.getElem?_append_left (h.lt i hi)) q) ?_
        intro r ob' hm
        obtain ⟨rfl, hg, hm2⟩ := Mut.wrap h.lt hm (j := ob.length + 1) (by omega) (by simp)
        rw [ap1] at hg
        simp only [List.getElem?_cons_succ, List.getElem?_cons_zero] at hg
        have hg2 := fun x => show (ob'.set (ob.length + 1) x)[ob.length + 1]? = some x by rw [List.getElem?_set_self (lt_of_get hg)]
        simp (config := {maxSteps := 4000000}) only [U_model_Model_Do, hg, hg2, reduceIte, reduceCtorEq, Nat.reduceEqDiff, Nat.reduceAdd, Int.reduceLT, Int.reduceLE, Int.reduceNeg, Int.reduceEq, Nat.reduceLT, Nat.reduceSub, Nat.reduceMul, Nat.reduceBEq, Nat.reduceLeDiff, Int.reduceBEq, Int.reduceBNe, Int.reduceToNat, ne_eq, implies_true, bA]
        exact ⟨_, rfl, MutD.of hd (by omega) (hm2 _)⟩
      · have d1 : (q.op == 1) = false := by simpa using c1
        by_cases c8 : q.op = 8
        · have d8 : (q.op == 8) = true := by simp [c8]
          have hd : doV cap A q = (A, ⟨0, [], 0, 0⟩) := by
            unfold doV
            rw [if_neg (by omega), if_neg c1, if_pos c8]
          simp (config := {maxSteps := 4000000}) only [U_model_Model_Do, ap0, ap1, hnq, d2, d1, d8, st1, reduceIte, reduceCtorEq, Nat.reduceEqDiff, Nat.reduceAdd, Int.reduceLT, Int.reduceLE, Int.reduceNeg, Int.reduceEq, Nat.reduceLT, Nat.reduceSub, Nat.reduceMul, Nat.reduceBEq, Nat.reduceLeDiff, Int.reduceBEq, Int.reduceBNe, Int.reduceToNat, ne_eq, implies_true, bA]
          exact ⟨_, rfl, MutD.of hd (by omega) (Mut.ext h)⟩
        · have d8 : (q.op == 8) = false := by simpa using c8
          by_cases c10 : q.op = 10
          · have d10 : (q.op == 10) = true := by simp [c10]
            have hd : doV cap A q = (A, ⟨0, [], cap, usedV A⟩) := by
              unfold doV
              rw [if_neg (by omega), if_neg c1, if_neg c8, if_pos c10]
            have h2 : ModAt (ob ++ [.box (rowQ q), .box [.int .i64 0, .str [], .int .i64 0, .int .i64 0, .slc []]]) b m ck E cap A := h.keep fun i hi => List.getElem?_append_left (h.lt i hi)
            simp (config := {maxSteps := 4000000}) only [U_model_Model_Do, ap0, ap1, hnq, d2, d1, d8, d10, reduceIte, reduceCtorEq, Nat.reduceEqDiff, Nat.reduceAdd, Int.reduceLT, Int.reduceLE, Int.reduceNeg, Int.reduceEq, Nat.reduceLT, Nat.reduceSub, Nat.reduceMul, Nat.reduceBEq, Nat.reduceLeDiff, Int.reduceBEq, Int.reduceBNe, Int.reduceToNat, ne_eq, implies_true, bA]
            refine callR (used_r h2) ?_
            simp (config := {maxSteps := 4000000}) only [U_model_Model_Do, ap0, ap1, hbA, reduceIte, reduceCtorEq, Nat.reduceEqDiff, Nat.reduceAdd, Int.reduceLT, Int.reduceLE, Int.reduceNeg, Int.reduceEq, Nat.reduceLT, Nat.reduceSub, Nat.reduceMul, Nat.reduceBEq, Nat.reduceLeDiff, Int.reduceBEq, Int.reduceBNe, Int.reduceToNat, ne_eq, implies_true, bA]
            refine ⟨callM (ids_i h2) ?_, callM (ids_i h2) ?_⟩
            all_goals
              rintro r ob' ⟨rfl, rfl⟩
              simp (config := {maxSteps := 4000000}) only [U_model_Model_Do, ap0, ap1, hbA, st1, reduceIte, reduceCtorEq, Nat.reduceEqDiff, Nat.reduceAdd, Int.reduceLT, Int.reduceLE, Int.reduceNeg, Int.reduceEq, Nat.reduceLT, Nat.reduceSub, Nat.reduceMul, Nat.reduceBEq, Nat.reduceLeDiff, Int.reduceBEq, Int.reduceBNe, Int.reduceToNat, ne_eq, implies_true, bA]
              refine ⟨_, rfl, _, fpM b m E, by rw [hd], by rw [hd]; exact Mod.app ⟨m, ck, E, h, rfl⟩, Frame.app _ _ _, fun h => absurd c10 h, fun _ => ⟨ob.length + 3, rfl, by rw [ap3]; rfl, by omega, fun hc => by have := h.lt _ hc; omega⟩⟩
          · have d10 : (q.op == 10) = false := by simpa using c10
            cases hg : getG q.id A with
            | none =>
              have hk := h.getN hg
              have hd : doV cap A q = (A, ⟨4, [], 0, 0⟩) := by
                unfold doV
                rw [if_neg (by omega), if_neg (by omega), if_neg (by omega), if_neg (by omega), hg]
              simp (config := {maxSteps := 4000000}) only [U_model_Model_Do, ap0, ap1, hnq, d2, d1, d8, d10, hbA, hmA, hk, reduceIte, reduceCtorEq, Nat.reduceEqDiff, Nat.reduceAdd, Int.reduceLT, Int.reduceLE, Int.reduceNeg, Int.reduceEq, Nat.reduceLT, Nat.reduceSub, Nat.reduceMul, Nat.reduceBEq, Nat.reduceLeDiff, Int.reduceBEq, Int.reduceBNe, Int.reduceToNat, ne_eq, implies_true, bA]
              refine callI (fail_spec 4) ?_
              simp (config := {maxSteps := 4000000}) only [U_model_Model_Do, ap0, ap1, st1, reduceIte, reduceCtorEq, Nat.reduceEqDiff, Nat.reduceAdd, Int.reduceLT, Int.reduceLE, Int.reduceNeg, Int.reduceEq, Nat.reduceLT, Nat.reduceSub, Nat.reduceMul, Nat.reduceBEq, Nat.reduceLeDiff, Int.reduceBEq, Int.reduceBNe, Int.reduceToNat, ne_eq, implies_true, bA]
              exact ⟨_, rfl, MutD.of hd (by omega) (Mut.ext h)⟩
            | some s =>
              obtain ⟨E1, e, E2, rfl, rfl, hk⟩ := h.get hg
              have hid : e.s.id = q.id := (getG_some hg).2
              have he : e ∈ E1 ++ e :: E2 := mid_mem.2 (.inl rfl)
              have hsp := h.sp e he
              have hmp := h.mp e he
              have hsA := fun l => apL hsp l
              have hpA := fun l => apL hmp l
              by_cases c3 : q.op = 3
              · have d3 : (q.op == 3) = true := by simp [c3]
                have hd : doV cap A q = (delG q.id A, ⟨0, [], 0, 0⟩) := by
                  unfold doV
                  rw [if_neg (by omega), if_neg (by omega), if_neg (by omega), if_neg (by omega), hg]
                  simp only []
                  rw [if_neg (by omega), if_pos c3]
                have qy1 := sy1 ob m
                have qz1 := sz1 ob m
                simp (config := {maxSteps := 4000000}) only [U_model_Model_Do, ap0, ap1, hnq, d2, d1, d8, d10, d3, hbA, hmA, hk, hqA, qy1, qz1, reduceIte, reduceCtorEq, Nat.reduceEqDiff, Nat.reduceAdd, Int.reduceLT, Int.reduceLE, Int.reduceNeg, Int.reduceEq, Nat.reduceLT, Nat.reduceSub, Nat.reduceMul, Nat.reduceBEq, Nat.reduceLeDiff, Int.reduceBEq, Int.reduceBNe, Int.reduceToNat, ne_eq, implies_true, bA]
                refine ⟨_, rfl, MutD.of hd (by omega) ?_⟩
                rw [← hid]
                refine ⟨rfl, fpM b m (E1 ++ E2), Mod.app ⟨m, ck, _, h.del, rfl⟩, by simp, fun i hi hn => ?_, fun i hi => .inl ?_⟩
                · rw [sx4 (fun c => hn (mem_fpM.2 (.inr (.inl c)))) hi]
                · rcases mem_fpM.1 hi with rfl | rfl | ⟨x, hx, rfl⟩ | ⟨x, hx, rfl⟩
                  · exact mem_fpM.2 (.inl rfl)
                  · exact mem_fpM.2 (.inr (.inl rfl))
                  · exact mem_fpM.2 (.inr (.inr (.inl ⟨x, mid_mem.2 (.inr hx), rfl⟩)))
                  · exact mem_fpM.2 (.inr (.inr (.inr ⟨x, mid_mem.2 (.inr hx), rfl⟩)))
              · have d3 : (q.op == 3) = false := by simpa using c3
                by_cases c9 : q.op = 9
                · have d9 : (q.op == 9) = true := by simp [c9]
                  have hd : doV cap A q = (A, ⟨0, [], e.s.size, (e.s.S.length : Int)⟩) := by
                    unfold doV
                    rw [if_neg (by omega), if_neg (by omega), if_neg (by omega), if_neg (by omega), hg]
                    simp only []
                    rw [if_neg (by omega), if_neg (by omega), if_pos c9]
                  have hln := h.slen he
                  simp (config := {maxSteps := 4000000}) only [U_model_Model_Do, ap0, ap1, st1, hnq, d2, d1, d8, d10, d3, d9, hbA, hmA, hk, hsA, hpA, hln, reduceIte, reduceCtorEq, Nat.reduceEqDiff, Nat.reduceAdd, Int.reduceLT, Int.reduceLE, Int.reduceNeg, Int.reduceEq, Nat.reduceLT, Nat.reduceSub, Nat.reduceMul, Nat.reduceBEq, Nat.reduceLeDiff, Int.reduceBEq, Int.reduceBNe, Int.reduceToNat, ne_eq, implies_true, bA]
                  exact ⟨_, rfl, MutD.of hd (by omega) (Mut.ext h)⟩
                · have d9 : (q.op == 9) = false := by simpa using c9
                  have hd : doV cap A q = ((secV cap A e.s q).1, ⟨(secV cap A e.s q).2.1, (secV cap A e.s q).2.2, 0, 0⟩) := by
                    unfold doV
                    rw [if_neg (by omega), if_neg (by omega), if_neg (by omega), if_neg (by omega), hg]
                    simp only []
                    rw [if_neg (by omega), if_neg (by omega), if_neg (by omega)]
                  simp (config := {maxSteps := 4000000}) only [U_model_Model_Do, ap0, ap1, st1, hnq, d2, d1, d8, d10, d3, d9, hbA, hmA, hk, hsA, reduceIte, reduceCtorEq, Nat.reduceEqDiff, Nat.reduceAdd, Int.reduceLT, Int.reduceLE, Int.reduceNeg, Int.reduceEq, Nat.reduceLT, Nat.reduceSub, Nat.reduceMul, Nat.reduceBEq, Nat.reduceLeDiff, Int.reduceBEq, Int.reduceBNe, Int.reduceToNat, ne_eq, implies_true, bA]
                  refine callM (sectors_i (h.keep fun i hi => List.getElem?_append_left (h.lt i hi)) q hq) ?_
                  intro r ob' hm
                  obtain ⟨rfl, hg, hm2⟩ := Mut.wrap h.lt hm (j := ob.length + 1) (by omega) (by simp)
                  rw [ap1] at hg
                  simp only [List.getElem?_cons_succ, List.getElem?_cons_zero] at hg
                  have hg2 := fun x => show (ob'.set (ob.length + 1) x)[ob.length + 1]? = some x by rw [List.getElem?_set_self (lt_of_get hg)]
                  simp (config := {maxSteps := 4000000}) only [U_model_Model_Do, hg, hg2, reduceIte, reduceCtorEq, Nat.reduceEqDiff, Nat.reduceAdd, Int.reduceLT, Int.reduceLE, Int.reduceNeg, Int.reduceEq, Nat.reduceLT, Nat.reduceSub, Nat.reduceMul, Nat.reduceBEq, Nat.reduceLeDiff, Int.reduceBEq, Int.reduceBNe, Int.reduceToNat, ne_eq, implies_true, bA]
                  exact ⟨_, rfl, MutD.of hd (by omega) (hm2 _)⟩
theorem do_i {ob fp b cap A} (h : Mod ob fp b cap A) (q : Rq) (hq : q.d.length ≤ 1000) : ICall Try.prog 12 [.ref b 0, pQ q] ob (MutD ob fp b cap A q) := by
  obtain ⟨m, ck, E, h, rfl⟩ := h
  exact do_i' h q hq
theorem doNil_i (ob : List AObj) (q : Rq) : ICall Try.prog 12 [.nilp, pQ q] ob fun r ob' => r = failP 1 ∧ ∃ ex, ob' = ob ++ ex := by
  refine icall_dr Try.func12 comp_model_Model_Do ?_
  simp (config := {maxSteps := 4000000}) only [U_model_Model_Do, ap0, ap1, reduceIte, reduceCtorEq, Nat.reduceEqDiff, Nat.reduceAdd, Int.reduceLT, Int.reduceLE, Int.reduceNeg, Int.reduceEq, Nat.reduceLT, Nat.reduceSub, Nat.reduceMul, Nat.reduceBEq, Nat.reduceLeDiff, Int.reduceBEq, Int.reduceBNe, Int.reduceToNat, ne_eq, implies_true, bA]
  refine callI (fail_spec 1) ?_
  simp (config := {maxSteps := 4000000}) only [U_model_Model_Do, ap0, ap1, st1, reduceIte, reduceCtorEq, Nat.reduceEqDiff, Nat.reduceAdd, Int.reduceLT, Int.reduceLE, Int.reduceNeg, Int.reduceEq, Nat.reduceLT, Nat.reduceSub, Nat.reduceMul, Nat.reduceBEq, Nat.reduceLeDiff, Int.reduceBEq, Int.reduceBNe, Int.reduceToNat, ne_eq, implies_true, bA]
  exact ⟨_, rfl, rfl, _, rfl⟩
theorem new_i (ob : List AObj) (cap : Int) (h1 : cap ≤ 200) : ICall Try.prog 10 [.int .i64 cap] ob fun r ob' => ∃ fp, r = .ref (ob.length + 1) 0 ∧ Mod ob' fp (ob.length + 1) (max cap 0) [] ∧ Frame ob [] ob' fp := by
  refine icall_dr Try.func10 comp_model_New ?_
  simp (config := {maxSteps := 4000000}) only [U_model_New, reduceIte, reduceCtorEq, Nat.reduceEqDiff, Nat.reduceAdd, Int.reduceLT, Int.reduceLE, Int.reduceNeg, Int.reduceEq, Nat.reduceLT, Nat.reduceSub, Nat.reduceMul, Nat.reduceBEq, Nat.reduceLeDiff, Int.reduceBEq, Int.reduceBNe, Int.reduceToNat, ne_eq, implies_true, bA]
  refine ⟨_, rfl, fpM (ob.length + 1) ob.length [], rfl, ⟨ob.length, 0, [], ⟨by simp, by simp, .nil, by simp, by simp, by simp, by simp, by simp, by simp, by simp, by simp, by simp, VolOk.new (by omega) (by omega)⟩, rfl⟩, ⟨by simp, fun i hi _ => List.getElem?_append_left hi, fun i hi => ?_⟩⟩
  rcases mem_fpM.1 hi with rfl | rfl | ⟨e, he, rfl⟩ | ⟨e, he, rfl⟩
  · right; omega
  · right; omega
  · cases he
  · cases he
end Go.Proofs.Ythjnfjgejdlbfaa.Aw
