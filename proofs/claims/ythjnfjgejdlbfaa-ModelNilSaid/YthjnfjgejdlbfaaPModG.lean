/-
  The model: what is asked of sectors; lists of numbers.
-/
import Derived.Test.YthjnfjgejdlbfaaPModF
import Derived.Test.YthjnfjgejdlbfaaPSortM
set_option linter.unusedSimpArgs false
set_option linter.unusedVariables false
namespace Go.Proofs.Ythjnfjgejdlbfaa.Aw
open Go.RowKit

theorem Mut.wrap {ob l ob' : List AObj} {fp : List Nat} {b : Nat} {cap : Int} {A' : List Spc} {res r : PV} (hfp : ∀ i ∈ fp, i < ob.length) (h : Mut (ob ++ l) fp b cap A' res r ob') {j : Nat} (hj : ob.length ≤ j) (hj2 : j < (ob ++ l).length) :
    r = res ∧ ob'[j]? = (ob ++ l)[j]? ∧ ∀ y, Mut ob fp b cap A' res res (ob'.set j y) := by
  obtain ⟨rfl, fp', hM, hF⟩ := h
  have hjn : j ∉ fp' := fun hc => by
    rcases hF.new j hc with h1 | h1
    · have := hfp j h1; omega
    · omega
  refine ⟨rfl, hF.out j hj2 (fun hc => by have := hfp j hc; omega), fun y => ⟨rfl, fp', hM.keep fun i hi => ?_, ?_, fun i hi hn => ?_, fun i hi => ?_⟩⟩
  · rw [List.getElem?_set_ne]; rintro rfl; exact hjn hi
  · have := hF.len; simp at this ⊢; omega
  · rw [List.getElem?_set_ne (by omega), hF.out i (by simp; omega) hn, List.getElem?_append_left hi]
  · rcases hF.new i hi with h1 | h1
    · exact .inl h1
    · right; simp at h1; omega
theorem ModAt.wit {ob ob' b m ck cap A} {E1 E2 : List SpE} {e : SpE} (h : ModAt ob b m ck (E1 ++ e :: E2) cap A) {size' : Int} {S' : List Sc} {ck' : Nat} {es' : Ents} {res : PV}
    (hsp : ob'[e.sb]? = some (.box [.int .i64 size', .mp e.sm])) (hmp : ob'[e.sm]? = some (.map ck' es')) (hl : ob.length ≤ ob'.length) (hout : ∀ i, i ≠ e.sb → i ≠ e.sm → i < ob.length → ob'[i]? = ob[i]?)
    (mok : MapOk ck' es') (rel : SecRel es' S') (vol : VolOk cap (putV A ⟨e.s.id, size', S'⟩)) : Mut ob (fpM b m (E1 ++ e :: E2)) b cap (putV A ⟨e.s.id, size', S'⟩) res res ob' := by
  have he : e ∈ E1 ++ e :: E2 := mid_mem.2 (.inl rfl)
  refine ⟨rfl, fpM b m (E1 ++ e :: E2), ⟨m, ck, _, h.upd hsp hmp hout mok rel vol, fpM_upd.symm⟩, hl, fun i hi hn => ?_, fun i hi => .inl hi⟩
  exact hout i (fun c => hn (mem_fpM.2 (.inr (.inr (.inl ⟨e, he, c.symm⟩))))) (fun c => hn (mem_fpM.2 (.inr (.inr (.inr ⟨e, he, c.symm⟩))))) hi

theorem sectors_i {ob b m ck cap A} {E1 E2 : List SpE} {e : SpE} (h : ModAt ob b m ck (E1 ++ e :: E2) cap A) (q : Rq) (hq : q.d.length ≤ 1000) :
    ICall Try.prog 31 [.ref b 0, .ref e.sb 0, pQ q] ob (Mut ob (fpM b m (E1 ++ e :: E2)) b cap (secV cap A e.s q).1 (repP (secV cap A e.s q).2.1 (secV cap A e.s q).2.2 0 0 (.slc []))) := by
  refine icall_dr Try.func31 comp_model_Model_sectors ?_
  have he : e ∈ E1 ++ e :: E2 := mid_mem.2 (.inl rfl)
  have heA := h.inA he
  have hsp := h.sp e he
  have hmp := h.mp e he
  have hmok := h.mok e he
  have hrel := h.rel e he
  have hsec := h.vol.sec e.s heA
  have hszs := h.vol.szs e.s heA
  have hls := lt_of_get hsp
  have hlm := lt_of_get hmp
  have hne : e.sb ≠ e.sm := fun c => by rw [c, hmp] at hsp; cases hsp
  have hsA := fun l => apL hsp l
  have hSle := usedV_mem h.vol.srt heA
  have huse := h.vol.use
  obtain ⟨nn, hnn⟩ : ∃ nn, wN q = nn := ⟨_, rfl⟩
  simp (config := {maxSteps := 4000000}) only [U_model_Model_sectors, ap0, ap1, hsA, reduceIte, reduceCtorEq, Nat.reduceEqDiff, Nat.reduceAdd, Int.reduceLT, Int.reduceLE, Int.reduceNeg, Int.reduceEq, Nat.reduceLT, Nat.reduceSub, Nat.reduceMul, Nat.reduceBEq, Nat.reduceLeDiff, Int.reduceBEq, Int.reduceBNe, Int.reduceToNat, ne_eq, implies_true, bA]
  refine callI (whole_spec q hq) ?_
  unfold secV
  rw [hnn]
  cases hB : wB q with
  | false =>
    rw [if_pos rfl]
    simp (config := {maxSteps := 4000000}) only [U_model_Model_sectors, ap0, ap1, ap2, st1, st2, reduceIte, reduceCtorEq, Nat.reduceEqDiff, Nat.reduceAdd, Int.reduceLT, Int.reduceLE, Int.reduceNeg, Int.reduceEq, Nat.reduceLT, Nat.reduceSub, Nat.reduceMul, Nat.reduceBEq, Nat.reduceLeDiff, Int.reduceBEq, Int.reduceBNe, Int.reduceToNat, ne_eq, implies_true, bA]
    refine callI (fail_spec 1) ?_
    simp (config := {maxSteps := 4000000}) only [U_model_Model_sectors, ap0, ap1, ap2, st1, st2, reduceIte, reduceCtorEq, Nat.reduceEqDiff, Nat.reduceAdd, Int.reduceLT, Int.reduceLE, Int.reduceNeg, Int.reduceEq, Nat.reduceLT, Nat.reduceSub, Nat.reduceMul, Nat.reduceBEq, Nat.reduceLeDiff, Int.reduceBEq, Int.reduceBNe, Int.reduceToNat, ne_eq, implies_true, bA]
    exact ⟨_, rfl, Mut.ext h⟩
  | true =>
    rw [if_neg (by simp)]
    have hB2 := hB
    rw [wB, hnn] at hB2
    simp only [Bool.and_eq_true, decide_eq_true_eq] at hB2
    have hn1 := hB2.1
    by_cases c1 : q.fr < 0
    · have d1 : decide (q.fr < 0) = true := by simpa using c1
      rw [if_pos (.inl c1)]
      simp (config := {maxSteps := 4000000}) only [U_model_Model_sectors, ap0, ap1, ap2, st1, st2, d1, hsA, reduceIte, reduceCtorEq, Nat.reduceEqDiff, Nat.reduceAdd, Int.reduceLT, Int.reduceLE, Int.reduceNeg, Int.reduceEq, Nat.reduceLT, Nat.reduceSub, Nat.reduceMul, Nat.reduceBEq, Nat.reduceLeDiff, Int.reduceBEq, Int.reduceBNe, Int.reduceToNat, ne_eq, implies_true, bA]
      refine callI (fail_spec 82) ?_
      simp (config := {maxSteps := 4000000}) only [U_model_Model_sectors, ap0, ap1, ap2, st1, st2, reduceIte, reduceCtorEq, Nat.reduceEqDiff, Nat.reduceAdd, Int.reduceLT, Int.reduceLE, Int.reduceNeg, Int.reduceEq, Nat.reduceLT, Nat.reduceSub, Nat.reduceMul, Nat.reduceBEq, Nat.reduceLeDiff, Int.reduceBEq, Int.reduceBNe, Int.reduceToNat, ne_eq, implies_true, bA]
      exact ⟨_, rfl, Mut.ext h⟩
    · have d1 : decide (q.fr < 0) = false := by simpa using c1
      by_cases c2 : e.s.size < q.fr
      · have d2 : decide (e.s.size < q.fr) = true := by simpa using c2
        rw [if_pos (.inr (.inl c2))]
        simp (config := {maxSteps := 4000000}) only [U_model_Model_sectors, ap0, ap1, ap2, st1, st2, d1, d2, hsA, reduceIte, reduceCtorEq, Nat.reduceEqDiff, Nat.reduceAdd, Int.reduceLT, Int.reduceLE, Int.reduceNeg, Int.reduceEq, Nat.reduceLT, Nat.reduceSub, Nat.reduceMul, Nat.reduceBEq, Nat.reduceLeDiff, Int.reduceBEq, Int.reduceBNe, Int.reduceToNat, ne_eq, implies_true, bA]
        refine callI (fail_spec 82) ?_
        simp (config := {maxSteps := 4000000}) only [U_model_Model_sectors, ap0, ap1, ap2, st1, st2, reduceIte, reduceCtorEq, Nat.reduceEqDiff, Nat.reduceAdd, Int.reduceLT, Int.reduceLE, Int.reduceNeg, Int.reduceEq, Nat.reduceLT, Nat.reduceSub, Nat.reduceMul, Nat.reduceBEq, Nat.reduceLeDiff, Int.reduceBEq, Int.reduceBNe, Int.reduceToNat, ne_eq, implies_true, bA]
        exact ⟨_, rfl, Mut.ext h⟩
      · have d2 : decide (e.s.size < q.fr) = false := by simpa using c2
        have e1 : IntKind.i64.wrap (e.s.size - q.fr) = e.s.size - q.fr := wrapI (by omega) (by omega)
        by_cases c3 : e.s.size - q.fr < nn
        · have d3 : decide (e.s.size - q.fr < nn) = true := by simpa using c3
          rw [if_pos (.inr (.inr c3))]
          simp (config := {maxSteps := 4000000}) only [U_model_Model_sectors, ap0, ap1, ap2, st1, st2, d1, d2, d3, e1, hsA, reduceIte, reduceCtorEq, Nat.reduceEqDiff, Nat.reduceAdd, Int.reduceLT, Int.reduceLE, Int.reduceNeg, Int.reduceEq, Nat.reduceLT, Nat.reduceSub, Nat.reduceMul, Nat.reduceBEq, Nat.reduceLeDiff, Int.reduceBEq, Int.reduceBNe, Int.reduceToNat, ne_eq, implies_true, bA]
          refine callI (fail_spec 82) ?_
          simp (config := {maxSteps := 4000000}) only [U_model_Model_sectors, ap0, ap1, ap2, st1, st2, reduceIte, reduceCtorEq, Nat.reduceEqDiff, Nat.reduceAdd, Int.reduceLT, Int.reduceLE, Int.reduceNeg, Int.reduceEq, Nat.reduceLT, Nat.reduceSub, Nat.reduceMul, Nat.reduceBEq, Nat.reduceLeDiff, Int.reduceBEq, Int.reduceBNe, Int.reduceToNat, ne_eq, implies_true, bA]
          exact ⟨_, rfl, Mut.ext h⟩
        · have d3 : decide (e.s.size - q.fr < nn) = false := by simpa using c3
          rw [if_neg (by omega)]
          obtain ⟨n, rfl⟩ : ∃ n : Nat, nn = (n : Int) := ⟨nn.toNat, by omega⟩
          rw [Int.toNat_natCast]
          by_cases c7 : q.op = 7
          · have d7 : (q.op == 7) = true := by simpa using c7
            have hn8 : (n : Int) ≤ 8 := by
              have := hB2.2.1
              rw [c7] at this
              simpa using this
            rw [if_pos c7]
            simp (config := {maxSteps := 4000000}) only [U_model_Model_sectors, ap0, ap1, ap2, st1, st2, d1, d2, d3, e1, hsA, d7, reduceIte, reduceCtorEq, Nat.reduceEqDiff, Nat.reduceAdd, Int.reduceLT, Int.reduceLE, Int.reduceNeg, Int.reduceEq, Nat.reduceLT, Nat.reduceSub, Nat.reduceMul, Nat.reduceBEq, Nat.reduceLeDiff, Int.reduceBEq, Int.reduceBNe, Int.reduceToNat, ne_eq, implies_true, bA]
            refine callM (read_i (apL hsp _) (apL hmp _) hrel hsec ⟨by omega, by omega⟩ (by omega)) ?_
            rintro r ob' ⟨rfl, ex, rfl⟩
            simp (config := {maxSteps := 4000000}) only [U_model_Model_sectors, ap0, ap1, ap2, st1, st2, reduceIte, reduceCtorEq, Nat.reduceEqDiff, Nat.reduceAdd, Int.reduceLT, Int.reduceLE, Int.reduceNeg, Int.reduceEq, Nat.reduceLT, Nat.reduceSub, Nat.reduceMul, Nat.reduceBEq, Nat.reduceLeDiff, Int.reduceBEq, Int.reduceBNe, Int.reduceToNat, ne_eq, implies_true, bA]
            exact ⟨_, rfl, Mut.ext h⟩
          · have d7 : (q.op == 7) = false := by simpa using c7
            rw [if_neg c7]
            by_cases c6 : q.op = 6
            · have d6 : (q.op == 6) = true := by simpa using c6
              rw [if_pos c6]
              simp (config := {maxSteps := 4000000}) only [U_model_Model_sectors, ap0, ap1, ap2, st1, st2, d1, d2, d3, e1, hsA, d7, d6, reduceIte, reduceCtorEq, Nat.reduceEqDiff, Nat.reduceAdd, Int.reduceLT, Int.reduceLE, Int.reduceNeg, Int.reduceEq, Nat.reduceLT, Nat.reduceSub, Nat.reduceMul, Nat.reduceBEq, Nat.reduceLeDiff, Int.reduceBEq, Int.reduceBNe, Int.reduceToNat, ne_eq, implies_true, bA]
              refine callM (cut_i (hole := inR q.fr (n : Int)) (f := 53) (cap := [.ref ob.length 0, .ref (ob.length + 2) 0]) (apL hsp _) (apL hmp _) hmok fun ob' hk x hx => ?_) ?_
              · have hkp : 0 ≤ x.2.1 ∧ x.2.1 < e.s.size := by
                  obtain ⟨y, hy, hye⟩ := List.mem_map.1 ((h.secP he).mem_iff.1 (List.mem_map_of_mem (f := fun x : Nat × Int × PV => x.2.1) hx))
                  have := hsec.rng y hy
                  rw [key_sc] at hye
                  omega
                refine sectors_c1_i (q := q) ?_ ?_ ⟨hkp.1, by omega⟩ ⟨by omega, by omega⟩
                · rw [hk _ (by omega) (by simp), ap0]; rfl
                · rw [hk _ (by omega) (by simp), ap2]; rfl
              · rintro r ob' ⟨ex, rfl⟩
                have q0 := sx0 ob e.sm
                have q1 := sx1 hlm
                have qy1 := sy1 ob e.sm
                have qz1 := sz1 ob e.sm
                have qA := sA hlm
                simp (config := {maxSteps := 4000000}) only [U_model_Model_sectors, qA, qy1, qz1, reduceIte, reduceCtorEq, Nat.reduceEqDiff, Nat.reduceAdd, Int.reduceLT, Int.reduceLE, Int.reduceNeg, Int.reduceEq, Nat.reduceLT, Nat.reduceSub, Nat.reduceMul, Nat.reduceBEq, Nat.reduceLeDiff, Int.reduceBEq, Int.reduceBNe, Int.reduceToNat, ne_eq, implies_true, bA]
                refine ⟨_, rfl, h.wit (S' := cutS e.s.S q.fr (q.fr + (n : Int))) ?_ (q1 _ _) (by simp) (fun i h2 h3 h4 => by rw [sx4 h3 h4]) (hmok.sub List.filter_sublist) (hrel.cut fun k _ => ?_) ?_⟩
                · rw [sx4 hne hls, hsp]
                · unfold inR
                  by_cases c : q.fr ≤ k
                  · by_cases c' : k - q.fr < (n : Int)
                    · have a1 : ¬ k < q.fr := by omega
                      have a2 : ¬ q.fr + (n : Int) ≤ k := by omega
                      simp [c, c', a1, a2]
                    · have a1 : ¬ k < q.fr := by omega
                      have a2 : q.fr + (n : Int) ≤ k := by omega
                      simp [c, c', a1, a2]
                  · have a1 : k < q.fr := by omega
                    simp [c, a1]
                · refine h.vol.put (a := e.s) heA rfl hszs (hsec.filter _) ?_
                  have := cutS_len e.s.S q.fr (q.fr + (n : Int))
                  simp only
                  omega
            · have d6 : (q.op == 6) = false := by simpa using c6
              rw [if_neg c6]
              have hlay := lay_i (ob := ob ++ [.box (rowQ q), .box [.int .i64 0, .str [], .int .i64 0, .int .i64 0, .slc []], .box [.int .i64 (n : Int)]]) (h.keep fun i hi => List.getElem?_append_left (h.lt i hi)) q (n := n) (D := if q.op = 4 then pieces q.d n else List.replicate n blankB)
                (by split <;> simp [pieces_len]) (by omega) (by omega) hq
                (fun c4 => by
                  have h2 := hB2.2.2
                  have h3 := hnn
                  rw [wN, if_pos c4] at h3
                  exact ⟨by omega, by rw [if_pos c4]⟩) (fun c4 => by rw [if_neg c4])
              simp (config := {maxSteps := 4000000}) only [U_model_Model_sectors, ap0, ap1, ap2, st1, st2, d1, d2, d3, e1, hsA, d7, d6, reduceIte, reduceCtorEq, Nat.reduceEqDiff, Nat.reduceAdd, Int.reduceLT, Int.reduceLE, Int.reduceNeg, Int.reduceEq, Nat.reduceLT, Nat.reduceSub, Nat.reduceMul, Nat.reduceBEq, Nat.reduceLeDiff, Int.reduceBEq, Int.reduceBNe, Int.reduceToNat, ne_eq, implies_true, bA]
              refine callM hlay ?_
              intro r ob' hm
              obtain ⟨rfl, hg, hm2⟩ := Mut.wrap h.lt hm (j := ob.length + 1) (by omega) (by simp)
              rw [ap1] at hg
              simp only [List.getElem?_cons_succ, List.getElem?_cons_zero] at hg
              have hg2 := fun x => show (ob'.set (ob.length + 1) x)[ob.length + 1]? = some x by rw [List.getElem?_set_self (lt_of_get hg)]
              simp (config := {maxSteps := 4000000}) only [U_model_Model_sectors, hg, hg2, reduceIte, reduceCtorEq, Nat.reduceEqDiff, Nat.reduceAdd, Int.reduceLT, Int.reduceLE, Int.reduceNeg, Int.reduceEq, Nat.reduceLT, Nat.reduceSub, Nat.reduceMul, Nat.reduceBEq, Nat.reduceLeDiff, Int.reduceBEq, Int.reduceBNe, Int.reduceToNat, ne_eq, implies_true, bA]
              exact ⟨_, rfl, rfl, (hm2 _).2⟩

/- lists of numbers -/
theorem keysV_i (ob : List AObj) (m : Nat) : ICall Try.prog 44 [.mp m] ob fun r ob' => r = .fn (.func 68) [] [.ref ob.length 0] ∧ ob' = ob ++ [.box [.mp m]] := by
  refine icall_dr Try.func44 comp_maps_Keys_model_space ?_
  simp (config := {maxSteps := 4000000}) only [U_maps_Keys_model_space, reduceIte, reduceCtorEq, Nat.reduceEqDiff, Nat.reduceAdd, Int.reduceLT, Int.reduceLE, Int.reduceNeg, Int.reduceEq, Nat.reduceLT, Nat.reduceSub, Nat.reduceMul, Nat.reduceBEq, Nat.reduceLeDiff, Int.reduceBEq, Int.reduceBNe, Int.reduceToNat, ne_eq, implies_true, bA]
  exact ⟨_, rfl, rfl⟩
theorem keysS_i (ob : List AObj) (m : Nat) : ICall Try.prog 45 [.mp m] ob fun r ob' => r = .fn (.func 69) [] [.ref ob.length 0] ∧ ob' = ob ++ [.box [.mp m]] := by
  refine icall_dr Try.func45 comp_maps_Keys_string ?_
  simp (config := {maxSteps := 4000000}) only [U_maps_Keys_string, reduceIte, reduceCtorEq, Nat.reduceEqDiff, Nat.reduceAdd, Int.reduceLT, Int.reduceLE, Int.reduceNeg, Int.reduceEq, Nat.reduceLT, Nat.reduceSub, Nat.reduceMul, Nat.reduceBEq, Nat.reduceLeDiff, Int.reduceBEq, Int.reduceBNe, Int.reduceToNat, ne_eq, implies_true, bA]
  exact ⟨_, rfl, rfl⟩
theorem ids_i {ob b m ck E cap A} (h : ModAt ob b m ck E cap A) : ICall Try.prog 20 [.ref b 0] ob fun r ob' => r = .osl (ob.length + 1) 0 A.length ∧ ob' = ob ++ [.box [.mp m], .list 1 (rowsZ .i64 (A.map (·.id)))] := by
  refine icall_dr Try.func20 comp_model_Model_IDs ?_
  have hb := h.hb
  have hs : sortK (E.map entM) = A.map (·.id) := keys_sort h.keysP h.vol.srt
  simp (config := {maxSteps := 4000000}) only [U_model_Model_IDs, hb, reduceIte, reduceCtorEq, Nat.reduceEqDiff, Nat.reduceAdd, Int.reduceLT, Int.reduceLE, Int.reduceNeg, Int.reduceEq, Nat.reduceLT, Nat.reduceSub, Nat.reduceMul, Nat.reduceBEq, Nat.reduceLeDiff, Int.reduceBEq, Int.reduceBNe, Int.reduceToNat, ne_eq, implies_true, bA]
  refine callM (keysV_i ob m) ?_
  rintro r ob' ⟨rfl, rfl⟩
  simp (config := {maxSteps := 4000000}) only [U_model_Model_IDs, reduceIte, reduceCtorEq, Nat.reduceEqDiff, Nat.reduceAdd, Int.reduceLT, Int.reduceLE, Int.reduceNeg, Int.reduceEq, Nat.reduceLT, Nat.reduceSub, Nat.reduceMul, Nat.reduceBEq, Nat.reduceLeDiff, Int.reduceBEq, Int.reduceBNe, Int.reduceToNat, ne_eq, implies_true, bA]
  refine callM (sortedV_icall (m := m) (ck := ck) (es := E.map entM) (by simp) (by rw [List.getElem?_append_left (lt_of_get h.hm)]; exact h.hm) h.ok) ?_
  rintro r ob' ⟨rfl, rfl⟩
  rw [hs]
  simp (config := {maxSteps := 4000000}) only [U_model_Model_IDs, reduceIte, reduceCtorEq, Nat.reduceEqDiff, Nat.reduceAdd, Int.reduceLT, Int.reduceLE, Int.reduceNeg, Int.reduceEq, Nat.reduceLT, Nat.reduceSub, Nat.reduceMul, Nat.reduceBEq, Nat.reduceLeDiff, Int.reduceBEq, Int.reduceBNe, Int.reduceToNat, ne_eq, implies_true, bA]
  exact ⟨_, rfl, by rw [h.len]⟩
theorem idsNil_i (ob : List AObj) : ICall Try.prog 20 [.nilp] ob fun r ob' => r = .slc [] ∧ ob' = ob := by
  refine icall_dr Try.func20 comp_model_Model_IDs ?_
  simp (config := {maxSteps := 4000000}) only [U_model_Model_IDs, reduceIte, reduceCtorEq, Nat.reduceEqDiff, Nat.reduceAdd, Int.reduceLT, Int.reduceLE, Int.reduceNeg, Int.reduceEq, Nat.reduceLT, Nat.reduceSub, Nat.reduceMul, Nat.reduceBEq, Nat.reduceLeDiff, Int.reduceBEq, Int.reduceBNe, Int.reduceToNat, ne_eq, implies_true, bA]
  exact ⟨_, rfl, rfl⟩
theorem at_i {ob b m ck E cap A} (h : ModAt ob b m ck E cap A) (id : Int) : ICall Try.prog 21 [.ref b 0, .int .i64 id] ob fun r ob' =>
    match getG id A with
    | none => r = .slc [] ∧ ob' = ob
    | some s => r = .osl (ob.length + 1) 0 s.S.length ∧ ∃ x, ob' = ob ++ [x, .list 1 (rowsZ .i64 (s.S.map (·.at_)))] := by
  refine icall_dr Try.func21 comp_model_Model_Sectors ?_
  have hb := h.hb
  have hm := h.hm
  cases hg : getG id A with
  | none =>
    have hk := h.getN hg
    simp (config := {maxSteps := 4000000}) only [U_model_Model_Sectors, hb, hm, hk, reduceIte, reduceCtorEq, Nat.reduceEqDiff, Nat.reduceAdd, Int.reduceLT, Int.reduceLE, Int.reduceNeg, Int.reduceEq, Nat.reduceLT, Nat.reduceSub, Nat.reduceMul, Nat.reduceBEq, Nat.reduceLeDiff, Int.reduceBEq, Int.reduceBNe, Int.reduceToNat, ne_eq, implies_true, bA]
    exact ⟨_, rfl, rfl⟩
  | some s =>
    obtain ⟨E1, e, E2, rfl, rfl, hk⟩ := h.get hg
    have he : e ∈ E1 ++ e :: E2 := mid_mem.2 (.inl rfl)
    have hsp := h.sp e he
    have hmp := h.mp e he
    have hs : sortK e.es = e.s.S.map (·.at_) := keys_sort (h.secP he) (h.vol.sec e.s (h.inA he)).srt
    simp (config := {maxSteps := 4000000}) only [U_model_Model_Sectors, hb, hm, hk, hsp, reduceIte, reduceCtorEq, Nat.reduceEqDiff, Nat.reduceAdd, Int.reduceLT, Int.reduceLE, Int.reduceNeg, Int.reduceEq, Nat.reduceLT, Nat.reduceSub, Nat.reduceMul, Nat.reduceBEq, Nat.reduceLeDiff, Int.reduceBEq, Int.reduceBNe, Int.reduceToNat, ne_eq, implies_true, bA]
    refine callM (keysS_i ob e.sm) ?_
    rintro r ob' ⟨rfl, rfl⟩
    simp (config := {maxSteps := 4000000}) only [U_model_Model_Sectors, reduceIte, reduceCtorEq, Nat.reduceEqDiff, Nat.reduceAdd, Int.reduceLT, Int.reduceLE, Int.reduceNeg, Int.reduceEq, Nat.reduceLT, Nat.reduceSub, Nat.reduceMul, Nat.reduceBEq, Nat.reduceLeDiff, Int.reduceBEq, Int.reduceBNe, Int.reduceToNat, ne_eq, implies_true, bA]
    refine callM (sortedS_icall (m := e.sm) (ck := e.ck) (es := e.es) (by simp) (by rw [List.getElem?_append_left (lt_of_get hmp)]; exact hmp) (h.mok e he)) ?_
    rintro r ob' ⟨rfl, rfl⟩
    rw [hs]
    simp (config := {maxSteps := 4000000}) only [U_model_Model_Sectors, reduceIte, reduceCtorEq, Nat.reduceEqDiff, Nat.reduceAdd, Int.reduceLT, Int.reduceLE, Int.reduceNeg, Int.reduceEq, Nat.reduceLT, Nat.reduceSub, Nat.reduceMul, Nat.reduceBEq, Nat.reduceLeDiff, Int.reduceBEq, Int.reduceBNe, Int.reduceToNat, ne_eq, implies_true, bA]
    exact ⟨_, rfl, by rw [h.slen he], _, rfl⟩
theorem atNil_i (ob : List AObj) (id : Int) : ICall Try.prog 21 [.nilp, .int .i64 id] ob fun r ob' => r = .slc [] ∧ ob' = ob := by
  refine icall_dr Try.func21 comp_model_Model_Sectors ?_
  simp (config := {maxSteps := 4000000}) only [U_model_Model_Sectors, reduceIte, reduceCtorEq, Nat.reduceEqDiff, Nat.reduceAdd, Int.reduceLT, Int.reduceLE, Int.reduceNeg, Int.reduceEq, Nat.reduceLT, Nat.reduceSub, Nat.reduceMul, Nat.reduceBEq, Nat.reduceLeDiff, Int.reduceBEq, Int.reduceBNe, Int.reduceToNat, ne_eq, implies_true, bA]
  exact ⟨_, rfl, rfl⟩
end Go.Proofs.Ythjnfjgejdlbfaa.Aw
