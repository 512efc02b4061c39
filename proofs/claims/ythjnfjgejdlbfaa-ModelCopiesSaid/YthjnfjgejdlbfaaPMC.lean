/-
  The model: reading; what is asked of sectors.; The model: what is asked of sectors; lists of numbers.; The model: what a request does, and what it answers.
-/
import Derived.Test.YthjnfjgejdlbfaaPMB
import Derived.Test.YthjnfjgejdlbfaaPBldM
import Derived.Test.YthjnfjgejdlbfaaPSortM
set_option linter.all false
set_option linter.unusedSimpArgs false
set_option linter.unusedVariables false
namespace Go.Proofs.Ythjnfjgejdlbfaa.Aw
open Go.RowKit

theorem ofSc_len {size : Int} {S : List Sc} (h : SecOk size S) (i : Int) : (ofSc S i).length = 32 := by
  unfold ofSc
  cases hg : getG i S with
  | none => rfl
  | some x => exact h.len x (getG_some hg).1
theorem readS_len {size : Int} {S : List Sc} (h : SecOk size S) (fr : Int) : ∀ n, (readS S fr n).length = 32 * n
  | 0 => rfl
  | n + 1 => by rw [readS, List.length_append, readS_len h fr n, ofSc_len h]; omega
theorem read_i {ob : List AObj} {sb sm ck : Nat} {es : Ents} {S : List Sc} {size : Int} (hs : ob[sb]? = some (.box [.int .i64 size, .mp sm])) (hm : ob[sm]? = some (.map ck es)) (rel : SecRel es S) (sec : SecOk size S)
    {fr : Int} {n : Nat} (h0 : 0 ≤ fr ∧ fr ≤ 16777216) (hn : n ≤ 8) :
    ICall Try.prog 52 [.ref sb 0, .int .i64 fr, .int .i64 (n : Int)] ob fun r ob' => r = repP 0 (readS S fr n) 0 0 (.slc []) ∧ ∃ ex, ob' = ob ++ ex := by
  refine icall_dr Try.func52 comp_model_space_read ?_
  have hsA := fun l => apL hs l
  have hmA := fun l => apL hm l
  simp (config := {maxSteps := 4000000}) only [U_model_space_read, st0, st1, reduceIte, reduceCtorEq, Nat.reduceEqDiff, Nat.reduceAdd, Int.reduceLT, Int.reduceLE, Int.reduceNeg, Int.reduceEq, Nat.reduceLT, Nat.reduceSub, Nat.reduceMul, Nat.reduceBEq, Nat.reduceLeDiff, Int.reduceBEq, Int.reduceBNe, Int.reduceToNat, ne_eq, implies_true, bA]
  refine loopF (fun i : Nat => ⟨ofL [(0, .ref sb 0), (1, .int .i64 fr), (6, .ref ob.length 0), (7, .ref (ob.length + 2) 0), (11, .int .i64 (n : Int)), (12, .int .i64 (i : Int))], ob ++ [.box [.int .i64 0, .str [], .int .i64 0, .int .i64 0, .slc []], .buf 5 (readS S fr i), .tbox 117 [if i = 0 then .nilp else .ref (ob.length + 2) 0, .osl (ob.length + 1) 0 (readS S fr i).length]]⟩)
    (fun i => i ≤ n) (fun i => n - i) 0 ?_ (Nat.zero_le _) ?_
  · simp (config := {maxSteps := 4000000}) only [U_model_space_read, reduceIte, reduceCtorEq, Nat.reduceEqDiff, Nat.reduceAdd, Int.reduceLT, Int.reduceLE, Int.reduceNeg, Int.reduceEq, Nat.reduceLT, Nat.reduceSub, Nat.reduceMul, Nat.reduceBEq, Nat.reduceLeDiff, Int.reduceBEq, Int.reduceBNe, Int.reduceToNat, ne_eq, implies_true, bA]
    rfl
  · intro i hi
    have hl := readS_len sec fr i
    by_cases hlt : i < n
    · have d : decide ((i : Int) < (n : Int)) = true := by simpa using hlt
      have e1 : IntKind.i64.wrap (fr + (i : Int)) = fr + (i : Int) := wrapI (by omega) (by omega)
      have e5 : IntKind.i64.wrap ((i : Int) + 1) = ((i + 1 : Nat) : Int) := by rw [wrapI (by omega) (by omega)]; omega
      have hp : (if i = 0 then PV.nilp else .ref (ob.length + 2) 0) = .nilp ∨ (if i = 0 then PV.nilp else .ref (ob.length + 2) 0) = .ref (ob.length + 2) 0 := by by_cases c : i = 0 <;> simp [c]
      have hrk := rel (fr + (i : Int))
      have hrs : readS S fr (i + 1) = readS S fr i ++ ofSc S (fr + (i : Int)) := rfl
      have hol := ofSc_len sec (fr + (i : Int))
      cases hg : getG (fr + (i : Int)) S with
      | none =>
        have hof : ofSc S (fr + (i : Int)) = blankB := by rw [ofSc, hg]
        rw [hg] at hrk
        simp only [Option.map_none] at hrk
        simp (config := {maxSteps := 4000000}) only [U_model_space_read, d, hsA, hmA, e1, hrk, reduceIte, reduceCtorEq, Nat.reduceEqDiff, Nat.reduceAdd, Int.reduceLT, Int.reduceLE, Int.reduceNeg, Int.reduceEq, Nat.reduceLT, Nat.reduceSub, Nat.reduceMul, Nat.reduceBEq, Nat.reduceLeDiff, Int.reduceBEq, Int.reduceBNe, Int.reduceToNat, ne_eq, implies_true, bA]
        refine callI blank_spec ?_
        simp (config := {maxSteps := 4000000}) only [U_model_space_read, reduceIte, reduceCtorEq, Nat.reduceEqDiff, Nat.reduceAdd, Int.reduceLT, Int.reduceLE, Int.reduceNeg, Int.reduceEq, Nat.reduceLT, Nat.reduceSub, Nat.reduceMul, Nat.reduceBEq, Nat.reduceLeDiff, Int.reduceBEq, Int.reduceBNe, Int.reduceToNat, ne_eq, implies_true, bA]
        refine callM (writeString_g hp (by omega) (by rw [← hof]; omega)) ?_
        rintro r ob' ⟨rfl, rfl⟩
        simp (config := {maxSteps := 4000000}) only [U_model_space_read, e5, reduceIte, reduceCtorEq, Nat.reduceEqDiff, Nat.reduceAdd, Int.reduceLT, Int.reduceLE, Int.reduceNeg, Int.reduceEq, Nat.reduceLT, Nat.reduceSub, Nat.reduceMul, Nat.reduceBEq, Nat.reduceLeDiff, Int.reduceBEq, Int.reduceBNe, Int.reduceToNat, ne_eq, implies_true, bA]
        refine ⟨i + 1, ?_, hlt, by omega⟩
        rw [hrs, hof, if_neg (by omega), List.length_append]
      | some x =>
        have hof : ofSc S (fr + (i : Int)) = x.dat := by rw [ofSc, hg]
        rw [hg] at hrk
        simp only [Option.map_some] at hrk
        simp (config := {maxSteps := 4000000}) only [U_model_space_read, d, hsA, hmA, e1, hrk, reduceIte, reduceCtorEq, Nat.reduceEqDiff, Nat.reduceAdd, Int.reduceLT, Int.reduceLE, Int.reduceNeg, Int.reduceEq, Nat.reduceLT, Nat.reduceSub, Nat.reduceMul, Nat.reduceBEq, Nat.reduceLeDiff, Int.reduceBEq, Int.reduceBNe, Int.reduceToNat, ne_eq, implies_true, bA]
        refine callM (writeString_g hp (by omega) (by rw [← hof]; omega)) ?_
        rintro r ob' ⟨rfl, rfl⟩
        simp (config := {maxSteps := 4000000}) only [U_model_space_read, e5, reduceIte, reduceCtorEq, Nat.reduceEqDiff, Nat.reduceAdd, Int.reduceLT, Int.reduceLE, Int.reduceNeg, Int.reduceEq, Nat.reduceLT, Nat.reduceSub, Nat.reduceMul, Nat.reduceBEq, Nat.reduceLeDiff, Int.reduceBEq, Int.reduceBNe, Int.reduceToNat, ne_eq, implies_true, bA]
        refine ⟨i + 1, ?_, hlt, by omega⟩
        rw [hrs, hof, if_neg (by omega), List.length_append]
    · have d : decide ((i : Int) < (n : Int)) = false := by simpa using hlt
      have hin : i = n := by omega
      subst hin
      simp (config := {maxSteps := 4000000}) only [U_model_space_read, d, reduceIte, reduceCtorEq, Nat.reduceEqDiff, Nat.reduceAdd, Int.reduceLT, Int.reduceLE, Int.reduceNeg, Int.reduceEq, Nat.reduceLT, Nat.reduceSub, Nat.reduceMul, Nat.reduceBEq, Nat.reduceLeDiff, Int.reduceBEq, Int.reduceBNe, Int.reduceToNat, ne_eq, implies_true, bA]
      refine callM (string_g (by omega)) ?_
      rintro r ob' ⟨rfl, rfl⟩
      simp (config := {maxSteps := 4000000}) only [U_model_space_read, ap0, st0, reduceIte, reduceCtorEq, Nat.reduceEqDiff, Nat.reduceAdd, Int.reduceLT, Int.reduceLE, Int.reduceNeg, Int.reduceEq, Nat.reduceLT, Nat.reduceSub, Nat.reduceMul, Nat.reduceBEq, Nat.reduceLeDiff, Int.reduceBEq, Int.reduceBNe, Int.reduceToNat, ne_eq, implies_true, bA]
      exact ⟨_, rfl, rfl, _, rfl⟩

/-- What is asked of sectors: the volume behind it, and the answer. -/
def secV (cap : Int) (A : List Spc) (s : Spc) (q : Rq) : List Spc × Int × List UInt8 :=
  if wB q = false then (A, 1, []) else
  if q.fr < 0 ∨ s.size < q.fr ∨ s.size - q.fr < wN q then (A, 82, []) else
  if q.op = 7 then (A, 0, readS s.S q.fr (wN q).toNat) else
  if q.op = 6 then (putV A ⟨s.id, s.size, cutS s.S q.fr (q.fr + wN q)⟩, 0, []) else
  let D := if q.op = 4 then pieces q.d (wN q).toNat else List.replicate (wN q).toNat blankB
  ((layV cap A s.id q.fr D).1, (layV cap A s.id q.fr D).2, [])
theorem Mod.at {ob fp b cap A} (h : Mod ob fp b cap A) : ∃ m ck E, ModAt ob b m ck E cap A ∧ fp = fpM b m E := h

theorem Mut.wrap {ob l ob' : List AObj} {fp : List Nat} {b : Nat} {cap : Int} {A' : List Spc} {res r : PV} (hfp : ∀ i ∈ fp, i < ob.length) (h : Mut (ob ++ l) fp b cap A' res r ob') {j : Nat} (hj : ob.length ≤ j) (hj2 : j < (ob ++ l).length) :
    r = res ∧ ob'[j]? = (ob ++ l)[j]? ∧ ∀ y, Mut ob fp b cap A' res res (ob'.set j y) := by
  obtain ⟨rfl, fp', hM, hF⟩ := h
  have hjn : j ∉ fp' := fun hc => by
    rcases hF.new j hc with h1 | h1
    · have := hfp j h1; omega
    · omega
  refine ⟨rfl, hF.out j hj2 (fun hc => by have := hfp j hc; omega), fun y => ⟨rfl, fp', hM.keep fun i hi => ?_, ?_, fun i hi hn => ?_, fun i hi => ?_⟩⟩
  · rw [List.getElem?_set_ne]; rintro rfl; exact hjn hi
  · have := hF.len; simp at this ⊢; omega
  · rw [List.getElem?_set_ne (by omega), hF.out i (by simp; omega) hn, List.getElem?_append_left hi]
  · rcases hF.new i hi with h1 | h1
    · exact .inl h1
    · right; simp at h1; omega
theorem ModAt.wit {ob ob' b m ck cap A} {E1 E2 : List SpE} {e : SpE} (h : ModAt ob b m ck (E1 ++ e :: E2) cap A) {size' : Int} {S' : List Sc} {ck' : Nat} {es' : Ents} {res : PV}
    (hsp : ob'[e.sb]? = some (.box [.int .i64 size', .mp e.sm])) (hmp : ob'[e.sm]? = some (.map ck' es')) (hl : ob.length ≤ ob'.length) (hout : ∀ i, i ≠ e.sb → i ≠ e.sm → i < ob.length → ob'[i]? = ob[i]?)
    (mok : MapOk ck' es') (rel : SecRel es' S') (vol : VolOk cap (putV A ⟨e.s.id, size', S'⟩)) : Mut ob (fpM b m (E1 ++ e :: E2)) b cap (putV A ⟨e.s.id, size', S'⟩) res res ob' := by
  have he : e ∈ E1 ++ e :: E2 := mid_mem.2 (.inl rfl)
  refine ⟨rfl, fpM b m (E1 ++ e :: E2), ⟨m, ck, _, h.upd hsp hmp hout mok rel vol, fpM_upd.symm⟩, hl, fun i hi hn => ?_, fun i hi => .inl hi⟩
  exact hout i (fun c => hn (mem_fpM.2 (.inr (.inr (.inl ⟨e, he, c.symm⟩))))) (fun c => hn (mem_fpM.2 (.inr (.inr (.inr ⟨e, he, c.symm⟩))))) hi

theorem sectors_i {ob b m ck cap A} {E1 E2 : List SpE} {e : SpE} (h : ModAt ob b m ck (E1 ++ e :: E2) cap A) (q : Rq) (hq : q.d.length ≤ 1000) :
    ICall Try.prog 31 [.ref b 0, .ref e.sb 0, pQ q] ob (Mut ob (fpM b m (E1 ++ e :: E2)) b cap (secV cap A e.s q).1 (repP (secV cap A e.s q).2.1 (secV cap A e.s q).2.2 0 0 (.slc []))) := by
  refine icall_dr Try.func31 comp_model_Model_sectors ?_
  have he : e ∈ E1 ++ e :: E2 := mid_mem.2 (.inl rfl)
  have heA := h.inA he
  have hsp := h.sp e he
  have hmp := h.mp e he
  have hmok := h.mok e he
  have hrel := h.rel e he
  have hsec := h.vol.sec e.s heA
  have hszs := h.vol.szs e.s heA
  have hls := lt_of_get hsp
  have hlm := lt_of_get hmp
  have hne : e.sb ≠ e.sm := fun c => by rw [c, hmp] at hsp; cases hsp
  have hsA := fun l => apL hsp l
  have hSle := usedV_mem h.vol.srt heA
  have huse := h.vol.use
  obtain ⟨nn, hnn⟩ : ∃ nn, wN q = nn := ⟨_, rfl⟩
  simp (config := {maxSteps := 4000000}) only [U_model_Model_sectors, ap0, ap1, hsA, reduceIte, reduceCtorEq, Nat.reduceEqDiff, Nat.reduceAdd, Int.reduceLT, Int.reduceLE, Int.reduceNeg, Int.reduceEq, Nat.reduceLT, Nat.reduceSub, Nat.reduceMul, Nat.reduceBEq, Nat.reduceLeDiff, Int.reduceBEq, Int.reduceBNe, Int.reduceToNat, ne_eq, implies_true, bA]
  refine callI (whole_spec q hq) ?_
  unfold secV
  rw [hnn]
  cases hB : wB q with
  | false =>
    rw [if_pos rfl]
    simp (config := {maxSteps := 4000000}) only [U_model_Model_sectors, ap0, ap1, ap2, st1, st2, reduceIte, reduceCtorEq, Nat.reduceEqDiff, Nat.reduceAdd, Int.reduceLT, Int.reduceLE, Int.reduceNeg, Int.reduceEq, Nat.reduceLT, Nat.reduceSub, Nat.reduceMul, Nat.reduceBEq, Nat.reduceLeDiff, Int.reduceBEq, Int.reduceBNe, Int.reduceToNat, ne_eq, implies_true, bA]
    refine callI (fail_spec 1) ?_
    simp (config := {maxSteps := 4000000}) only [U_model_Model_sectors, ap0, ap1, ap2, st1, st2, reduceIte, reduceCtorEq, Nat.reduceEqDiff, Nat.reduceAdd, Int.reduceLT, Int.reduceLE, Int.reduceNeg, Int.reduceEq, Nat.reduceLT, Nat.reduceSub, Nat.reduceMul, Nat.reduceBEq, Nat.reduceLeDiff, Int.reduceBEq, Int.reduceBNe, Int.reduceToNat, ne_eq, implies_true, bA]
    exact ⟨_, rfl, Mut.ext h⟩
  | true =>
    rw [if_neg (by simp)]
    have hB2 := hB
    rw [wB, hnn] at hB2
    simp only [Bool.and_eq_true, decide_eq_true_eq] at hB2
    have hn1 := hB2.1
    by_cases c1 : q.fr < 0
    · have d1 : decide (q.fr < 0) = true := by simpa using c1
      rw [if_pos (.inl c1)]
      simp (config := {maxSteps := 4000000}) only [U_model_Model_sectors, ap0, ap1, ap2, st1, st2, d1, hsA, reduceIte, reduceCtorEq, Nat.reduceEqDiff, Nat.reduceAdd, Int.reduceLT, Int.reduceLE, Int.reduceNeg, Int.reduceEq, Nat.reduceLT, Nat.reduceSub, Nat.reduceMul, Nat.reduceBEq, Nat.reduceLeDiff, Int.reduceBEq, Int.reduceBNe, Int.reduceToNat, ne_eq, implies_true, bA]
      refine callI (fail_spec 82) ?_
      simp (config := {maxSteps := 4000000}) only [U_model_Model_sectors, ap0, ap1, ap2, st1, st2, reduceIte, reduceCtorEq, Nat.reduceEqDiff, Nat.reduceAdd, Int.reduceLT, Int.reduceLE, Int.reduceNeg, Int.reduceEq, Nat.reduceLT, Nat.reduceSub, Nat.reduceMul, Nat.reduceBEq, Nat.reduceLeDiff, Int.reduceBEq, Int.reduceBNe, Int.reduceToNat, ne_eq, implies_true, bA]
      exact ⟨_, rfl, Mut.ext h⟩
    · have d1 : decide (q.fr < 0) = false := by simpa using c1
      by_cases c2 : e.s.size < q.fr
      · have d2 : decide (e.s.size < q.fr) = true := by simpa using c2
        rw [if_pos (.inr (.inl c2))]
        simp (config := {maxSteps := 4000000}) only [U_model_Model_sectors, ap0, ap1, ap2, st1, st2, d1, d2, hsA, reduceIte, reduceCtorEq, Nat.reduceEqDiff, Nat.reduceAdd, Int.reduceLT, Int.reduceLE, Int.reduceNeg, Int.reduceEq, Nat.reduceLT, Nat.reduceSub, Nat.reduceMul, Nat.reduceBEq, Nat.reduceLeDiff, Int.reduceBEq, Int.reduceBNe, Int.reduceToNat, ne_eq, implies_true, bA]
        refine callI (fail_spec 82) ?_
        simp (config := {maxSteps := 4000000}) only [U_model_Model_sectors, ap0, ap1, ap2, st1, st2, reduceIte, reduceCtorEq, Nat.reduceEqDiff, Nat.reduceAdd, Int.reduceLT, Int.reduceLE, Int.reduceNeg, Int.reduceEq, Nat.reduceLT, Nat.reduceSub, Nat.reduceMul, Nat.reduceBEq, Nat.reduceLeDiff, Int.reduceBEq, Int.reduceBNe, Int.reduceToNat, ne_eq, implies_true, bA]
        exact ⟨_, rfl, Mut.ext h⟩
      · have d2 : decide (e.s.size < q.fr) = false := by simpa using c2
        have e1 : IntKind.i64.wrap (e.s.size - q.fr) = e.s.size - q.fr := wrapI (by omega) (by omega)
        by_cases c3 : e.s.size - q.fr < nn
        · have d3 : decide (e.s.size - q.fr < nn) = true := by simpa using c3
          rw [if_pos (.inr (.inr c3))]
          simp (config := {maxSteps := 4000000}) only [U_model_Model_sectors, ap0, ap1, ap2, st1, st2, d1, d2, d3, e1, hsA, reduceIte, reduceCtorEq, Nat.reduceEqDiff, Nat.reduceAdd, Int.reduceLT, Int.reduceLE, Int.reduceNeg, Int.reduceEq, Nat.reduceLT, Nat.reduceSub, Nat.reduceMul, Nat.reduceBEq, Nat.reduceLeDiff, Int.reduceBEq, Int.reduceBNe, Int.reduceToNat, ne_eq, implies_true, bA]
          refine callI (fail_spec 82) ?_
          simp (config := {maxSteps := 4000000}) only [U_model_Model_sectors, ap0, ap1, ap2, st1, st2, reduceIte, reduceCtorEq, Nat.reduceEqDiff, Nat.reduceAdd, Int.reduceLT, Int.reduceLE, Int.reduceNeg, Int.reduceEq, Nat.reduceLT, Nat.reduceSub, Nat.reduceMul, Nat.reduceBEq, Nat.reduceLeDiff, Int.reduceBEq, Int.reduceBNe, Int.reduceToNat, ne_eq, implies_true, bA]
          exact ⟨_, rfl, Mut.ext h⟩
        · have d3 : decide (e.s.size - q.fr < nn) = false := by simpa using c3
          rw [if_neg (by omega)]
          obtain ⟨n, rfl⟩ : ∃ n : Nat, nn = (n : Int) := ⟨nn.toNat, by omega⟩
          rw [Int.toNat_natCast]
          by_cases c7 : q.op = 7
          · have d7 : (q.op == 7) = true := by simpa using c7
            have hn8 : (n : Int) ≤ 8 := by
              have := hB2.2.1
              rw [c7] at this
              simpa using this
            rw [if_pos c7]
            simp (config := {maxSteps := 4000000}) only [U_model_Model_sectors, ap0, ap1, ap2, st1, st2, d1, d2, d3, e1, hsA, d7, reduceIte, reduceCtorEq, Nat.reduceEqDiff, Nat.reduceAdd, Int.reduceLT, Int.reduceLE, Int.reduceNeg, Int.reduceEq, Nat.reduceLT, Nat.reduceSub, Nat.reduceMul, Nat.reduceBEq, Nat.reduceLeDiff, Int.reduceBEq, Int.reduceBNe, Int.reduceToNat, ne_eq, implies_true, bA]
            refine callM (read_i (apL hsp _) (apL hmp _) hrel hsec ⟨by omega, by omega⟩ (by omega)) ?_
            rintro r ob' ⟨rfl, ex, rfl⟩
            simp (config := {maxSteps := 4000000}) only [U_model_Model_sectors, ap0, ap1, ap2, st1, st2, reduceIte, reduceCtorEq, Nat.reduceEqDiff, Nat.reduceAdd, Int.reduceLT, Int.reduceLE, Int.reduceNeg, Int.reduceEq, Nat.reduceLT, Nat.reduceSub, Nat.reduceMul, Nat.reduceBEq, Nat.reduceLeDiff, Int.reduceBEq, Int.reduceBNe, Int.reduceToNat, ne_eq, implies_true, bA]
            exact ⟨_, rfl, Mut.ext h⟩
          · have d7 : (q.op == 7) = false := by simpa using c7
            rw [if_neg c7]
            by_cases c6 : q.op = 6
            · have d6 : (q.op == 6) = true := by simpa using c6
              rw [if_pos c6]
              simp (config := {maxSteps := 4000000}) only [U_model_Model_sectors, ap0, ap1, ap2, st1, st2, d1, d2, d3, e1, hsA, d7, d6, reduceIte, reduceCtorEq, Nat.reduceEqDiff, Nat.reduceAdd, Int.reduceLT, Int.reduceLE, Int.reduceNeg, Int.reduceEq, Nat.reduceLT, Nat.reduceSub, Nat.reduceMul, Nat.reduceBEq, Nat.reduceLeDiff, Int.reduceBEq, Int.reduceBNe, Int.reduceToNat, ne_eq, implies_true, bA]
              refine callM (cut_i (hole := inR q.fr (n : Int)) (f := 53) (cap := [.ref ob.length 0, .ref (ob.length + 2) 0]) (apL hsp _) (apL hmp _) hmok fun ob' hk x hx => ?_) ?_
              · have hkp : 0 ≤ x.2.1 ∧ x.2.1 < e.s.size := by
                  obtain ⟨y, hy, hye⟩ := List.mem_map.1 ((h.secP he).mem_iff.1 (List.mem_map_of_mem (f := fun x : Nat × Int × PV => x.2.1) hx))
                  have := hsec.rng y hy
                  rw [key_sc] at hye
                  omega
                refine sectors_c1_i (q := q) ?_ ?_ ⟨hkp.1, by omega⟩ ⟨by omega, by omega⟩
                · rw [hk _ (by omega) (by simp), ap0]; rfl
                · rw [hk _ (by omega) (by simp), ap2]; rfl
              · rintro r ob' ⟨ex, rfl⟩
                have q0 := sx0 ob e.sm
                have q1 := sx1 hlm
                have qy1 := sy1 ob e.sm
                have qz1 := sz1 ob e.sm
                have qA := sA hlm
                simp (config := {maxSteps := 4000000}) only [U_model_Model_sectors, qA, qy1, qz1, reduceIte, reduceCtorEq, Nat.reduceEqDiff, Nat.reduceAdd, Int.reduceLT, Int.reduceLE, Int.reduceNeg, Int.reduceEq, Nat.reduceLT, Nat.reduceSub, Nat.reduceMul, Nat.reduceBEq, Nat.reduceLeDiff, Int.reduceBEq, Int.reduceBNe, Int.reduceToNat, ne_eq, implies_true, bA]
                refine ⟨_, rfl, h.wit (S' := cutS e.s.S q.fr (q.fr + (n : Int))) ?_ (q1 _ _) (by simp) (fun i h2 h3 h4 => by rw [sx4 h3 h4]) (hmok.sub List.filter_sublist) (hrel.cut fun k _ => ?_) ?_⟩
                · rw [sx4 hne hls, hsp]
                · unfold inR
                  by_cases c : q.fr ≤ k
                  · by_cases c' : k - q.fr < (n : Int)
                    · have a1 : ¬ k < q.fr := by omega
                      have a2 : ¬ q.fr + (n : Int) ≤ k := by omega
                      simp [c, c', a1, a2]
                    · have a1 : ¬ k < q.fr := by omega
                      have a2 : q.fr + (n : Int) ≤ k := by omega
                      simp [c, c', a1, a2]
                  · have a1 : k < q.fr := by omega
                    simp [c, a1]
                · refine h.vol.put (a := e.s) heA rfl hszs (hsec.filter _) ?_
                  have := cutS_len e.s.S q.fr (q.fr + (n : Int))
                  simp only
                  omega
            · have d6 : (q.op == 6) = false := by simpa using c6
              rw [if_neg c6]
              have hlay := lay_i (ob := ob ++ [.box (rowQ q), .box [.int .i64 0, .str [], .int .i64 0, .int .i64 0, .slc []], .box [.int .i64 (n : Int)]]) (h.keep fun i hi => List.getElem?_append_left (h.lt i hi)) q (n := n) (D := if q.op = 4 then pieces q.d n else List.replicate n blankB)
                (by split <;> simp [pieces_len]) (by omega) (by omega) hq
                (fun c4 => by
                  have h2 := hB2.2.2
                  have h3 := hnn
                  rw [wN, if_pos c4] at h3
                  exact ⟨by omega, by rw [if_pos c4]⟩) (fun c4 => by rw [if_neg c4])
              simp (config := {maxSteps := 4000000}) only [U_model_Model_sectors, ap0, ap1, ap2, st1, st2, d1, d2, d3, e1, hsA, d7, d6, reduceIte, reduceCtorEq, Nat.reduceEqDiff, Nat.reduceAdd, Int.reduceLT, Int.reduceLE, Int.reduceNeg, Int.reduceEq, Nat.reduceLT, Nat.reduceSub, Nat.reduceMul, Nat.reduceBEq, Nat.reduceLeDiff, Int.reduceBEq, Int.reduceBNe, Int.reduceToNat, ne_eq, implies_true, bA]
              refine callM hlay ?_
              intro r ob' hm
              obtain ⟨rfl, hg, hm2⟩ := Mut.wrap h.lt hm (j := ob.length + 1) (by omega) (by simp)
              rw [ap1] at hg
              simp only [List.getElem?_cons_succ, List.getElem?_cons_zero] at hg
              have hg2 := fun x => show (ob'.set (ob.length + 1) x)[ob.length + 1]? = some x by rw [List.getElem?_set_self (lt_of_get hg)]
              simp (config := {maxSteps := 4000000}) only [U_model_Model_sectors, hg, hg2, reduceIte, reduceCtorEq, Nat.reduceEqDiff, Nat.reduceAdd, Int.reduceLT, Int.reduceLE, Int.reduceNeg, Int.reduceEq, Nat.reduceLT, Nat.reduceSub, Nat.reduceMul, Nat.reduceBEq, Nat.reduceLeDiff, Int.reduceBEq, Int.reduceBNe, Int.reduceToNat, ne_eq, implies_true, bA]
              exact ⟨_, rfl, rfl, (hm2 _).2⟩

/- lists of numbers -/
theorem keysV_i (ob : List AObj) (m : Nat) : ICall Try.prog 44 [.mp m] ob fun r ob' => r = .fn (.func 68) [] [.ref ob.length 0] ∧ ob' = ob ++ [.box [.mp m]] := by
  refine icall_dr Try.func44 comp_maps_Keys_model_space ?_
  simp (config := {maxSteps := 4000000}) only [U_maps_Keys_model_space, reduceIte, reduceCtorEq, Nat.reduceEqDiff, Nat.reduceAdd, Int.reduceLT, Int.reduceLE, Int.reduceNeg, Int.reduceEq, Nat.reduceLT, Nat.reduceSub, Nat.reduceMul, Nat.reduceBEq, Nat.reduceLeDiff, Int.reduceBEq, Int.reduceBNe, Int.reduceToNat, ne_eq, implies_true, bA]
  exact ⟨_, rfl, rfl⟩
theorem keysS_i (ob : List AObj) (m : Nat) : ICall Try.prog 45 [.mp m] ob fun r ob' => r = .fn (.func 69) [] [.ref ob.length 0] ∧ ob' = ob ++ [.box [.mp m]] := by
  refine icall_dr Try.func45 comp_maps_Keys_string ?_
  simp (config := {maxSteps := 4000000}) only [U_maps_Keys_string, reduceIte, reduceCtorEq, Nat.reduceEqDiff, Nat.reduceAdd, Int.reduceLT, Int.reduceLE, Int.reduceNeg, Int.reduceEq, Nat.reduceLT, Nat.reduceSub, Nat.reduceMul, Nat.reduceBEq, Nat.reduceLeDiff, Int.reduceBEq, Int.reduceBNe, Int.reduceToNat, ne_eq, implies_true, bA]
  exact ⟨_, rfl, rfl⟩
theorem ids_i {ob b m ck E cap A} (h : ModAt ob b m ck E cap A) : ICall Try.prog 20 [.ref b 0] ob fun r ob' => r = .osl (ob.length + 1) 0 A.length ∧ ob' = ob ++ [.box [.mp m], .list 1 (rowsZ .i64 (A.map (·.id)))] := by
  refine icall_dr Try.func20 comp_model_Model_IDs ?_
  have hb := h.hb
  have hs : sortK (E.map entM) = A.map (·.id) := keys_sort h.keysP h.vol.srt
  simp (config := {maxSteps := 4000000}) only [U_model_Model_IDs, hb, reduceIte, reduceCtorEq, Nat.reduceEqDiff, Nat.reduceAdd, Int.reduceLT, Int.reduceLE, Int.reduceNeg, Int.reduceEq, Nat.reduceLT, Nat.reduceSub, Nat.reduceMul, Nat.reduceBEq, Nat.reduceLeDiff, Int.reduceBEq, Int.reduceBNe, Int.reduceToNat, ne_eq, implies_true, bA]
  refine callM (keysV_i ob m) ?_
  rintro r ob' ⟨rfl, rfl⟩
  simp (config := {maxSteps := 4000000}) only [U_model_Model_IDs, reduceIte, reduceCtorEq, Nat.reduceEqDiff, Nat.reduceAdd, Int.reduceLT, Int.reduceLE, Int.reduceNeg, Int.reduceEq, Nat.reduceLT, Nat.reduceSub, Nat.reduceMul, Nat.reduceBEq, Nat.reduceLeDiff, Int.reduceBEq, Int.reduceBNe, Int.reduceToNat, ne_eq, implies_true, bA]
  refine callM (sortedV_icall (m := m) (ck := ck) (es := E.map entM) (by simp) (by rw [List.getElem?_append_left (lt_of_get h.hm)]; exact h.hm) h.ok) ?_
  rintro r ob' ⟨rfl, rfl⟩
  rw [hs]
  simp (config := {maxSteps := 4000000}) only [U_model_Model_IDs, reduceIte, reduceCtorEq, Nat.reduceEqDiff, Nat.reduceAdd, Int.reduceLT, Int.reduceLE, Int.reduceNeg, Int.reduceEq, Nat.reduceLT, Nat.reduceSub, Nat.reduceMul, Nat.reduceBEq, Nat.reduceLeDiff, Int.reduceBEq, Int.reduceBNe, Int.reduceToNat, ne_eq, implies_true, bA]
  exact ⟨_, rfl, by rw [h.len]⟩
theorem idsNil_i (ob : List AObj) : ICall Try.prog 20 [.nilp] ob fun r ob' => r = .slc [] ∧ ob' = ob := by
  refine icall_dr Try.func20 comp_model_Model_IDs ?_
  simp (config := {maxSteps := 4000000}) only [U_model_Model_IDs, reduceIte, reduceCtorEq, Nat.reduceEqDiff, Nat.reduceAdd, Int.reduceLT, Int.reduceLE, Int.reduceNeg, Int.reduceEq, Nat.reduceLT, Nat.reduceSub, Nat.reduceMul, Nat.reduceBEq, Nat.reduceLeDiff, Int.reduceBEq, Int.reduceBNe, Int.reduceToNat, ne_eq, implies_true, bA]
  exact ⟨_, rfl, rfl⟩
theorem at_i {ob b m ck E cap A} (h : ModAt ob b m ck E cap A) (id : Int) : ICall Try.prog 21 [.ref b 0, .int .i64 id] ob fun r ob' =>
    match getG id A with
    | none => r = .slc [] ∧ ob' = ob
    | some s => r = .osl (ob.length + 1) 0 s.S.length ∧ ∃ x, ob' = ob ++ [x, .list 1 (rowsZ .i64 (s.S.map (·.at_)))] := by
  refine icall_dr Try.func21 comp_model_Model_Sectors ?_
  have hb := h.hb
  have hm := h.hm
  cases hg : getG id A with
  | none =>
    have hk := h.getN hg
    simp (config := {maxSteps := 4000000}) only [U_model_Model_Sectors, hb, hm, hk, reduceIte, reduceCtorEq, Nat.reduceEqDiff, Nat.reduceAdd, Int.reduceLT, Int.reduceLE, Int.reduceNeg, Int.reduceEq, Nat.reduceLT, Nat.reduceSub, Nat.reduceMul, Nat.reduceBEq, Nat.reduceLeDiff, Int.reduceBEq, Int.reduceBNe, Int.reduceToNat, ne_eq, implies_true, bA]
    exact ⟨_, rfl, rfl⟩
  | some s =>
    obtain ⟨E1, e, E2, rfl, rfl, hk⟩ := h.get hg
    have he : e ∈ E1 ++ e :: E2 := mid_mem.2 (.inl rfl)
    have hsp := h.sp e he
    have hmp := h.mp e he
    have hs : sortK e.es = e.s.S.map (·.at_) := keys_sort (h.secP he) (h.vol.sec e.s (h.inA he)).srt
    simp (config := {maxSteps := 4000000}) only [U_model_Model_Sectors, hb, hm, hk, hsp, reduceIte, reduceCtorEq, Nat.reduceEqDiff, Nat.reduceAdd, Int.reduceLT, Int.reduceLE, Int.reduceNeg, Int.reduceEq, Nat.reduceLT, Nat.reduceSub, Nat.reduceMul, Nat.reduceBEq, Nat.reduceLeDiff, Int.reduceBEq, Int.reduceBNe, Int.reduceToNat, ne_eq, implies_true, bA]
    refine callM (keysS_i ob e.sm) ?_
    rintro r ob' ⟨rfl, rfl⟩
    simp (config := {maxSteps := 4000000}) only [U_model_Model_Sectors, reduceIte, reduceCtorEq, Nat.reduceEqDiff, Nat.reduceAdd, Int.reduceLT, Int.reduceLE, Int.reduceNeg, Int.reduceEq, Nat.reduceLT, Nat.reduceSub, Nat.reduceMul, Nat.reduceBEq, Nat.reduceLeDiff, Int.reduceBEq, Int.reduceBNe, Int.reduceToNat, ne_eq, implies_true, bA]
    refine callM (sortedS_icall (m := e.sm) (ck := e.ck) (es := e.es) (by simp) (by rw [List.getElem?_append_left (lt_of_get hmp)]; exact hmp) (h.mok e he)) ?_
    rintro r ob' ⟨rfl, rfl⟩
    rw [hs]
    simp (config := {maxSteps := 4000000}) only [U_model_Model_Sectors, reduceIte, reduceCtorEq, Nat.reduceEqDiff, Nat.reduceAdd, Int.reduceLT, Int.reduceLE, Int.reduceNeg, Int.reduceEq, Nat.reduceLT, Nat.reduceSub, Nat.reduceMul, Nat.reduceBEq, Nat.reduceLeDiff, Int.reduceBEq, Int.reduceBNe, Int.reduceToNat, ne_eq, implies_true, bA]
    exact ⟨_, rfl, by rw [h.slen he], _, rfl⟩
theorem atNil_i (ob : List AObj) (id : Int) : ICall Try.prog 21 [.nilp, .int .i64 id] ob fun r ob' => r = .slc [] ∧ ob' = ob := by
  refine icall_dr Try.func21 comp_model_Model_Sectors ?_
  simp (config := {maxSteps := 4000000}) only [U_model_Model_Sectors, reduceIte, reduceCtorEq, Nat.reduceEqDiff, Nat.reduceAdd, Int.reduceLT, Int.reduceLE, Int.reduceNeg, Int.reduceEq, Nat.reduceLT, Nat.reduceSub, Nat.reduceMul, Nat.reduceBEq, Nat.reduceLeDiff, Int.reduceBEq, Int.reduceBNe, Int.reduceToNat, ne_eq, implies_true, bA]
  exact ⟨_, rfl, rfl⟩

structure Ans where
  e : Int
  d : List UInt8
  sz : Int
  us : Int
def doV (cap : Int) (A : List Spc) (q : Rq) : List Spc × Ans :=
  if q.op < 1 ∨ 10 < q.op ∨ (q.op = 2 ∧ (q.n < 0 ∨ 16777216 < q.n)) then (A, ⟨1, [], 0, 0⟩) else
  if q.op = 1 then ((createV A q.id q.n).1, ⟨(createV A q.id q.n).2, [], 0, 0⟩) else
  if q.op = 8 then (A, ⟨0, [], 0, 0⟩) else
  if q.op = 10 then (A, ⟨0, [], cap, usedV A⟩) else
  match getG q.id A with
  | none => (A, ⟨4, [], 0, 0⟩)
  | some s =>
    if q.op = 2 then (putV A ⟨q.id, q.n, cutS s.S q.n 16777216⟩, ⟨0, [], 0, 0⟩) else
    if q.op = 3 then (delG q.id A, ⟨0, [], 0, 0⟩) else
    if q.op = 9 then (A, ⟨0, [], s.size, (s.S.length : Int)⟩) else
    ((secV cap A s q).1, ⟨(secV cap A s q).2.1, (secV cap A s q).2.2, 0, 0⟩)
/-- What a request does to a model. -/
def MutD (ob : List AObj) (fp : List Nat) (b : Nat) (cap : Int) (A : List Spc) (q : Rq) (r : PV) (ob' : List AObj) : Prop :=
  ∃ ids fp', r = repP (doV cap A q).2.e (doV cap A q).2.d (doV cap A q).2.sz (doV cap A q).2.us ids ∧ Mod ob' fp' b cap (doV cap A q).1 ∧ Frame ob fp ob' fp' ∧
    (q.op ≠ 10 → ids = .slc []) ∧ (q.op = 10 → ∃ j, ids = .osl j 0 A.length ∧ ob'[j]? = some (.list 1 (rowsZ .i64 (A.map (·.id)))) ∧ ob.length ≤ j ∧ j ∉ fp')
theorem MutD.of {ob ob' fp b cap A q} {A' : List Spc} {a : Ans} (hd : doV cap A q = (A', a)) (h10 : q.op ≠ 10) (h : Mut ob fp b cap A' (repP a.e a.d a.sz a.us (.slc [])) (repP a.e a.d a.sz a.us (.slc [])) ob') : MutD ob fp b cap A q (repP a.e a.d a.sz a.us (.slc [])) ob' := by
  obtain ⟨_, fp', hM, hF⟩ := h
  refine ⟨_, fp', by rw [hd], by rw [hd]; exact hM, hF, fun _ => rfl, fun h => absurd h h10⟩

set_option maxHeartbeats 1000000 in
theorem do_i' {ob b m ck E cap A} (h : ModAt ob b m ck E cap A) (q : Rq) (hq : q.d.length ≤ 1000) : ICall Try.prog 12 [.ref b 0, pQ q] ob (MutD ob (fpM b m E) b cap A q) := by
  refine icall_dr Try.func12 comp_model_Model_Do ?_
  have hbA := fun l => apL h.hb l
  have hmA := fun l => apL h.hm l
  have hlm := lt_of_get h.hm
  have hlb := lt_of_get h.hb
  have hqA := sA hlm
  by_cases c0 : q.op < 1 ∨ 10 < q.op
  · have hd : doV cap A q = (A, ⟨1, [], 0, 0⟩) := if_pos (by omega)
    simp (config := {maxSteps := 4000000}) only [U_model_Model_Do, ap0, ap1, reduceIte, reduceCtorEq, Nat.reduceEqDiff, Nat.reduceAdd, Int.reduceLT, Int.reduceLE, Int.reduceNeg, Int.reduceEq, Nat.reduceLT, Nat.reduceSub, Nat.reduceMul, Nat.reduceBEq, Nat.reduceLeDiff, Int.reduceBEq, Int.reduceBNe, Int.reduceToNat, ne_eq, implies_true, bA]
    refine callI (name_no c0) ?_
    simp (config := {maxSteps := 4000000}) only [U_model_Model_Do, ap0, ap1, reduceIte, reduceCtorEq, Nat.reduceEqDiff, Nat.reduceAdd, Int.reduceLT, Int.reduceLE, Int.reduceNeg, Int.reduceEq, Nat.reduceLT, Nat.reduceSub, Nat.reduceMul, Nat.reduceBEq, Nat.reduceLeDiff, Int.reduceBEq, Int.reduceBNe, Int.reduceToNat, ne_eq, implies_true, bA]
    refine callI (fail_spec 1) ?_
    simp (config := {maxSteps := 4000000}) only [U_model_Model_Do, ap0, ap1, st1, reduceIte, reduceCtorEq, Nat.reduceEqDiff, Nat.reduceAdd, Int.reduceLT, Int.reduceLE, Int.reduceNeg, Int.reduceEq, Nat.reduceLT, Nat.reduceSub, Nat.reduceMul, Nat.reduceBEq, Nat.reduceLeDiff, Int.reduceBEq, Int.reduceBNe, Int.reduceToNat, ne_eq, implies_true, bA]
    exact ⟨_, rfl, MutD.of hd (by omega) (Mut.ext h)⟩
  · obtain ⟨nm, hnm, hnq⟩ := name_yes c0
    simp (config := {maxSteps := 4000000}) only [U_model_Model_Do, ap0, ap1, reduceIte, reduceCtorEq, Nat.reduceEqDiff, Nat.reduceAdd, Int.reduceLT, Int.reduceLE, Int.reduceNeg, Int.reduceEq, Nat.reduceLT, Nat.reduceSub, Nat.reduceMul, Nat.reduceBEq, Nat.reduceLeDiff, Int.reduceBEq, Int.reduceBNe, Int.reduceToNat, ne_eq, implies_true, bA]
    refine callI hnm ?_
    by_cases c2 : q.op = 2
    · have d1 : (q.op == 1) = false := by simp [c2]
      have d8 : (q.op == 8) = false := by simp [c2]
      have d10 : (q.op == 10) = false := by simp [c2]
      have d2 : (q.op == 2) = true := by simp [c2]
      simp (config := {maxSteps := 4000000}) only [U_model_Model_Do, ap0, ap1, hnq, d2, reduceIte, reduceCtorEq, Nat.reduceEqDiff, Nat.reduceAdd, Int.reduceLT, Int.reduceLE, Int.reduceNeg, Int.reduceEq, Nat.reduceLT, Nat.reduceSub, Nat.reduceMul, Nat.reduceBEq, Nat.reduceLeDiff, Int.reduceBEq, Int.reduceBNe, Int.reduceToNat, ne_eq, implies_true, bA]
      by_cases c3 : q.n < 0 ∨ 16777216 < q.n
      · refine callI (sized_no c3) ?_
        have hd : doV cap A q = (A, ⟨1, [], 0, 0⟩) := if_pos (by omega)
        simp (config := {maxSteps := 4000000}) only [U_model_Model_Do, ap0, ap1, reduceIte, reduceCtorEq, Nat.reduceEqDiff, Nat.reduceAdd, Int.reduceLT, Int.reduceLE, Int.reduceNeg, Int.reduceEq, Nat.reduceLT, Nat.reduceSub, Nat.reduceMul, Nat.reduceBEq, Nat.reduceLeDiff, Int.reduceBEq, Int.reduceBNe, Int.reduceToNat, ne_eq, implies_true, bA]
        refine callI (fail_spec 1) ?_
        simp (config := {maxSteps := 4000000}) only [U_model_Model_Do, ap0, ap1, st1, reduceIte, reduceCtorEq, Nat.reduceEqDiff, Nat.reduceAdd, Int.reduceLT, Int.reduceLE, Int.reduceNeg, Int.reduceEq, Nat.reduceLT, Nat.reduceSub, Nat.reduceMul, Nat.reduceBEq, Nat.reduceLeDiff, Int.reduceBEq, Int.reduceBNe, Int.reduceToNat, ne_eq, implies_true, bA]
        exact ⟨_, rfl, MutD.of hd (by omega) (Mut.ext h)⟩
      · refine callI (sized_yes c3) ?_
        cases hg : getG q.id A with
        | none =>
          have hk := h.getN hg
          have hd : doV cap A q = (A, ⟨4, [], 0, 0⟩) := by
            unfold doV
            rw [if_neg (by omega), if_neg (by omega), if_neg (by omega), if_neg (by omega), hg]
          simp (config := {maxSteps := 4000000}) only [U_model_Model_Do, ap0, ap1, d1, d8, d10, hbA, hmA, hk, reduceIte, reduceCtorEq, Nat.reduceEqDiff, Nat.reduceAdd, Int.reduceLT, Int.reduceLE, Int.reduceNeg, Int.reduceEq, Nat.reduceLT, Nat.reduceSub, Nat.reduceMul, Nat.reduceBEq, Nat.reduceLeDiff, Int.reduceBEq, Int.reduceBNe, Int.reduceToNat, ne_eq, implies_true, bA]
          refine callI (fail_spec 4) ?_
          simp (config := {maxSteps := 4000000}) only [U_model_Model_Do, ap0, ap1, st1, reduceIte, reduceCtorEq, Nat.reduceEqDiff, Nat.reduceAdd, Int.reduceLT, Int.reduceLE, Int.reduceNeg, Int.reduceEq, Nat.reduceLT, Nat.reduceSub, Nat.reduceMul, Nat.reduceBEq, Nat.reduceLeDiff, Int.reduceBEq, Int.reduceBNe, Int.reduceToNat, ne_eq, implies_true, bA]
          exact ⟨_, rfl, MutD.of hd (by omega) (Mut.ext h)⟩
        | some s =>
          have hd : doV cap A q = (putV A ⟨q.id, q.n, cutS s.S q.n 16777216⟩, ⟨0, [], 0, 0⟩) := by
            unfold doV
            rw [if_neg (by omega), if_neg (by omega), if_neg (by omega), if_neg (by omega), hg]
            simp only []
            rw [if_pos c2]
          have hvol : VolOk cap (putV A ⟨q.id, q.n, cutS s.S q.n 16777216⟩) := by
            have := h.vol.resize q.id q.n
            unfold resizeV at this
            rw [if_neg (by omega), hg] at this
            exact this
          obtain ⟨E1, e, E2, rfl, rfl, hk⟩ := h.get hg
          have hid : e.s.id = q.id := (getG_some hg).2
          have he : e ∈ E1 ++ e :: E2 := mid_mem.2 (.inl rfl)
          have heA := h.inA he
          have hsp := h.sp e he
          have hmp := h.mp e he
          have hsec := h.vol.sec e.s heA
          have hszs := h.vol.szs e.s heA
          have hls := lt_of_get hsp
          have hlp := lt_of_get hmp
          have hne : e.sb ≠ e.sm := fun c => by rw [c, hmp] at hsp; cases hsp
          have hsA := fun l => apL hsp l
          obtain ⟨ob1, hob1⟩ : ∃ o, ob.set e.sb (.box [.int .i64 q.n, .mp e.sm]) = o := ⟨_, rfl⟩
          have hl1 : ob1.length = ob.length := by rw [← hob1]; simp
          have hs1 : ob1[e.sb]? = some (.box [.int .i64 q.n, .mp e.sm]) := by rw [← hob1, List.getElem?_set_self hls]
          have hm1 : ob1[e.sm]? = some (.map e.ck e.es) := by rw [← hob1, List.getElem?_set_ne hne]; exact hmp
          have qB : ∀ l, (ob ++ l).set e.sb (.box [.int .i64 q.n, .mp e.sm]) = ob1 ++ l := fun l => by rw [← hob1]; exact List.set_append_left _ _ hls
          have g0 : ∀ l, (ob1 ++ l)[ob.length]? = l[0]? := fun l => by have := ap0 ob1 l; rwa [hl1] at this
          have g1 : ∀ l, (ob1 ++ l)[ob.length + 1]? = l[1]? := fun l => by have := ap1 ob1 l; rwa [hl1] at this
          simp (config := {maxSteps := 4000000}) only [U_model_Model_Do, ap0, ap1, d1, d8, d10, d2, hbA, hmA, hk, hsA, qB, reduceIte, reduceCtorEq, Nat.reduceEqDiff, Nat.reduceAdd, Int.reduceLT, Int.reduceLE, Int.reduceNeg, Int.reduceEq, Nat.reduceLT, Nat.reduceSub, Nat.reduceMul, Nat.reduceBEq, Nat.reduceLeDiff, Int.reduceBEq, Int.reduceBNe, Int.reduceToNat, ne_eq, implies_true, bA]
          refine callM (cut_i (hole := fun k => decide (q.n ≤ k)) (f := 30) (cap := [.ref ob.length 0]) (apL hs1 _) (apL hm1 _) (h.mok e he) fun ob' hk2 x hx => ?_) ?_
          · refine do_c1_i (q := q) ?_
            rw [hk2 _ (by omega) (by simp; omega), g0]; rfl
          · rintro r ob' ⟨ex, rfl⟩
            have hlp1 : e.sm < ob1.length := by omega
            have qA := sA hlp1
            have qy1 : ∀ x l, (ob1.set e.sm x ++ l)[ob.length + 1]? = l[1]? := fun x l => by have := sy1 ob1 e.sm x l; rwa [hl1] at this
            have qz1 : ∀ x y l, (ob1.set e.sm x ++ l).set (ob.length + 1) y = ob1.set e.sm x ++ l.set 1 y := fun x y l => by have := sz1 ob1 e.sm x y l; rwa [hl1] at this
            simp (config := {maxSteps := 4000000}) only [U_model_Model_Do, qA, qy1, qz1, reduceIte, reduceCtorEq, Nat.reduceEqDiff, Nat.reduceAdd, Int.reduceLT, Int.reduceLE, Int.reduceNeg, Int.reduceEq, Nat.reduceLT, Nat.reduceSub, Nat.reduceMul, Nat.reduceBEq, Nat.reduceLeDiff, Int.reduceBEq, Int.reduceBNe, Int.reduceToNat, ne_eq, implies_true, bA]
            refine ⟨_, rfl, MutD.of hd (by omega) ?_⟩
            rw [← hid] at hvol ⊢
            refine h.wit (S' := cutS e.s.S q.n 16777216) ?_ (sx1 hlp1 _ _) (by simp; omega) (fun i h2 h3 h4 => ?_) ((h.mok e he).sub List.filter_sublist) ((h.rel e he).cut (hole := fun k => decide (q.n ≤ k)) fun k hk3 => ?_) hvol
            · rw [sx4 hne (by omega), hs1]
            · rw [sx4 h3 (by omega), ← hob1, List.getElem?_set_ne (Ne.symm h2)]
            · cases hgk : getG k e.s.S with
              | none => rw [hgk] at hk3; cases hk3
              | some y =>
                obtain ⟨hy, rfl⟩ := getG_some hgk
                have := hsec.rng y hy
                rw [key_sc]
                by_cases c : q.n ≤ y.at_
                · have a1 : ¬ y.at_ < q.n := by omega
                  have a2 : ¬ (16777216 ≤ y.at_) := by omega
                  simp [c, a1, a2]
                · have a1 : y.at_ < q.n := by omega
                  simp [c, a1]
    · have d2 : (q.op == 2) = false := by simpa using c2
      by_cases c1 : q.op = 1
      · have d1 : (q.op == 1) = true := by simp [c1]
        have hd : doV cap A q = ((createV A q.id q.n).1, ⟨(createV A q.id q.n).2, [], 0, 0⟩) := by
          unfold doV
          rw [if_neg (by omega), if_pos c1]
        simp (config := {maxSteps := 4000000}) only [U_model_Model_Do, ap0, ap1, hnq, d2, d1, reduceIte, reduceCtorEq, Nat.reduceEqDiff, Nat.reduceAdd, Int.reduceLT, Int.reduceLE, Int.reduceNeg, Int.reduceEq, Nat.reduceLT, Nat.reduceSub, Nat.reduceMul, Nat.reduceBEq, Nat.reduceLeDiff, Int.reduceBEq, Int.reduceBNe, Int.reduceToNat, ne_eq, implies_true, bA]
        refine callM (create_i (h.keep fun i hi => List.getElem?_append_left (h.lt i hi)) q) ?_
        intro r ob' hm
        obtain ⟨rfl, hg, hm2⟩ := Mut.wrap h.lt hm (j := ob.length + 1) (by omega) (by simp)
        rw [ap1] at hg
        simp only [List.getElem?_cons_succ, List.getElem?_cons_zero] at hg
        have hg2 := fun x => show (ob'.set (ob.length + 1) x)[ob.length + 1]? = some x by rw [List.getElem?_set_self (lt_of_get hg)]
        simp (config := {maxSteps := 4000000}) only [U_model_Model_Do, hg, hg2, reduceIte, reduceCtorEq, Nat.reduceEqDiff, Nat.reduceAdd, Int.reduceLT, Int.reduceLE, Int.reduceNeg, Int.reduceEq, Nat.reduceLT, Nat.reduceSub, Nat.reduceMul, Nat.reduceBEq, Nat.reduceLeDiff, Int.reduceBEq, Int.reduceBNe, Int.reduceToNat, ne_eq, implies_true, bA]
        exact ⟨_, rfl, MutD.of hd (by omega) (hm2 _)⟩
      · have d1 : (q.op == 1) = false := by simpa using c1
        by_cases c8 : q.op = 8
        · have d8 : (q.op == 8) = true := by simp [c8]
          have hd : doV cap A q = (A, ⟨0, [], 0, 0⟩) := by
            unfold doV
            rw [if_neg (by omega), if_neg c1, if_pos c8]
          simp (config := {maxSteps := 4000000}) only [U_model_Model_Do, ap0, ap1, hnq, d2, d1, d8, st1, reduceIte, reduceCtorEq, Nat.reduceEqDiff, Nat.reduceAdd, Int.reduceLT, Int.reduceLE, Int.reduceNeg, Int.reduceEq, Nat.reduceLT, Nat.reduceSub, Nat.reduceMul, Nat.reduceBEq, Nat.reduceLeDiff, Int.reduceBEq, Int.reduceBNe, Int.reduceToNat, ne_eq, implies_true, bA]
          exact ⟨_, rfl, MutD.of hd (by omega) (Mut.ext h)⟩
        · have d8 : (q.op == 8) = false := by simpa using c8
          by_cases c10 : q.op = 10
          · have d10 : (q.op == 10) = true := by simp [c10]
            have hd : doV cap A q = (A, ⟨0, [], cap, usedV A⟩) := by
              unfold doV
              rw [if_neg (by omega), if_neg c1, if_neg c8, if_pos c10]
            have h2 : ModAt (ob ++ [.box (rowQ q), .box [.int .i64 0, .str [], .int .i64 0, .int .i64 0, .slc []]]) b m ck E cap A := h.keep fun i hi => List.getElem?_append_left (h.lt i hi)
            simp (config := {maxSteps := 4000000}) only [U_model_Model_Do, ap0, ap1, hnq, d2, d1, d8, d10, reduceIte, reduceCtorEq, Nat.reduceEqDiff, Nat.reduceAdd, Int.reduceLT, Int.reduceLE, Int.reduceNeg, Int.reduceEq, Nat.reduceLT, Nat.reduceSub, Nat.reduceMul, Nat.reduceBEq, Nat.reduceLeDiff, Int.reduceBEq, Int.reduceBNe, Int.reduceToNat, ne_eq, implies_true, bA]
            refine callR (used_r h2) ?_
            simp (config := {maxSteps := 4000000}) only [U_model_Model_Do, ap0, ap1, hbA, reduceIte, reduceCtorEq, Nat.reduceEqDiff, Nat.reduceAdd, Int.reduceLT, Int.reduceLE, Int.reduceNeg, Int.reduceEq, Nat.reduceLT, Nat.reduceSub, Nat.reduceMul, Nat.reduceBEq, Nat.reduceLeDiff, Int.reduceBEq, Int.reduceBNe, Int.reduceToNat, ne_eq, implies_true, bA]
            refine ⟨callM (ids_i h2) ?_, callM (ids_i h2) ?_⟩
            all_goals
              rintro r ob' ⟨rfl, rfl⟩
              simp (config := {maxSteps := 4000000}) only [U_model_Model_Do, ap0, ap1, hbA, st1, reduceIte, reduceCtorEq, Nat.reduceEqDiff, Nat.reduceAdd, Int.reduceLT, Int.reduceLE, Int.reduceNeg, Int.reduceEq, Nat.reduceLT, Nat.reduceSub, Nat.reduceMul, Nat.reduceBEq, Nat.reduceLeDiff, Int.reduceBEq, Int.reduceBNe, Int.reduceToNat, ne_eq, implies_true, bA]
              refine ⟨_, rfl, _, fpM b m E, by rw [hd], by rw [hd]; exact Mod.app ⟨m, ck, E, h, rfl⟩, Frame.app _ _ _, fun h => absurd c10 h, fun _ => ⟨ob.length + 3, rfl, by rw [ap3]; rfl, by omega, fun hc => by have := h.lt _ hc; omega⟩⟩
          · have d10 : (q.op == 10) = false := by simpa using c10
            cases hg : getG q.id A with
            | none =>
              have hk := h.getN hg
              have hd : doV cap A q = (A, ⟨4, [], 0, 0⟩) := by
                unfold doV
                rw [if_neg (by omega), if_neg (by omega), if_neg (by omega), if_neg (by omega), hg]
              simp (config := {maxSteps := 4000000}) only [U_model_Model_Do, ap0, ap1, hnq, d2, d1, d8, d10, hbA, hmA, hk, reduceIte, reduceCtorEq, Nat.reduceEqDiff, Nat.reduceAdd, Int.reduceLT, Int.reduceLE, Int.reduceNeg, Int.reduceEq, Nat.reduceLT, Nat.reduceSub, Nat.reduceMul, Nat.reduceBEq, Nat.reduceLeDiff, Int.reduceBEq, Int.reduceBNe, Int.reduceToNat, ne_eq, implies_true, bA]
              refine callI (fail_spec 4) ?_
              simp (config := {maxSteps := 4000000}) only [U_model_Model_Do, ap0, ap1, st1, reduceIte, reduceCtorEq, Nat.reduceEqDiff, Nat.reduceAdd, Int.reduceLT, Int.reduceLE, Int.reduceNeg, Int.reduceEq, Nat.reduceLT, Nat.reduceSub, Nat.reduceMul, Nat.reduceBEq, Nat.reduceLeDiff, Int.reduceBEq, Int.reduceBNe, Int.reduceToNat, ne_eq, implies_true, bA]
              exact ⟨_, rfl, MutD.of hd (by omega) (Mut.ext h)⟩
            | some s =>
              obtain ⟨E1, e, E2, rfl, rfl, hk⟩ := h.get hg
              have hid : e.s.id = q.id := (getG_some hg).2
              have he : e ∈ E1 ++ e :: E2 := mid_mem.2 (.inl rfl)
              have hsp := h.sp e he
              have hmp := h.mp e he
              have hsA := fun l => apL hsp l
              have hpA := fun l => apL hmp l
              by_cases c3 : q.op = 3
              · have d3 : (q.op == 3) = true := by simp [c3]
                have hd : doV cap A q = (delG q.id A, ⟨0, [], 0, 0⟩) := by
                  unfold doV
                  rw [if_neg (by omega), if_neg (by omega), if_neg (by omega), if_neg (by omega), hg]
                  simp only []
                  rw [if_neg (by omega), if_pos c3]
                have qy1 := sy1 ob m
                have qz1 := sz1 ob m
                simp (config := {maxSteps := 4000000}) only [U_model_Model_Do, ap0, ap1, hnq, d2, d1, d8, d10, d3, hbA, hmA, hk, hqA, qy1, qz1, reduceIte, reduceCtorEq, Nat.reduceEqDiff, Nat.reduceAdd, Int.reduceLT, Int.reduceLE, Int.reduceNeg, Int.reduceEq, Nat.reduceLT, Nat.reduceSub, Nat.reduceMul, Nat.reduceBEq, Nat.reduceLeDiff, Int.reduceBEq, Int.reduceBNe, Int.reduceToNat, ne_eq, implies_true, bA]
                refine ⟨_, rfl, MutD.of hd (by omega) ?_⟩
                rw [← hid]
                refine ⟨rfl, fpM b m (E1 ++ E2), Mod.app ⟨m, ck, _, h.del, rfl⟩, by simp, fun i hi hn => ?_, fun i hi => .inl ?_⟩
                · rw [sx4 (fun c => hn (mem_fpM.2 (.inr (.inl c)))) hi]
                · rcases mem_fpM.1 hi with rfl | rfl | ⟨x, hx, rfl⟩ | ⟨x, hx, rfl⟩
                  · exact mem_fpM.2 (.inl rfl)
                  · exact mem_fpM.2 (.inr (.inl rfl))
                  · exact mem_fpM.2 (.inr (.inr (.inl ⟨x, mid_mem.2 (.inr hx), rfl⟩)))
                  · exact mem_fpM.2 (.inr (.inr (.inr ⟨x, mid_mem.2 (.inr hx), rfl⟩)))
              · have d3 : (q.op == 3) = false := by simpa using c3
                by_cases c9 : q.op = 9
                · have d9 : (q.op == 9) = true := by simp [c9]
                  have hd : doV cap A q = (A, ⟨0, [], e.s.size, (e.s.S.length : Int)⟩) := by
                    unfold doV
                    rw [if_neg (by omega), if_neg (by omega), if_neg (by omega), if_neg (by omega), hg]
                    simp only []
                    rw [if_neg (by omega), if_neg (by omega), if_pos c9]
                  have hln := h.slen he
                  simp (config := {maxSteps := 4000000}) only [U_model_Model_Do, ap0, ap1, st1, hnq, d2, d1, d8, d10, d3, d9, hbA, hmA, hk, hsA, hpA, hln, reduceIte, reduceCtorEq, Nat.reduceEqDiff, Nat.reduceAdd, Int.reduceLT, Int.reduceLE, Int.reduceNeg, Int.reduceEq, Nat.reduceLT, Nat.reduceSub, Nat.reduceMul, Nat.reduceBEq, Nat.reduceLeDiff, Int.reduceBEq, Int.reduceBNe, Int.reduceToNat, ne_eq, implies_true, bA]
                  exact ⟨_, rfl, MutD.of hd (by omega) (Mut.ext h)⟩
                · have d9 : (q.op == 9) = false := by simpa using c9
                  have hd : doV cap A q = ((secV cap A e.s q).1, ⟨(secV cap A e.s q).2.1, (secV cap A e.s q).2.2, 0, 0⟩) := by
                    unfold doV
                    rw [if_neg (by omega), if_neg (by omega), if_neg (by omega), if_neg (by omega), hg]
                    simp only []
                    rw [if_neg (by omega), if_neg (by omega), if_neg (by omega)]
                  simp (config := {maxSteps := 4000000}) only [U_model_Model_Do, ap0, ap1, st1, hnq, d2, d1, d8, d10, d3, d9, hbA, hmA, hk, hsA, reduceIte, reduceCtorEq, Nat.reduceEqDiff, Nat.reduceAdd, Int.reduceLT, Int.reduceLE, Int.reduceNeg, Int.reduceEq, Nat.reduceLT, Nat.reduceSub, Nat.reduceMul, Nat.reduceBEq, Nat.reduceLeDiff, Int.reduceBEq, Int.reduceBNe, Int.reduceToNat, ne_eq, implies_true, bA]
                  refine callM (sectors_i (h.keep fun i hi => List.getElem?_append_left (h.lt i hi)) q hq) ?_
                  intro r ob' hm
                  obtain ⟨rfl, hg, hm2⟩ := Mut.wrap h.lt hm (j := ob.length + 1) (by omega) (by simp)
                  rw [ap1] at hg
                  simp only [List.getElem?_cons_succ, List.getElem?_cons_zero] at hg
                  have hg2 := fun x => show (ob'.set (ob.length + 1) x)[ob.length + 1]? = some x by rw [List.getElem?_set_self (lt_of_get hg)]
                  simp (config := {maxSteps := 4000000}) only [U_model_Model_Do, hg, hg2, reduceIte, reduceCtorEq, Nat.reduceEqDiff, Nat.reduceAdd, Int.reduceLT, Int.reduceLE, Int.reduceNeg, Int.reduceEq, Nat.reduceLT, Nat.reduceSub, Nat.reduceMul, Nat.reduceBEq, Nat.reduceLeDiff, Int.reduceBEq, Int.reduceBNe, Int.reduceToNat, ne_eq, implies_true, bA]
                  exact ⟨_, rfl, MutD.of hd (by omega) (hm2 _)⟩
theorem do_i {ob fp b cap A} (h : Mod ob fp b cap A) (q : Rq) (hq : q.d.length ≤ 1000) : ICall Try.prog 12 [.ref b 0, pQ q] ob (MutD ob fp b cap A q) := by
  obtain ⟨m, ck, E, h, rfl⟩ := h
  exact do_i' h q hq
theorem doNil_i (ob : List AObj) (q : Rq) : ICall Try.prog 12 [.nilp, pQ q] ob fun r ob' => r = failP 1 ∧ ∃ ex, ob' = ob ++ ex := by
  refine icall_dr Try.func12 comp_model_Model_Do ?_
  simp (config := {maxSteps := 4000000}) only [U_model_Model_Do, ap0, ap1, reduceIte, reduceCtorEq, Nat.reduceEqDiff, Nat.reduceAdd, Int.reduceLT, Int.reduceLE, Int.reduceNeg, Int.reduceEq, Nat.reduceLT, Nat.reduceSub, Nat.reduceMul, Nat.reduceBEq, Nat.reduceLeDiff, Int.reduceBEq, Int.reduceBNe, Int.reduceToNat, ne_eq, implies_true, bA]
  refine callI (fail_spec 1) ?_
  simp (config := {maxSteps := 4000000}) only [U_model_Model_Do, ap0, ap1, st1, reduceIte, reduceCtorEq, Nat.reduceEqDiff, Nat.reduceAdd, Int.reduceLT, Int.reduceLE, Int.reduceNeg, Int.reduceEq, Nat.reduceLT, Nat.reduceSub, Nat.reduceMul, Nat.reduceBEq, Nat.reduceLeDiff, Int.reduceBEq, Int.reduceBNe, Int.reduceToNat, ne_eq, implies_true, bA]
  exact ⟨_, rfl, rfl, _, rfl⟩
theorem new_i (ob : List AObj) (cap : Int) (h1 : cap ≤ 200) : ICall Try.prog 10 [.int .i64 cap] ob fun r ob' => ∃ fp, r = .ref (ob.length + 1) 0 ∧ Mod ob' fp (ob.length + 1) (max cap 0) [] ∧ Frame ob [] ob' fp := by
  refine icall_dr Try.func10 comp_model_New ?_
  simp (config := {maxSteps := 4000000}) only [U_model_New, reduceIte, reduceCtorEq, Nat.reduceEqDiff, Nat.reduceAdd, Int.reduceLT, Int.reduceLE, Int.reduceNeg, Int.reduceEq, Nat.reduceLT, Nat.reduceSub, Nat.reduceMul, Nat.reduceBEq, Nat.reduceLeDiff, Int.reduceBEq, Int.reduceBNe, Int.reduceToNat, ne_eq, implies_true, bA]
  refine ⟨_, rfl, fpM (ob.length + 1) ob.length [], rfl, ⟨ob.length, 0, [], ⟨by simp, by simp, .nil, by simp, by simp, by simp, by simp, by simp, by simp, by simp, by simp, by simp, VolOk.new (by omega) (by omega)⟩, rfl⟩, ⟨by simp, fun i hi _ => List.getElem?_append_left hi, fun i hi => ?_⟩⟩
  rcases mem_fpM.1 hi with rfl | rfl | ⟨e, he, rfl⟩ | ⟨e, he, rfl⟩
  · right; omega
  · right; omega
  · cases he
  · cases he
end Go.Proofs.Ythjnfjgejdlbfaa.Aw
