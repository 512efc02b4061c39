/-
  The model: a new namespace; sectors that get bytes.; The model: sectors that get bytes.
-/
import Derived.Test.YthjnfjgejdlbfaaPMA
import Derived.Test.YthjnfjgejdlbfaaPRepM
set_option linter.all false
set_option linter.unusedSimpArgs false
set_option linter.unusedVariables false
namespace Go.Proofs.Ythjnfjgejdlbfaa.Aw
open Go.RowKit

theorem sy1 (ob : List AObj) (m : Nat) (x : AObj) (l : List AObj) : (ob.set m x ++ l)[ob.length + 1]? = l[1]? := by have := ap1 (ob.set m x) l; rwa [List.length_set] at this
theorem sy2 (ob : List AObj) (m : Nat) (x : AObj) (l : List AObj) : (ob.set m x ++ l)[ob.length + 2]? = l[2]? := by have := ap2 (ob.set m x) l; rwa [List.length_set] at this
theorem sy3 (ob : List AObj) (m : Nat) (x : AObj) (l : List AObj) : (ob.set m x ++ l)[ob.length + 3]? = l[3]? := by have := ap3 (ob.set m x) l; rwa [List.length_set] at this
theorem sz1 (ob : List AObj) (m : Nat) (x y : AObj) (l : List AObj) : (ob.set m x ++ l).set (ob.length + 1) y = ob.set m x ++ l.set 1 y := by have := st1 (ob.set m x) l y; rwa [List.length_set] at this
theorem sz2 (ob : List AObj) (m : Nat) (x y : AObj) (l : List AObj) : (ob.set m x ++ l).set (ob.length + 2) y = ob.set m x ++ l.set 2 y := by have := st2 (ob.set m x) l y; rwa [List.length_set] at this
theorem sA {ob : List AObj} {m : Nat} (h : m < ob.length) (x : AObj) (l : List AObj) : (ob ++ l).set m x = ob.set m x ++ l := List.set_append_left _ _ h

/-- What a call does to a model. -/
def Mut (ob : List AObj) (fp : List Nat) (b : Nat) (cap : Int) (A' : List Spc) (res : PV) (r : PV) (ob' : List AObj) : Prop := r = res ∧ ∃ fp', Mod ob' fp' b cap A' ∧ Frame ob fp ob' fp'
theorem Mut.ext {ob ex b m ck E cap A res} (h : ModAt ob b m ck E cap A) : Mut ob (fpM b m E) b cap A res res (ob ++ ex) := ⟨rfl, _, Mod.app ⟨m, ck, E, h, rfl⟩, Frame.app _ _ _⟩
theorem Mut.same {ob b m ck E cap A res} (h : ModAt ob b m ck E cap A) : Mut ob (fpM b m E) b cap A res res ob := ⟨rfl, _, ⟨m, ck, E, h, rfl⟩, Frame.refl _ _⟩

theorem create_i {ob b m ck E cap A} (h : ModAt ob b m ck E cap A) (q : Rq) : ICall Try.prog 27 [.ref b 0, pQ q] ob
    (Mut ob (fpM b m E) b cap (createV A q.id q.n).1 (failP (createV A q.id q.n).2)) := by
  refine icall_dr Try.func27 comp_model_Model_create ?_
  have hbA := fun l => apL h.hb l
  have hmA := fun l => apL h.hm l
  have hlen := h.len
  have hlm := lt_of_get h.hm
  have hlb := lt_of_get h.hb
  have hbm : b ≠ m := fun c => by have := h.hb; rw [c, h.hm] at this; cases this
  have hsA := sA hlm
  have hok := h.vol.create q.id q.n
  unfold createV at hok ⊢
  by_cases c1 : q.id < 1
  · have d1 : decide (q.id < 1) = true := by simpa using c1
    rw [if_pos (.inl c1)]
    simp (config := {maxSteps := 4000000}) only [U_model_Model_create, d1, ap0, ap1, st1, reduceIte, reduceCtorEq, Nat.reduceEqDiff, Nat.reduceAdd, Int.reduceLT, Int.reduceLE, Int.reduceNeg, Int.reduceEq, Nat.reduceLT, Nat.reduceSub, Nat.reduceMul, Nat.reduceBEq, Nat.reduceLeDiff, Int.reduceBEq, Int.reduceBNe, Int.reduceToNat, ne_eq, implies_true, bA]
    refine callI (fail_spec 1) ?_
    simp (config := {maxSteps := 4000000}) only [U_model_Model_create, ap0, ap1, st1, reduceIte, reduceCtorEq, Nat.reduceEqDiff, Nat.reduceAdd, Int.reduceLT, Int.reduceLE, Int.reduceNeg, Int.reduceEq, Nat.reduceLT, Nat.reduceSub, Nat.reduceMul, Nat.reduceBEq, Nat.reduceLeDiff, Int.reduceBEq, Int.reduceBNe, Int.reduceToNat, ne_eq, implies_true, bA]
    exact ⟨_, rfl, Mut.ext h⟩
  · have d1 : decide (q.id < 1) = false := by simpa using c1
    by_cases c2 : 65535 < q.id
    · have d2 : decide (65535 < q.id) = true := by simpa using c2
      rw [if_pos (.inr (.inl c2))]
      simp (config := {maxSteps := 4000000}) only [U_model_Model_create, d1, d2, ap0, ap1, st1, reduceIte, reduceCtorEq, Nat.reduceEqDiff, Nat.reduceAdd, Int.reduceLT, Int.reduceLE, Int.reduceNeg, Int.reduceEq, Nat.reduceLT, Nat.reduceSub, Nat.reduceMul, Nat.reduceBEq, Nat.reduceLeDiff, Int.reduceBEq, Int.reduceBNe, Int.reduceToNat, ne_eq, implies_true, bA]
      refine callI (fail_spec 1) ?_
      simp (config := {maxSteps := 4000000}) only [U_model_Model_create, ap0, ap1, st1, reduceIte, reduceCtorEq, Nat.reduceEqDiff, Nat.reduceAdd, Int.reduceLT, Int.reduceLE, Int.reduceNeg, Int.reduceEq, Nat.reduceLT, Nat.reduceSub, Nat.reduceMul, Nat.reduceBEq, Nat.reduceLeDiff, Int.reduceBEq, Int.reduceBNe, Int.reduceToNat, ne_eq, implies_true, bA]
      exact ⟨_, rfl, Mut.ext h⟩
    · have d2 : decide (65535 < q.id) = false := by simpa using c2
      simp (config := {maxSteps := 4000000}) only [U_model_Model_create, d1, d2, ap0, ap1, reduceIte, reduceCtorEq, Nat.reduceEqDiff, Nat.reduceAdd, Int.reduceLT, Int.reduceLE, Int.reduceNeg, Int.reduceEq, Nat.reduceLT, Nat.reduceSub, Nat.reduceMul, Nat.reduceBEq, Nat.reduceLeDiff, Int.reduceBEq, Int.reduceBNe, Int.reduceToNat, ne_eq, implies_true, bA]
      by_cases c3 : q.n < 0 ∨ 16777216 < q.n
      · refine callI (sized_no c3) ?_
        rw [if_pos (.inr (.inr c3))]
        simp (config := {maxSteps := 4000000}) only [U_model_Model_create, ap0, ap1, st1, reduceIte, reduceCtorEq, Nat.reduceEqDiff, Nat.reduceAdd, Int.reduceLT, Int.reduceLE, Int.reduceNeg, Int.reduceEq, Nat.reduceLT, Nat.reduceSub, Nat.reduceMul, Nat.reduceBEq, Nat.reduceLeDiff, Int.reduceBEq, Int.reduceBNe, Int.reduceToNat, ne_eq, implies_true, bA]
        refine callI (fail_spec 1) ?_
        simp (config := {maxSteps := 4000000}) only [U_model_Model_create, ap0, ap1, st1, reduceIte, reduceCtorEq, Nat.reduceEqDiff, Nat.reduceAdd, Int.reduceLT, Int.reduceLE, Int.reduceNeg, Int.reduceEq, Nat.reduceLT, Nat.reduceSub, Nat.reduceMul, Nat.reduceBEq, Nat.reduceLeDiff, Int.reduceBEq, Int.reduceBNe, Int.reduceToNat, ne_eq, implies_true, bA]
        exact ⟨_, rfl, Mut.ext h⟩
      · refine callI (sized_yes c3) ?_
        have cn : ¬ (q.id < 1 ∨ 65535 < q.id ∨ q.n < 0 ∨ 16777216 < q.n) := by omega
        rw [if_neg cn] at hok ⊢
        cases hg : getG q.id A with
        | some a =>
          obtain ⟨E1, e, E2, rfl, rfl, hk⟩ := h.get hg
          simp (config := {maxSteps := 4000000}) only [U_model_Model_create, ap0, ap1, st1, hbA, hmA, hk, reduceIte, reduceCtorEq, Nat.reduceEqDiff, Nat.reduceAdd, Int.reduceLT, Int.reduceLE, Int.reduceNeg, Int.reduceEq, Nat.reduceLT, Nat.reduceSub, Nat.reduceMul, Nat.reduceBEq, Nat.reduceLeDiff, Int.reduceBEq, Int.reduceBNe, Int.reduceToNat, ne_eq, implies_true, bA]
          refine callI (fail_spec 7) ?_
          simp (config := {maxSteps := 4000000}) only [U_model_Model_create, ap0, ap1, st1, reduceIte, reduceCtorEq, Nat.reduceEqDiff, Nat.reduceAdd, Int.reduceLT, Int.reduceLE, Int.reduceNeg, Int.reduceEq, Nat.reduceLT, Nat.reduceSub, Nat.reduceMul, Nat.reduceBEq, Nat.reduceLeDiff, Int.reduceBEq, Int.reduceBNe, Int.reduceToNat, ne_eq, implies_true, bA]
          exact ⟨_, rfl, Mut.ext h⟩
        | none =>
          have hk := h.getN hg
          rw [hg] at hok
          by_cases c4 : 8 ≤ A.length
          · have d4 : decide ((8 : Int) ≤ (E.length : Int)) = true := by simp; omega
            simp only [c4, if_true]
            simp (config := {maxSteps := 4000000}) only [U_model_Model_create, ap0, ap1, st1, hbA, hmA, hk, d4, reduceIte, reduceCtorEq, Nat.reduceEqDiff, Nat.reduceAdd, Int.reduceLT, Int.reduceLE, Int.reduceNeg, Int.reduceEq, Nat.reduceLT, Nat.reduceSub, Nat.reduceMul, Nat.reduceBEq, Nat.reduceLeDiff, Int.reduceBEq, Int.reduceBNe, Int.reduceToNat, ne_eq, implies_true, bA]
            refine callI (fail_spec 70) ?_
            simp (config := {maxSteps := 4000000}) only [U_model_Model_create, ap0, ap1, st1, reduceIte, reduceCtorEq, Nat.reduceEqDiff, Nat.reduceAdd, Int.reduceLT, Int.reduceLE, Int.reduceNeg, Int.reduceEq, Nat.reduceLT, Nat.reduceSub, Nat.reduceMul, Nat.reduceBEq, Nat.reduceLeDiff, Int.reduceBEq, Int.reduceBNe, Int.reduceToNat, ne_eq, implies_true, bA]
            exact ⟨_, rfl, Mut.ext h⟩
          · have d4 : decide ((8 : Int) ≤ (E.length : Int)) = false := by simp; omega
            simp only [c4, if_false] at hok ⊢
            have n0 : (ob.length == ob.length + 2) = false := by simp
            have n1 : (b == ob.length + 2) = false := by simp; omega
            simp (config := {maxSteps := 4000000}) only [U_model_Model_create, n0, n1, ap0, ap1, ap2, st1, st2, hbA, hmA, hk, d4, hsA, sy1, sz1, reduceIte, reduceCtorEq, Nat.reduceEqDiff, Nat.reduceAdd, Int.reduceLT, Int.reduceLE, Int.reduceNeg, Int.reduceEq, Nat.reduceLT, Nat.reduceSub, Nat.reduceMul, Nat.reduceBEq, Nat.reduceLeDiff, Int.reduceBEq, Int.reduceBNe, Int.reduceToNat, ne_eq, implies_true, bA]
            refine ⟨_, rfl, rfl, fpM b m (E ++ [⟨ck, ⟨q.id, q.n, []⟩, ob.length + 2, ob.length + 3, 0, []⟩]), ⟨m, ck + 1, _, h.add hg (by omega) (by omega) ?_ ?_ ?_ ?_ hok, rfl⟩, ?_⟩
            · rw [sy2]; rfl
            · rw [sy3]; rfl
            · rw [sx1 hlm]
            · intro i hi hil; rw [sx4 hi hil]
            · refine ⟨by simp, fun i hi hn => ?_, fun i hi => ?_⟩
              · rw [sx4 (fun c => hn (mem_fpM.2 (.inr (.inl c)))) hi]
              · rcases mem_fpM.1 hi with rfl | rfl | ⟨e, he, rfl⟩ | ⟨e, he, rfl⟩
                · exact .inl (mem_fpM.2 (.inl rfl))
                · exact .inl (mem_fpM.2 (.inr (.inl rfl)))
                · rcases List.mem_append.1 he with he | he
                  · exact .inl (mem_fpM.2 (.inr (.inr (.inl ⟨e, he, rfl⟩))))
                  · simp only [List.mem_singleton] at he; subst he; right; show ob.length ≤ ob.length + 2; omega
                · rcases List.mem_append.1 he with he | he
                  · exact .inl (mem_fpM.2 (.inr (.inr (.inr ⟨e, he, rfl⟩))))
                  · simp only [List.mem_singleton] at he; subst he; right; show ob.length ≤ ob.length + 3; omega

theorem blank_spec : PCall Try.prog 71 [] (.str blankB) := by
  refine pcall_dr Try.func71 comp_model_blank ?_
  simp (config := {maxSteps := 4000000}) only [U_model_blank, reduceIte, reduceCtorEq, Nat.reduceEqDiff, Nat.reduceAdd, Int.reduceLT, Int.reduceLE, Int.reduceNeg, Int.reduceEq, Nat.reduceLT, Nat.reduceSub, Nat.reduceMul, Nat.reduceBEq, Nat.reduceLeDiff, Int.reduceBEq, Int.reduceBNe, Int.reduceToNat, ne_eq, implies_true, bA]
  have := repeat_spec [0] 32 (by simp) (by simp) (by simp)
  rw [repB_one] at this
  refine callI this ?_
  simp (config := {maxSteps := 4000000}) only [U_model_blank, reduceIte, reduceCtorEq, Nat.reduceEqDiff, Nat.reduceAdd, Int.reduceLT, Int.reduceLE, Int.reduceNeg, Int.reduceEq, Nat.reduceLT, Nat.reduceSub, Nat.reduceMul, Nat.reduceBEq, Nat.reduceLeDiff, Int.reduceBEq, Int.reduceBNe, Int.reduceToNat, ne_eq, implies_true, bA]
  rfl
theorem mPutE_len (ck : Nat) (k : Int) (v : PV) (es : Ents) : (mPutE ck k v es).length ≤ es.length + 1 := by
  unfold mPutE
  split
  · have : (mSet k v es).length = es.length := by have := congrArg List.length (mSet_map1 (k := k) (v := v) (es := es)); simpa using this
    omega
  · simp

theorem lay_i {ob b m ck cap A} {E1 E2 : List SpE} {e : SpE} (h : ModAt ob b m ck (E1 ++ e :: E2) cap A) (q : Rq) {n : Nat} {D : List (List UInt8)} (hn : D.length = n) (h0 : 0 ≤ q.fr) (h1 : q.fr + (n : Int) ≤ e.s.size) (hq : q.d.length ≤ 1000)
    (hD4 : q.op = 4 → 32 * n ≤ q.d.length ∧ D = pieces q.d n) (hD : q.op ≠ 4 → D = List.replicate n blankB) :
    ICall Try.prog 54 [.ref b 0, .ref e.sb 0, pQ q, .int .i64 (n : Int)] ob (Mut ob (fpM b m (E1 ++ e :: E2)) b cap (layV cap A e.s.id q.fr D).1 (failP (layV cap A e.s.id q.fr D).2)) := by
  refine icall_dr Try.func54 comp_model_Model_lay ?_
  have he : e ∈ E1 ++ e :: E2 := mid_mem.2 (.inl rfl)
  have heA := h.inA he
  have hsp := h.sp e he
  have hmp := h.mp e he
  have hmok := h.mok e he
  have hrel := h.rel e he
  have hsec := h.vol.sec e.s heA
  have hszs := h.vol.szs e.s heA
  have huse := h.vol.use
  have huse0 := usedV_nn A
  have hc0 := h.vol.c0
  have hc1 := h.vol.c1
  have hSle := usedV_mem h.vol.srt heA
  have hg : getG e.s.id A = some e.s := getG_mem h.vol.srt heA
  have hlb := lt_of_get h.hb
  have hls := lt_of_get hsp
  have hlm := lt_of_get hmp
  have hne : e.sb ≠ e.sm := fun c => by rw [c, hmp] at hsp; cases hsp
  have hbA := fun l => apL h.hb l
  have hsA := fun l => apL hsp l
  have hmA := fun l => apL hmp l
  have hD32 : ∀ x ∈ D, x.length = 32 := by
    by_cases c : q.op = 4
    · rw [(hD4 c).2]; exact pieces_32 n q.d (hD4 c).1
    · rw [hD c]; intro x hx; rw [(List.mem_replicate.1 hx).2]; rfl
  have hvol := h.vol.lay hg h0 (by rw [hn]; exact h1) hD32
  have hin0 : 0 ≤ inS e.s.S q.fr (q.fr + (n : Int)) := by rw [inS_count]; omega
  have hin1 : inS e.s.S q.fr (q.fr + (n : Int)) ≤ (e.s.S.length : Int) := by unfold inS; have := cutS_len e.s.S q.fr (q.fr + (n : Int)); omega
  unfold layV at hvol ⊢
  rw [hg] at hvol ⊢
  simp only [] at hvol ⊢
  rw [hn] at hvol ⊢
  have holes := holes_r (apL hsp [.box (rowQ q), .box [.int .i64 0, .str [], .int .i64 0, .int .i64 0, .slc []]]) (apL hmp _) hmok (h.secP he) (fun x hx => by have := hsec.rng x hx; omega) (fr := q.fr) (n := (n : Int)) ⟨h0, by omega⟩ ⟨by omega, by omega⟩
  have used : RCall Try.prog 28 [.ref b 0] (ob ++ [.box (rowQ q), .box [.int .i64 0, .str [], .int .i64 0, .int .i64 0, .slc []]]) (.int .i64 (usedV A)) := used_r (h.keep fun i hi => List.getElem?_append_left (h.lt i hi))
  have w1 : IntKind.i64.wrap (cap - usedV A) = cap - usedV A := wrapI (by omega) (by omega)
  simp (config := {maxSteps := 4000000}) only [U_model_Model_lay, ap0, ap1, reduceIte, reduceCtorEq, Nat.reduceEqDiff, Nat.reduceAdd, Int.reduceLT, Int.reduceLE, Int.reduceNeg, Int.reduceEq, Nat.reduceLT, Nat.reduceSub, Nat.reduceMul, Nat.reduceBEq, Nat.reduceLeDiff, Int.reduceBEq, Int.reduceBNe, Int.reduceToNat, ne_eq, implies_true, bA]
  refine callR holes ?_
  simp (config := {maxSteps := 4000000}) only [U_model_Model_lay, ap0, ap1, hbA, reduceIte, reduceCtorEq, Nat.reduceEqDiff, Nat.reduceAdd, Int.reduceLT, Int.reduceLE, Int.reduceNeg, Int.reduceEq, Nat.reduceLT, Nat.reduceSub, Nat.reduceMul, Nat.reduceBEq, Nat.reduceLeDiff, Int.reduceBEq, Int.reduceBNe, Int.reduceToNat, ne_eq, implies_true, bA]
  refine callR used ?_
  by_cases c : cap - usedV A < (n : Int) - inS e.s.S q.fr (q.fr + (n : Int))
  · have d : decide (cap - usedV A < (n : Int) - inS e.s.S q.fr (q.fr + (n : Int))) = true := by simpa using c
    rw [if_pos c]
    simp (config := {maxSteps := 4000000}) only [U_model_Model_lay, ap0, ap1, w1, d, reduceIte, reduceCtorEq, Nat.reduceEqDiff, Nat.reduceAdd, Int.reduceLT, Int.reduceLE, Int.reduceNeg, Int.reduceEq, Nat.reduceLT, Nat.reduceSub, Nat.reduceMul, Nat.reduceBEq, Nat.reduceLeDiff, Int.reduceBEq, Int.reduceBNe, Int.reduceToNat, ne_eq, implies_true, bA]
    refine callI (fail_spec 71) ?_
    simp (config := {maxSteps := 4000000}) only [U_model_Model_lay, ap0, ap1, st1, reduceIte, reduceCtorEq, Nat.reduceEqDiff, Nat.reduceAdd, Int.reduceLT, Int.reduceLE, Int.reduceNeg, Int.reduceEq, Nat.reduceLT, Nat.reduceSub, Nat.reduceMul, Nat.reduceBEq, Nat.reduceLeDiff, Int.reduceBEq, Int.reduceBNe, Int.reduceToNat, ne_eq, implies_true, bA]
    exact ⟨_, rfl, Mut.ext h⟩
  · have d : decide (cap - usedV A < (n : Int) - inS e.s.S q.fr (q.fr + (n : Int))) = false := by simpa using c
    rw [if_neg c] at hvol ⊢
    simp (config := {maxSteps := 4000000}) only [U_model_Model_lay, ap0, ap1, w1, d, reduceIte, reduceCtorEq, Nat.reduceEqDiff, Nat.reduceAdd, Int.reduceLT, Int.reduceLE, Int.reduceNeg, Int.reduceEq, Nat.reduceLT, Nat.reduceSub, Nat.reduceMul, Nat.reduceBEq, Nat.reduceLeDiff, Int.reduceBEq, Int.reduceBNe, Int.reduceToNat, ne_eq, implies_true, bA]
    have q0 := sx0 ob e.sm
    have q1 := sx1 hlm
    have q3 := sx3 hlm
    have qy1 := sy1 ob e.sm
    have qz1 := sz1 ob e.sm
    have qs : ∀ x l, (ob.set e.sm x ++ l)[e.sb]? = some (.box [.int .i64 e.s.size, .mp e.sm]) := fun x l => by rw [sx4 hne hls, hsp]
    refine loopF (fun x : Nat × Nat × Ents => ⟨ofL [(1, .ref e.sb 0), (6, .ref ob.length 0), (8, .ref (ob.length + 1) 0), (24, .int .i64 (n : Int)), (25, .int .i64 (x.1 : Int))], ob.set e.sm (.map x.2.1 x.2.2) ++ [.box (rowQ q), .box [.int .i64 0, .str [], .int .i64 0, .int .i64 0, .slc []]]⟩)
      (fun x => x.1 ≤ n ∧ MapOk x.2.1 x.2.2 ∧ SecRel x.2.2 (layS e.s.S q.fr (D.take x.1))) (fun x => n - x.1) (0, e.ck, e.es) ?_ ⟨Nat.zero_le _, hmok, hrel.re fun k => by rw [List.take_zero]; exact lay_nil⟩ ?_
    · simp (config := {maxSteps := 4000000}) only [U_model_Model_lay, reduceIte, reduceCtorEq, Nat.reduceEqDiff, Nat.reduceAdd, Int.reduceLT, Int.reduceLE, Int.reduceNeg, Int.reduceEq, Nat.reduceLT, Nat.reduceSub, Nat.reduceMul, Nat.reduceBEq, Nat.reduceLeDiff, Int.reduceBEq, Int.reduceBNe, Int.reduceToNat, ne_eq, implies_true, bA]
      rw [setId hmp]
    · rintro ⟨i, ck', es'⟩ ⟨hi, ok, rel⟩
      dsimp only at hi ok rel
      have hti : (D.take i).length = i := by simp; omega
      have hso : SecOk e.s.size (layS e.s.S q.fr (D.take i)) := hsec.lay h0 (by rw [hti]; omega) fun x hx => hD32 x (List.mem_of_mem_take hx)
      have hl1 := keys_len (rel.keys ok hso.srt)
      have hl2 := layS_len e.s.S q.fr (D.take i)
      have hin2 : 0 ≤ inS e.s.S q.fr (q.fr + ((D.take i).length : Int)) := by rw [inS_count]; omega
      by_cases hlt : i < n
      · have d : decide ((i : Int) < (n : Int)) = true := by simpa using hlt
        have hiD : i < D.length := by omega
        have e1 : IntKind.i64.wrap (q.fr + (i : Int)) = q.fr + (i : Int) := wrapI (by omega) (by omega)
        have e5 : IntKind.i64.wrap ((i : Int) + 1) = ((i + 1 : Nat) : Int) := by rw [wrapI (by omega) (by omega)]; omega
        have hwf := wf_k (n := q.fr + (i : Int)) (by omega) (by omega)
        have ok1 := ok.put (v := .str blankB) hwf (by omega)
        simp (config := {maxSteps := 4000000}) only [U_model_Model_lay, d, q0, q1, q3, qs, qy1, qz1, e1, reduceIte, reduceCtorEq, Nat.reduceEqDiff, Nat.reduceAdd, Int.reduceLT, Int.reduceLE, Int.reduceNeg, Int.reduceEq, Nat.reduceLT, Nat.reduceSub, Nat.reduceMul, Nat.reduceBEq, Nat.reduceLeDiff, Int.reduceBEq, Int.reduceBNe, Int.reduceToNat, ne_eq, implies_true, bA]
        refine callI blank_spec ?_
        by_cases c4 : q.op = 4
        · have d4 : (q.op == 4) = true := by simpa using c4
          obtain ⟨hq4, rfl⟩ := hD4 c4
          have e2 : IntKind.i64.wrap ((i : Int) * 32) = ((32 * i : Nat) : Int) := by rw [wrapI (by omega) (by omega)]; omega
          have e4 : IntKind.i64.wrap (((i + 1 : Nat) : Int) * 32) = ((32 * (i + 1) : Nat) : Int) := by rw [wrapI (by omega) (by omega)]; omega
          have hss : sstrV (.str q.d) (some (some ((32 * i : Nat) : Int))) (some (some ((32 * (i + 1) : Nat) : Int))) = some (.str (pieces q.d n)[i]) := by
            rw [sstrV_both (by omega) (by omega)]
            have := pieces_get (d := q.d) hlt
            rw [List.getElem?_eq_getElem hiD] at this
            rw [Option.some.inj this, List.drop_take, show 32 * (i + 1) - 32 * i = 32 by omega]
          have ok2 := ok1.put (v := .str (pieces q.d n)[i]) hwf (by have := mPutE_len ck' (q.fr + (i : Int)) (.str blankB) es'; omega)
          simp (config := {maxSteps := 4000000}) only [U_model_Model_lay, q0, q1, q3, qs, qy1, qz1, e1, mSetP_put, d4, e2, e4, e5, hss, reduceIte, reduceCtorEq, Nat.reduceEqDiff, Nat.reduceAdd, Int.reduceLT, Int.reduceLE, Int.reduceNeg, Int.reduceEq, Nat.reduceLT, Nat.reduceSub, Nat.reduceMul, Nat.reduceBEq, Nat.reduceLeDiff, Int.reduceBEq, Int.reduceBNe, Int.reduceToNat, ne_eq, implies_true, bA]
          refine ⟨(i + 1, mPutC (mPutC ck' (q.fr + (i : Int)) es') (q.fr + (i : Int)) (mPutE ck' (q.fr + (i : Int)) (.str blankB) es'), mPutE (mPutC ck' (q.fr + (i : Int)) es') (q.fr + (i : Int)) (.str (pieces q.d n)[i]) (mPutE ck' (q.fr + (i : Int)) (.str blankB) es')), rfl, ⟨hlt, ok2, fun k => ?_⟩, by omega⟩
          dsimp only
          rw [mGet_put, mGet_put, lay_step hiD]
          by_cases ck0 : k = q.fr + (i : Int)
          · rw [if_pos ck0, if_pos ck0]; rfl
          · rw [if_neg ck0, if_neg ck0, if_neg ck0]; exact rel k
        · have d4 : (q.op == 4) = false := by simpa using c4
          have hb := hD c4
          subst hb
          simp (config := {maxSteps := 4000000}) only [U_model_Model_lay, q0, q1, q3, qs, qy1, qz1, e1, mSetP_put, d4, e5, reduceIte, reduceCtorEq, Nat.reduceEqDiff, Nat.reduceAdd, Int.reduceLT, Int.reduceLE, Int.reduceNeg, Int.reduceEq, Nat.reduceLT, Nat.reduceSub, Nat.reduceMul, Nat.reduceBEq, Nat.reduceLeDiff, Int.reduceBEq, Int.reduceBNe, Int.reduceToNat, ne_eq, implies_true, bA]
          refine ⟨(i + 1, mPutC ck' (q.fr + (i : Int)) es', mPutE ck' (q.fr + (i : Int)) (.str blankB) es'), rfl, ⟨hlt, ok1, rel.put fun k => ?_⟩, by omega⟩
          rw [lay_step hiD, List.getElem_replicate]
      · have d : decide ((i : Int) < (n : Int)) = false := by simpa using hlt
        have hin : i = n := by omega
        subst hin
        have hDt : D.take i = D := List.take_of_length_le (by omega)
        rw [hDt] at rel
        simp (config := {maxSteps := 4000000}) only [U_model_Model_lay, d, q0, q1, q3, qs, qy1, qz1, reduceIte, reduceCtorEq, Nat.reduceEqDiff, Nat.reduceAdd, Int.reduceLT, Int.reduceLE, Int.reduceNeg, Int.reduceEq, Nat.reduceLT, Nat.reduceSub, Nat.reduceMul, Nat.reduceBEq, Nat.reduceLeDiff, Int.reduceBEq, Int.reduceBNe, Int.reduceToNat, ne_eq, implies_true, bA]
        refine ⟨_, rfl, rfl, fpM b m (E1 ++ e :: E2), ⟨m, ck, _, h.upd (ck' := ck') (es' := es') (qs _ _) (q1 _ _) (fun j h2 h3 h4 => by rw [sx4 h3 h4]) ok rel hvol, fpM_upd.symm⟩, by simp, fun j hj hn' => ?_, fun j hj => .inl hj⟩
        rw [sx4 (fun c' => hn' (mem_fpM.2 (.inr (.inr (.inr ⟨e, he, c'.symm⟩))))) hj]
end Go.Proofs.Ythjnfjgejdlbfaa.Aw
