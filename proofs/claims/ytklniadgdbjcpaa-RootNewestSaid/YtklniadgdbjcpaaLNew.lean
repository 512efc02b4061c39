/-
  The statement on the newest root, as a contract: it returns true.
-/
import Derived.Test.YtklniadgdbjcpaaPRoots
import Derived.Test.YtklniadgdbjcpaaCodeW
set_option linter.unusedSimpArgs false
set_option linter.unusedVariables false
namespace Go.Proofs.Ytklniadgdbjcpaa.Aw
open Go.RowKit

theorem awakeN_spec : PCall Try.prog 9 [] (.bool true) := by
  refine pcall_go Try.func9 comp_law12_awake ?_
  have hw : writeR 7 [⟨3, 100, 258, 2⟩] = ([7, 0, 0, 0, 0, 1, 3, 0, 100, 0, 0, 0, 2, 1, 2], 0) := by decide
  simp (config := {maxSteps := 4000000}) only [U_law12_awake, reduceIte, reduceCtorEq, Nat.reduceEqDiff, Nat.reduceAdd, Int.reduceLT, Int.reduceLE, Int.reduceNeg, Int.reduceEq, Nat.reduceLT, Nat.reduceSub, Nat.reduceMul, Nat.reduceBEq, Nat.reduceLeDiff, Int.reduceBEq, Int.reduceBNe, Int.reduceToNat, ne_eq, implies_true, bA]
  refine callI (write_spec 7 [⟨3, 100, 258, 2⟩] (by decide)) ?_
  rw [hw]
  simp (config := {maxSteps := 4000000}) only [U_law12_awake, beq_self_eq_true, reduceIte, reduceCtorEq, Nat.reduceEqDiff, Nat.reduceAdd, Int.reduceLT, Int.reduceLE, Int.reduceNeg, Int.reduceEq, Nat.reduceLT, Nat.reduceSub, Nat.reduceMul, Nat.reduceBEq, Nat.reduceLeDiff, Int.reduceBEq, Int.reduceBNe, Int.reduceToNat, ne_eq, implies_true, bA]
def fewB (l : List Fd) : Bool := decide ((∀ x ∈ l, x.body.length ≤ 300) ∧ l.length ≤ 40)
theorem few_spec (l : List Fd) (hm : l.length ≤ 9223372036854775807) (hb : ∀ x ∈ l, x.body.length ≤ 9223372036854775807) : PCall Try.prog 17 [.slc (l.map rowF)] (.bool (fewB l)) := by
  refine pcall_dr Try.func17 comp_law12_few ?_
  simp (config := {maxSteps := 4000000}) only [U_law12_few, reduceIte, reduceCtorEq, Nat.reduceEqDiff, Nat.reduceAdd, Int.reduceLT, Int.reduceLE, Int.reduceNeg, Int.reduceEq, Nat.reduceLT, Nat.reduceSub, Nat.reduceMul, Nat.reduceBEq, Nat.reduceLeDiff, Int.reduceBEq, Int.reduceBNe, Int.reduceToNat, ne_eq, implies_true, bA]
  refine loopF (fun i : Nat => ⟨ofL [(0, .slc (l.map rowF)), (3, .int .i64 (i : Int))], []⟩) (fun i => i ≤ l.length ∧ ∀ x ∈ l.take i, x.body.length ≤ 300) (fun i => l.length - i) 0 ?_ ⟨Nat.zero_le _, fun x hx => by simp at hx⟩ ?_
  · simp (config := {maxSteps := 4000000}) only [U_law12_few, reduceIte, reduceCtorEq, Nat.reduceEqDiff, Nat.reduceAdd, Int.reduceLT, Int.reduceLE, Int.reduceNeg, Int.reduceEq, Nat.reduceLT, Nat.reduceSub, Nat.reduceMul, Nat.reduceBEq, Nat.reduceLeDiff, Int.reduceBEq, Int.reduceBNe, Int.reduceToNat, ne_eq, implies_true, bA]
  · rintro i ⟨hi, hj⟩
    by_cases hlt : i < l.length
    · have d := dT hlt
      obtain ⟨x, hx⟩ : ∃ x, l[i] = x := ⟨_, rfl⟩
      have hr : i < (l.map rowF).length := by simpa using hlt
      have i1 : ∀ OB : List AObj, islV OB [] 6 (.slc (l.map rowF)) (.int .i64 (i : Int)) = some (.fptr (rowF x)) := fun OB => by
        rw [islV_slc (k := .i64) hr (by simp [rowF])]; simp [hx]
      have hxm : x ∈ l := by rw [← hx]; exact List.getElem_mem hlt
      by_cases h3 : 300 < x.body.length
      · have d2 : decide ((300 : Int) < (x.body.length : Int)) = true := by simp; omega
        have hf : fewB l = false := by
          rw [fewB, decide_eq_false_iff_not]
          intro h; have := h.1 x hxm; omega
        rw [hf]
        simp (config := {maxSteps := 4000000}) only [U_law12_few, d, i1, d2, rowF, reduceIte, reduceCtorEq, Nat.reduceEqDiff, Nat.reduceAdd, Int.reduceLT, Int.reduceLE, Int.reduceNeg, Int.reduceEq, Nat.reduceLT, Nat.reduceSub, Nat.reduceMul, Nat.reduceBEq, Nat.reduceLeDiff, Int.reduceBEq, Int.reduceBNe, Int.reduceToNat, ne_eq, implies_true, bA]
      · have d2 : decide ((300 : Int) < (x.body.length : Int)) = false := by simp; omega
        have w1 : IntKind.i64.wrap ((i : Int) + 1) = ((i + 1 : Nat) : Int) := by rw [wrapI (by omega) (by omega)]; omega
        simp (config := {maxSteps := 4000000}) only [U_law12_few, d, i1, d2, rowF, w1, reduceIte, reduceCtorEq, Nat.reduceEqDiff, Nat.reduceAdd, Int.reduceLT, Int.reduceLE, Int.reduceNeg, Int.reduceEq, Nat.reduceLT, Nat.reduceSub, Nat.reduceMul, Nat.reduceBEq, Nat.reduceLeDiff, Int.reduceBEq, Int.reduceBNe, Int.reduceToNat, ne_eq, implies_true, bA]
        refine ⟨i + 1, rfl, ⟨hlt, fun y hy => ?_⟩, by omega⟩
        rw [List.take_succ_eq_append_getElem hlt, List.mem_append, List.mem_singleton] at hy
        rcases hy with hy | rfl
        · exact hj y hy
        · rw [hx]; omega
    · have d := dF hlt
      rw [List.take_of_length_le (by omega)] at hj
      have hf : fewB l = decide ((l.length : Int) ≤ 40) := by
        rw [fewB]; simp only [decide_eq_decide]; constructor
        · intro h; have := h.2; omega
        · intro h; exact ⟨hj, by omega⟩
      rw [hf]
      simp (config := {maxSteps := 4000000}) only [U_law12_few, d, reduceIte, reduceCtorEq, Nat.reduceEqDiff, Nat.reduceAdd, Int.reduceLT, Int.reduceLE, Int.reduceNeg, Int.reduceEq, Nat.reduceLT, Nat.reduceSub, Nat.reduceMul, Nat.reduceBEq, Nat.reduceLeDiff, Int.reduceBEq, Int.reduceBNe, Int.reduceToNat, ne_eq, implies_true, bA]
theorem fewB_yes {l : List Fd} (h : fewB l = true) : (∀ x ∈ l, x.body.length ≤ 300) ∧ l.length ≤ 40 := by simpa [fewB] using h
theorem isR_iff {x : Fd} : isR x = true ↔ x.kind = 4 ∧ x.space = 0 ∧ x.key = 0 ∧ (readR x.body).2.2 = 0 := by simp [isR]
theorem gen_in {x : Fd} (h : isR x = true) : 0 ≤ genF x ∧ genF x ≤ 1099511627775 := (mayR_iff.1 (rwrite_read (isR_iff.1 h).2.2.2).1).1

theorem ldF_off {l : List Fd} {i m off k : Nat} (hi : i < l.length) (hm : m = l.length) : ldL (some (lF l)) i off m k = if off + k ≤ 6 then some (((rowF l[i]).drop off).take k) else none := by
  by_cases h : off + k ≤ 6
  · rw [if_pos h, ldL_at (by simp [hm]) (by simpa using hi) (by simp [rowF]; omega)]; simp
  · rw [if_neg h]
    have h2 : ¬ off + k ≤ ((l.map rowF)[i]'(by simpa using hi)).length := by simp [rowF]; omega
    simp [ldL, hm, hi, rowF]; omega
theorem ap0 (ob l : List AObj) : (ob ++ l)[ob.length]? = l[0]? := by rw [List.getElem?_append_right (Nat.le_refl _)]; simp
theorem ap1 (ob l : List AObj) : (ob ++ l)[ob.length + 1]? = l[1]? := by rw [List.getElem?_append_right (by omega)]; simp
theorem ap2 (ob l : List AObj) : (ob ++ l)[ob.length + 2]? = l[2]? := by rw [List.getElem?_append_right (by omega)]; simp
theorem ap3 (ob l : List AObj) : (ob ++ l)[ob.length + 3]? = l[3]? := by rw [List.getElem?_append_right (by omega)]; simp
theorem ap4 (ob l : List AObj) : (ob ++ l)[ob.length + 4]? = l[4]? := by rw [List.getElem?_append_right (by omega)]; simp
theorem st0 (ob l : List AObj) (x : AObj) : (ob ++ l).set ob.length x = ob ++ l.set 0 x := by rw [List.set_append_right _ _ (Nat.le_refl _)]; simp
theorem st1 (ob l : List AObj) (x : AObj) : (ob ++ l).set (ob.length + 1) x = ob ++ l.set 1 x := by rw [List.set_append_right _ _ (by omega)]; simp
theorem st2 (ob l : List AObj) (x : AObj) : (ob ++ l).set (ob.length + 2) x = ob ++ l.set 2 x := by rw [List.set_append_right _ _ (by omega)]; simp
theorem st3 (ob l : List AObj) (x : AObj) : (ob ++ l).set (ob.length + 3) x = ob ++ l.set 3 x := by rw [List.set_append_right _ _ (by omega)]; simp
theorem st4 (ob l : List AObj) (x : AObj) : (ob ++ l).set (ob.length + 4) x = ob ++ l.set 4 x := by rw [List.set_append_right _ _ (by omega)]; simp
theorem appO_F {ob : List AObj} {fb : List Nat} {nw : Option Nat} {o : Nat} {L1 L2 : List Fd} (hf : fb.contains o = false) (ho : ob[o]? = some (.list 6 (L1.map rowF))) (h : (decide (L1.length ≤ 1000) && decide (L2.length ≤ 1000)) = true) :
    appO ob fb nw 6 (.osl o 0 L1.length) (some (L2.map rowF)) = some (.osl o 0 (L1.length + L2.length), ob.set o (.list 6 ((L1 ++ L2).map rowF))) := by
  simp only [Bool.and_eq_true, decide_eq_true_eq] at h
  rw [appO_osl hf ho (by simp) (by simp; omega) (by simp [rowsOk, rowF]) (by simp; omega)]
  simp
theorem tmod_in (a : Int) (n : Nat) : ∃ q, a.tmod ((n + 1 : Nat) : Int) = q ∧ -(n : Int) ≤ q ∧ q ≤ n := by
  refine ⟨_, rfl, ?_, ?_⟩
  · have := Int.lt_tmod_of_pos a (b := ((n + 1 : Nat) : Int)) (by omega); omega
  · have := Int.tmod_lt_of_pos a (b := ((n + 1 : Nat) : Int)) (by omega); omega
theorem tmod_at {q : Int} {n : Nat} (h : 0 ≤ q) : ∃ k : Nat, q.tmod ((n + 1 : Nat) : Int) = (k : Int) ∧ k ≤ n := by
  refine ⟨(q.tmod ((n + 1 : Nat) : Int)).toNat, ?_, ?_⟩
  · have := Int.tmod_nonneg ((n + 1 : Nat) : Int) h; omega
  · have := Int.tmod_lt_of_pos q (b := ((n + 1 : Nat) : Int)) (by omega); omega
theorem newest_law (l : List Fd) (at_ : Int) (more : List Sp) (hl : l.length ≤ 9223372036854775807) (hb : ∀ x ∈ l, x.body.length ≤ 9223372036854775807) (hm : more.length ≤ 9223372036854775807) :
    PCall Try.prog 8 [.slc (l.map rowF), .int .i64 at_, .slc (more.map rowSp)] (.bool true) := by
  refine pcall_dr Try.func8 comp_law12_RootNewest ?_
  simp (config := {maxSteps := 4000000}) only [U_law12_RootNewest, reduceIte, reduceCtorEq, Nat.reduceEqDiff, Nat.reduceAdd, Int.reduceLT, Int.reduceLE, Int.reduceNeg, Int.reduceEq, Nat.reduceLT, Nat.reduceSub, Nat.reduceMul, Nat.reduceBEq, Nat.reduceLeDiff, Int.reduceBEq, Int.reduceBNe, Int.reduceToNat, ne_eq, implies_true, bA]
  refine callI (few_spec l hl hb) ?_
  cases hfew : fewB l with
  | false =>
    simp (config := {maxSteps := 4000000}) only [U_law12_RootNewest, reduceIte, reduceCtorEq, Nat.reduceEqDiff, Nat.reduceAdd, Int.reduceLT, Int.reduceLE, Int.reduceNeg, Int.reduceEq, Nat.reduceLT, Nat.reduceSub, Nat.reduceMul, Nat.reduceBEq, Nat.reduceLeDiff, Int.reduceBEq, Int.reduceBNe, Int.reduceToNat, ne_eq, implies_true, bA]
    refine callI awakeN_spec ?_
    simp (config := {maxSteps := 4000000}) only [U_law12_RootNewest, reduceIte, reduceCtorEq, Nat.reduceEqDiff, Nat.reduceAdd, Int.reduceLT, Int.reduceLE, Int.reduceNeg, Int.reduceEq, Nat.reduceLT, Nat.reduceSub, Nat.reduceMul, Nat.reduceBEq, Nat.reduceLeDiff, Int.reduceBEq, Int.reduceBNe, Int.reduceToNat, ne_eq, implies_true, bA]
  | true =>
    obtain ⟨hb3, hl40⟩ := fewB_yes hfew
    by_cases h8 : 8 < more.length
    · have d8 : decide ((8 : Int) < (more.length : Int)) = true := by simp; omega
      simp (config := {maxSteps := 4000000}) only [U_law12_RootNewest, d8, reduceIte, reduceCtorEq, Nat.reduceEqDiff, Nat.reduceAdd, Int.reduceLT, Int.reduceLE, Int.reduceNeg, Int.reduceEq, Nat.reduceLT, Nat.reduceSub, Nat.reduceMul, Nat.reduceBEq, Nat.reduceLeDiff, Int.reduceBEq, Int.reduceBNe, Int.reduceToNat, ne_eq, implies_true, bA]
      refine callI awakeN_spec ?_
      simp (config := {maxSteps := 4000000}) only [U_law12_RootNewest, reduceIte, reduceCtorEq, Nat.reduceEqDiff, Nat.reduceAdd, Int.reduceLT, Int.reduceLE, Int.reduceNeg, Int.reduceEq, Nat.reduceLT, Nat.reduceSub, Nat.reduceMul, Nat.reduceBEq, Nat.reduceLeDiff, Int.reduceBEq, Int.reduceBNe, Int.reduceToNat, ne_eq, implies_true, bA]
    · have d8 : decide ((8 : Int) < (more.length : Int)) = false := by simp; omega
      simp (config := {maxSteps := 4000000}) only [U_law12_RootNewest, d8, reduceIte, reduceCtorEq, Nat.reduceEqDiff, Nat.reduceAdd, Int.reduceLT, Int.reduceLE, Int.reduceNeg, Int.reduceEq, Nat.reduceLT, Nat.reduceSub, Nat.reduceMul, Nat.reduceBEq, Nat.reduceLeDiff, Int.reduceBEq, Int.reduceBNe, Int.reduceToNat, ne_eq, implies_true, bA]
      refine callM (rootsA (ob := []) (l := l) (by omega) (fun z hz => by have := hb3 z hz; omega)) ?_
      rintro r OB ⟨Z, n, rfl, hn, sZ, pZ, -⟩
      have lZ : Z.length ≤ 40 := by rw [pZ.length_eq]; exact Nat.le_trans (List.length_filter_le _ _) hl40
      have hZr : ∀ z ∈ Z, isR z = true := fun z hz => (List.mem_filter.1 (pZ.mem_iff.1 hz)).2
      have hZb : ∀ z ∈ Z, z.body.length ≤ 300 := fun z hz => hb3 z (List.mem_filter.1 (pZ.mem_iff.1 hz)).1
      have hr : rowsO (some (lF Z)) 0 Z.length = some (Z.map rowF) := rowsO_all (by simp)
      obtain ⟨gz, hgz⟩ : ∃ gz : Nat → Int, ∀ i, gz i = if h : i - 1 < Z.length ∧ 0 < i then genF (Z[i - 1]'h.1) else -1 := ⟨_, fun i => rfl⟩
      have hg0 : gz 0 = -1 := by rw [hgz]; simp
      have hgs : ∀ i (h : i < Z.length), gz (i + 1) = genF Z[i] := fun i h => by rw [hgz, dif_pos ⟨by simpa using h, by omega⟩]; simp
      simp (config := {maxSteps := 4000000}) only [U_law12_RootNewest, reduceIte, reduceCtorEq, Nat.reduceEqDiff, Nat.reduceAdd, Int.reduceLT, Int.reduceLE, Int.reduceNeg, Int.reduceEq, Nat.reduceLT, Nat.reduceSub, Nat.reduceMul, Nat.reduceBEq, Nat.reduceLeDiff, Int.reduceBEq, Int.reduceBNe, Int.reduceToNat, ne_eq, implies_true, bA]
      refine loopF (fun i : Nat => ⟨ofL [(0, .slc (l.map rowF)), (1, .int .i64 at_), (2, .slc (more.map rowSp)), (7, .osl n 0 Z.length), (8, .int .i64 (gz i)), (9, .int .i64 (i : Int))], OB⟩) (fun i => i ≤ Z.length) (fun i => Z.length - i) 0 ?_ (Nat.zero_le _) ?_
      · simp (config := {maxSteps := 4000000}) only [U_law12_RootNewest, hg0, reduceIte, reduceCtorEq, Nat.reduceEqDiff, Nat.reduceAdd, Int.reduceLT, Int.reduceLE, Int.reduceNeg, Int.reduceEq, Nat.reduceLT, Nat.reduceSub, Nat.reduceMul, Nat.reduceBEq, Nat.reduceLeDiff, Int.reduceBEq, Int.reduceBNe, Int.reduceToNat, ne_eq, implies_true, bA]
        all_goals rfl
      · intro i hi
        by_cases hlt : i < Z.length
        · have d := dT hlt
          obtain ⟨z, hz⟩ : ∃ z, Z[i] = z := ⟨_, rfl⟩
          have hzm : z ∈ Z := by rw [← hz]; exact List.getElem_mem hlt
          have i1 := isF (o := n) (rfl : (i : Int) = _) hlt rfl
          have i2 := fun off k => ldF_off (off := off) (k := k) hlt (rfl : Z.length = Z.length)
          rw [hz] at i2
          have hzr := isR_iff.1 (hZr z hzm)
          have k0 : ((readR z.body).2.2 != 0) = false := by simp [hzr.2.2.2]
          have k1 : (z.kind != 4) = false := by simp [hzr.1]
          have w1 : IntKind.i64.wrap ((i : Int) + 1) = ((i + 1 : Nat) : Int) := by rw [wrapI (by omega) (by omega)]; omega
          have hgi : gz (i + 1) = (readR z.body).1 := by rw [hgs i hlt, hz]; rfl
          have hZb' := hZb z hzm
          by_cases hg : 0 ≤ gz i
          · have d2 : decide (0 ≤ gz i) = true := by simpa using hg
            have hle : ¬ gz i < (readR z.body).1 := by
              cases i with
              | zero => rw [hg0] at hg; omega
              | succ j =>
                rw [hgs j (by omega)]
                have hp := (List.pairwise_iff_getElem.1 sZ) j (j + 1) (by omega) hlt (by omega)
                rw [hz, ltF_no] at hp
                intro h; exact hp (.inl h)
            have d3 : decide (gz i < (readR z.body).1) = false := by simpa using hle
            simp (config := {maxSteps := 4000000}) only [U_law12_RootNewest, d, hn, hr, i1, i2, rowF, reduceIte, reduceCtorEq, Nat.reduceEqDiff, Nat.reduceAdd, Int.reduceLT, Int.reduceLE, Int.reduceNeg, Int.reduceEq, Nat.reduceLT, Nat.reduceSub, Nat.reduceMul, Nat.reduceBEq, Nat.reduceLeDiff, Int.reduceBEq, Int.reduceBNe, Int.reduceToNat, ne_eq, implies_true, bA]
            refine callI (read_spec z.body (by omega)) ?_
            simp (config := {maxSteps := 4000000}) only [U_law12_RootNewest, k0, k1, d2, d3, hn, i1, i2, rowF, w1, reduceIte, reduceCtorEq, Nat.reduceEqDiff, Nat.reduceAdd, Int.reduceLT, Int.reduceLE, Int.reduceNeg, Int.reduceEq, Nat.reduceLT, Nat.reduceSub, Nat.reduceMul, Nat.reduceBEq, Nat.reduceLeDiff, Int.reduceBEq, Int.reduceBNe, Int.reduceToNat, ne_eq, implies_true, bA]
            exact ⟨i + 1, by rw [hgi], hlt, by omega⟩
          · have d2 : decide (0 ≤ gz i) = false := by simpa using hg
            simp (config := {maxSteps := 4000000}) only [U_law12_RootNewest, d, hn, hr, i1, i2, rowF, reduceIte, reduceCtorEq, Nat.reduceEqDiff, Nat.reduceAdd, Int.reduceLT, Int.reduceLE, Int.reduceNeg, Int.reduceEq, Nat.reduceLT, Nat.reduceSub, Nat.reduceMul, Nat.reduceBEq, Nat.reduceLeDiff, Int.reduceBEq, Int.reduceBNe, Int.reduceToNat, ne_eq, implies_true, bA]
            refine callI (read_spec z.body (by omega)) ?_
            simp (config := {maxSteps := 4000000}) only [U_law12_RootNewest, k0, k1, d2, hn, i1, i2, rowF, w1, reduceIte, reduceCtorEq, Nat.reduceEqDiff, Nat.reduceAdd, Int.reduceLT, Int.reduceLE, Int.reduceNeg, Int.reduceEq, Nat.reduceLT, Nat.reduceSub, Nat.reduceMul, Nat.reduceBEq, Nat.reduceLeDiff, Int.reduceBEq, Int.reduceBNe, Int.reduceToNat, ne_eq, implies_true, bA]
            exact ⟨i + 1, by rw [hgi], hlt, by omega⟩
        · have d := dF hlt
          have hiZ : i = Z.length := by omega
          subst hiZ
          by_cases hZ : Z = []
          · have d0 : decide ((0 : Int) < (Z.length : Int)) = false := by rw [hZ]; rfl
            obtain ⟨G, hG⟩ : ∃ G : Int, -1 = G := ⟨_, rfl⟩
            have hGl : -1 ≤ G ∧ G ≤ 1099511627775 := by omega
            have hg : gz Z.length = G := by rw [hZ]; simpa [hG] using hg0
            have hG1 : ∀ y ∈ l.filter isR, genF y ≤ G := fun y hy => by rw [hZ] at pZ; have := pZ.mem_iff.2 hy; cases this
            have w2 : IntKind.i64.wrap (G + 1) = G + 1 := wrapI (by omega) (by omega)
            simp (config := {maxSteps := 4000000}) only [U_law12_RootNewest, d, d0, hn, hr, hg, w2, reduceIte, reduceCtorEq, Nat.reduceEqDiff, Nat.reduceAdd, Int.reduceLT, Int.reduceLE, Int.reduceNeg, Int.reduceEq, Nat.reduceLT, Nat.reduceSub, Nat.reduceMul, Nat.reduceBEq, Nat.reduceLeDiff, Int.reduceBEq, Int.reduceBNe, Int.reduceToNat, ne_eq, implies_true, bA]
            skip
            refine callI (write_spec (G + 1) more hm) ?_
            cases hmay : mayR (G + 1) more with
            | false =>
              have hw : writeR (G + 1) more = ([], 1) := by rw [writeR, if_neg (by rw [hmay]; simp)]
              rw [hw]
              simp (config := {maxSteps := 4000000}) only [U_law12_RootNewest, reduceIte, reduceCtorEq, Nat.reduceEqDiff, Nat.reduceAdd, Int.reduceLT, Int.reduceLE, Int.reduceNeg, Int.reduceEq, Nat.reduceLT, Nat.reduceSub, Nat.reduceMul, Nat.reduceBEq, Nat.reduceLeDiff, Int.reduceBEq, Int.reduceBNe, Int.reduceToNat, ne_eq, implies_true, bA]
              refine callI awakeN_spec ?_
              simp (config := {maxSteps := 4000000}) only [U_law12_RootNewest, beq_self_eq_true, reduceIte, reduceCtorEq, Nat.reduceEqDiff, Nat.reduceAdd, Int.reduceLT, Int.reduceLE, Int.reduceNeg, Int.reduceEq, Nat.reduceLT, Nat.reduceSub, Nat.reduceMul, Nat.reduceBEq, Nat.reduceLeDiff, Int.reduceBEq, Int.reduceBNe, Int.reduceToNat, ne_eq, implies_true, bA]
            | true =>
              have hw : writeR (G + 1) more = (recS (G + 1) more, 0) := by rw [writeR, if_pos hmay]
              have hlen := rwrite_len (G + 1) more
              have hrw := rread_write hmay
              rw [hw] at hlen ⊢
              simp only at hlen
              obtain ⟨S, hS⟩ : ∃ S, recS (G + 1) more = S := ⟨_, rfl⟩
              rw [hS] at hlen hrw ⊢
              have w3 : IntKind.i64.wrap ((l.length : Int) + 1) = ((l.length + 1 : Nat) : Int) := by rw [wrapI (by omega) (by omega)]; omega
              obtain ⟨q, hq, hq1, hq2⟩ := tmod_in at_ l.length
              have w4 : IntKind.i64.wrap (q + (l.length : Int)) = q + l.length := wrapI (by omega) (by omega)
              have w5 : IntKind.i64.wrap (q + (l.length : Int) + 1) = q + l.length + 1 := wrapI (by omega) (by omega)
              obtain ⟨k, hk, hkl⟩ := tmod_at (q := q + l.length + 1) (n := l.length) (by omega)
              have hne : ((l.length + 1 : Nat) : Int) ≠ 0 := by omega
              have r1 : ∀ a : Int, binI .rem .i64 a ((l.length + 1 : Nat) : Int) = some (.int .i64 (a.tmod ((l.length + 1 : Nat) : Int))) := fun a => binI_rem hne
              have g1 := gN OB
              have s1 := sN OB
              obtain ⟨x, hx⟩ : ∃ x : Fd, (⟨3000, 4, 0, 0, 0, S⟩ : Fd) = x := ⟨_, rfl⟩
              have hbx : rowF x = [.int .i64 3000, .int .i64 4, .int .i64 0, .int .i64 0, .int .i64 0, .str S] := by rw [← hx]; rfl
              have hrk : rowsOk 6 (l.map rowF) = true := by simp [rowsOk, rowF]
              have s2 : ∀ ob fb, sslV ob fb 6 (.slc (l.map rowF)) (some none) (some (some (k : Int))) = some (.slc ((l.take k).map rowF)) := fun ob fb => by rw [sslV_to hrk (by simpa using hkl), List.map_take]
              have s3 : ∀ ob fb, sslV ob fb 6 (.slc (l.map rowF)) (some (some (k : Int))) (some none) = some (.slc ((l.drop k).map rowF)) := fun ob fb => by rw [sslV_from hrk (by simpa using hkl), List.map_drop]
              have c1 : (decide (([] : List Fd).length ≤ 1000) && decide ((l.take k).length ≤ 1000)) = true := by simp; omega
              have c2 : (decide ((l.take k).length ≤ 1000) && decide ([x].length ≤ 1000)) = true := by simp; omega
              have c3 : (decide ((l.take k ++ [x]).length ≤ 1000) && decide ((l.drop k).length ≤ 1000)) = true := by simp; omega
              have a1 := fun nw ob h' => appO_F (fb := [OB.length + 1 + 2, OB.length + 1 + 3]) (nw := nw) (ob := ob) (o := OB.length + 1) (L1 := []) (L2 := l.take k) (by simp) h' c1
              have a2 := fun nw ob h' => appO_F (fb := [OB.length + 1 + 3]) (nw := nw) (ob := ob) (o := OB.length + 1) (L1 := l.take k) (L2 := [x]) (by simp) h' c2
              have a3 := fun nw ob h' => appO_F (fb := []) (nw := nw) (ob := ob) (o := OB.length + 1) (L1 := l.take k ++ [x]) (L2 := l.drop k) (by simp) h' c3
              simp only [List.map_nil, List.map_cons, List.map_append, List.length_nil, List.length_append, List.length_cons, Nat.zero_add, List.nil_append, List.length_take, List.length_drop, hbx] at a1 a2 a3
              have q0 : (OB.length == OB.length + 1) = false := by simp
              have q1 : (OB.length == OB.length + 1 + 1) = false := by simp; omega
              have q2 : (OB.length == OB.length + 1 + 2) = false := by simp; omega
              have q3 : (OB.length == OB.length + 1 + 3) = false := by simp; omega
              have hmin : min k l.length = k := Nat.min_eq_left hkl
              rw [hmin] at a1 a2 a3
              simp (config := {maxSteps := 4000000}) only [U_law12_RootNewest, w3, w4, w5, r1, hq, hk, g1, s1, ap0, ap1, ap2, ap3, ap4, st0, st1, st2, st3, st4, s2, s3, a1, a2, a3, AOps_tg, q0, q1, q2, q3, reduceIte, reduceCtorEq, Nat.reduceEqDiff, Nat.reduceAdd, Int.reduceLT, Int.reduceLE, Int.reduceNeg, Int.reduceEq, Nat.reduceLT, Nat.reduceSub, Nat.reduceMul, Nat.reduceBEq, Nat.reduceLeDiff, Int.reduceBEq, Int.reduceBNe, Int.reduceToNat, ne_eq, implies_true, bA]
              obtain ⟨M, hM⟩ : ∃ M, l.take k ++ x :: l.drop k = M := ⟨_, rfl⟩
              have hMl : M.length = l.length + 1 := by rw [← hM]; simp; omega
              have hMr : (l.take k).map rowF ++ (rowF x :: (l.drop k).map rowF) = M.map rowF := by rw [← hM]; simp
              rw [hbx] at hMr
              obtain ⟨bx, hbx2⟩ : ∃ bx, AObj.box [PV.int .i64 3000, .int .i64 4, .int .i64 0, .int .i64 0, .int .i64 0, .str S] = bx := ⟨_, rfl⟩
              have hxb : x.body = S := by rw [← hx]
              have hMb : ∀ z ∈ M, z.body.length ≤ 1000000 := fun z hz => by
                rw [← hM, List.mem_append, List.mem_cons] at hz
                rcases hz with hz | rfl | hz
                · have := hb3 z (List.mem_of_mem_take hz); omega
                · rw [hxb]; omega
                · have := hb3 z (List.mem_of_mem_drop hz); omega
              have hmid : (OB ++ [bx, AObj.list 6 (M.map rowF), AObj.none, AObj.none, AObj.none])[OB.length + 1]? = some (lF M) := by rw [ap1]; rfl
              have hkl2 : k + 1 + (l.length - k) = M.length := by omega
              rw [hMr, hbx2, hkl2]
              refine callM (rootsB (by omega) hMb hmid rfl) ?_
              rintro r OB2 ⟨Z2, n2, rfl, hn2, sZ2, pZ2, ex2, rfl⟩
              have hxR : isR x = true := by rw [isR_iff, ← hx]; simp [hrw]
              have hpx : Z2.Perm (x :: l.filter isR) := by
                refine pZ2.trans ?_
                rw [← hM, List.filter_append, List.filter_cons_of_pos hxR]
                refine List.perm_middle.trans ?_
                rw [← List.filter_append, List.take_append_drop]
              have hl2 : Z2.length = Z.length + 1 := by rw [hpx.length_eq, List.length_cons, pZ.length_eq]
              have h02 : 0 < Z2.length := by omega
              have hfst : Z2[0] = x := by
                obtain ⟨y, Z3, hZ3⟩ := cons_of Z2 (by intro h; rw [h] at h02; simp at h02)
                have hy0 : Z2[0] = y := by simp [hZ3]
                rw [hy0]
                have hxm : x ∈ y :: Z3 := by rw [← hZ3]; exact hpx.mem_iff.2 (by simp)
                have hym : y ∈ x :: l.filter isR := hpx.mem_iff.1 (by rw [hZ3]; simp)
                rw [List.mem_cons] at hym
                rcases hym with h | h
                · exact h
                · have h1 := hG1 y h
                  rw [hZ3] at sZ2
                  have h2 := srt_head ltF_ord sZ2 x hxm
                  rw [ltF_no] at h2
                  have h3 : genF x = G + 1 := by rw [genF, hxb, hrw]
                  exact (h2 (.inl (by omega))).elim
              have hn1 : (OB ++ [bx, AObj.list 6 (M.map rowF), AObj.none, AObj.none, AObj.none] ++ ex2)[n]? = some (lF Z) := by rw [List.append_assoc, List.getElem?_append_left (lt_of_getF hn)]; exact hn
              have hbo : (OB ++ [bx, AObj.list 6 (M.map rowF), AObj.none, AObj.none, AObj.none] ++ ex2)[OB.length]? = some bx := by rw [List.append_assoc, ap0]; rfl
              obtain ⟨OB3, hOB3⟩ : ∃ OB3, OB ++ [bx, AObj.list 6 (M.map rowF), AObj.none, AObj.none, AObj.none] ++ ex2 = OB3 := ⟨_, rfl⟩
              rw [hOB3] at hn1 hbo hn2 ⊢
              rw [← hbx2] at hbo
              have hr2 : rowsO (some (lF Z2)) 0 Z2.length = some (Z2.map rowF) := rowsO_all (by simp)
              have i3 := isF (o := n2) (v := 0) (i := 0) rfl h02 rfl
              have i4 := ldF h02 (rfl : Z2.length = Z2.length)
              rw [hfst, hbx] at i4
              have wl : IntKind.i64.wrap ((Z.length : Int) + 1) = (Z2.length : Int) := by rw [wrapI (by omega) (by omega)]; omega
              simp (config := {maxSteps := 4000000}) only [U_law12_RootNewest, reduceIte, reduceCtorEq, Nat.reduceEqDiff, Nat.reduceAdd, Int.reduceLT, Int.reduceLE, Int.reduceNeg, Int.reduceEq, Nat.reduceLT, Nat.reduceSub, Nat.reduceMul, Nat.reduceBEq, Nat.reduceLeDiff, Int.reduceBEq, Int.reduceBNe, Int.reduceToNat, ne_eq, implies_true, bA]
              refine callI awakeN_spec ?_
              simp (config := {maxSteps := 4000000}) only [U_law12_RootNewest, hn1, hn2, hr, hr2, wl, i3, i4, hbo, beq_self_eq_true, reduceIte, reduceCtorEq, Nat.reduceEqDiff, Nat.reduceAdd, Int.reduceLT, Int.reduceLE, Int.reduceNeg, Int.reduceEq, Nat.reduceLT, Nat.reduceSub, Nat.reduceMul, Nat.reduceBEq, Nat.reduceLeDiff, Int.reduceBEq, Int.reduceBNe, Int.reduceToNat, ne_eq, implies_true, bA]
          · have h0 : 0 < Z.length := len1 hZ
            have d0 : decide ((0 : Int) < (Z.length : Int)) = true := by simpa using h0
            obtain ⟨z0, hz0⟩ : ∃ z, Z[0] = z := ⟨_, rfl⟩
            have hzm : z0 ∈ Z := by rw [← hz0]; exact List.getElem_mem h0
            obtain ⟨G, hG⟩ : ∃ G : Int, (readR z0.body).1 = G := ⟨_, rfl⟩
            have hGl : -1 ≤ G ∧ G ≤ 1099511627775 := by have := gen_in (hZr z0 hzm); simp only [genF] at this; omega
            have i1 := isF (o := n) (v := 0) (i := 0) rfl h0 rfl
            have i2 := fun off k => ldF_off (off := off) (k := k) h0 (rfl : Z.length = Z.length)
            rw [hz0] at i2
            have hZb' := hZb z0 hzm
            have hG1 : ∀ y ∈ l.filter isR, genF y ≤ G := fun y hy => by
              have hyZ := pZ.mem_iff.2 hy
              obtain ⟨zz, Z', hZc⟩ := cons_of Z hZ
              have hzz : zz = z0 := by rw [← hz0]; simp [hZc]
              rw [hZc] at sZ hyZ
              have := srt_head ltF_ord sZ y hyZ
              rw [hzz, ltF_no] at this
              have h2 : ¬ genF z0 < genF y := fun h => this (.inl h)
              simp only [genF, hG] at h2 ⊢; omega
            have w2 : IntKind.i64.wrap (G + 1) = G + 1 := wrapI (by omega) (by omega)
            simp (config := {maxSteps := 4000000}) only [U_law12_RootNewest, d, d0, hn, hr, i1, i2, rowF, reduceIte, reduceCtorEq, Nat.reduceEqDiff, Nat.reduceAdd, Int.reduceLT, Int.reduceLE, Int.reduceNeg, Int.reduceEq, Nat.reduceLT, Nat.reduceSub, Nat.reduceMul, Nat.reduceBEq, Nat.reduceLeDiff, Int.reduceBEq, Int.reduceBNe, Int.reduceToNat, ne_eq, implies_true, bA]
            refine callI (read_spec z0.body (by omega)) ?_
            rw [hG]
            simp (config := {maxSteps := 4000000}) only [U_law12_RootNewest, w2, reduceIte, reduceCtorEq, Nat.reduceEqDiff, Nat.reduceAdd, Int.reduceLT, Int.reduceLE, Int.reduceNeg, Int.reduceEq, Nat.reduceLT, Nat.reduceSub, Nat.reduceMul, Nat.reduceBEq, Nat.reduceLeDiff, Int.reduceBEq, Int.reduceBNe, Int.reduceToNat, ne_eq, implies_true, bA]
            refine callI (write_spec (G + 1) more hm) ?_
            cases hmay : mayR (G + 1) more with
            | false =>
              have hw : writeR (G + 1) more = ([], 1) := by rw [writeR, if_neg (by rw [hmay]; simp)]
              rw [hw]
              simp (config := {maxSteps := 4000000}) only [U_law12_RootNewest, reduceIte, reduceCtorEq, Nat.reduceEqDiff, Nat.reduceAdd, Int.reduceLT, Int.reduceLE, Int.reduceNeg, Int.reduceEq, Nat.reduceLT, Nat.reduceSub, Nat.reduceMul, Nat.reduceBEq, Nat.reduceLeDiff, Int.reduceBEq, Int.reduceBNe, Int.reduceToNat, ne_eq, implies_true, bA]
              refine callI awakeN_spec ?_
              simp (config := {maxSteps := 4000000}) only [U_law12_RootNewest, beq_self_eq_true, reduceIte, reduceCtorEq, Nat.reduceEqDiff, Nat.reduceAdd, Int.reduceLT, Int.reduceLE, Int.reduceNeg, Int.reduceEq, Nat.reduceLT, Nat.reduceSub, Nat.reduceMul, Nat.reduceBEq, Nat.reduceLeDiff, Int.reduceBEq, Int.reduceBNe, Int.reduceToNat, ne_eq, implies_true, bA]
            | true =>
              have hw : writeR (G + 1) more = (recS (G + 1) more, 0) := by rw [writeR, if_pos hmay]
              have hlen := rwrite_len (G + 1) more
              have hrw := rread_write hmay
              rw [hw] at hlen ⊢
              simp only at hlen
              obtain ⟨S, hS⟩ : ∃ S, recS (G + 1) more = S := ⟨_, rfl⟩
              rw [hS] at hlen hrw ⊢
              have w3 : IntKind.i64.wrap ((l.length : Int) + 1) = ((l.length + 1 : Nat) : Int) := by rw [wrapI (by omega) (by omega)]; omega
              obtain ⟨q, hq, hq1, hq2⟩ := tmod_in at_ l.length
              have w4 : IntKind.i64.wrap (q + (l.length : Int)) = q + l.length := wrapI (by omega) (by omega)
              have w5 : IntKind.i64.wrap (q + (l.length : Int) + 1) = q + l.length + 1 := wrapI (by omega) (by omega)
              obtain ⟨k, hk, hkl⟩ := tmod_at (q := q + l.length + 1) (n := l.length) (by omega)
              have hne : ((l.length + 1 : Nat) : Int) ≠ 0 := by omega
              have r1 : ∀ a : Int, binI .rem .i64 a ((l.length + 1 : Nat) : Int) = some (.int .i64 (a.tmod ((l.length + 1 : Nat) : Int))) := fun a => binI_rem hne
              have g1 := gN OB
              have s1 := sN OB
              obtain ⟨x, hx⟩ : ∃ x : Fd, (⟨3000, 4, 0, 0, 0, S⟩ : Fd) = x := ⟨_, rfl⟩
              have hbx : rowF x = [.int .i64 3000, .int .i64 4, .int .i64 0, .int .i64 0, .int .i64 0, .str S] := by rw [← hx]; rfl
              have hrk : rowsOk 6 (l.map rowF) = true := by simp [rowsOk, rowF]
              have s2 : ∀ ob fb, sslV ob fb 6 (.slc (l.map rowF)) (some none) (some (some (k : Int))) = some (.slc ((l.take k).map rowF)) := fun ob fb => by rw [sslV_to hrk (by simpa using hkl), List.map_take]
              have s3 : ∀ ob fb, sslV ob fb 6 (.slc (l.map rowF)) (some (some (k : Int))) (some none) = some (.slc ((l.drop k).map rowF)) := fun ob fb => by rw [sslV_from hrk (by simpa using hkl), List.map_drop]
              have c1 : (decide (([] : List Fd).length ≤ 1000) && decide ((l.take k).length ≤ 1000)) = true := by simp; omega
              have c2 : (decide ((l.take k).length ≤ 1000) && decide ([x].length ≤ 1000)) = true := by simp; omega
              have c3 : (decide ((l.take k ++ [x]).length ≤ 1000) && decide ((l.drop k).length ≤ 1000)) = true := by simp; omega
              have a1 := fun nw ob h' => appO_F (fb := [OB.length + 1 + 2, OB.length + 1 + 3]) (nw := nw) (ob := ob) (o := OB.length + 1) (L1 := []) (L2 := l.take k) (by simp) h' c1
              have a2 := fun nw ob h' => appO_F (fb := [OB.length + 1 + 3]) (nw := nw) (ob := ob) (o := OB.length + 1) (L1 := l.take k) (L2 := [x]) (by simp) h' c2
              have a3 := fun nw ob h' => appO_F (fb := []) (nw := nw) (ob := ob) (o := OB.length + 1) (L1 := l.take k ++ [x]) (L2 := l.drop k) (by simp) h' c3
              simp only [List.map_nil, List.map_cons, List.map_append, List.length_nil, List.length_append, List.length_cons, Nat.zero_add, List.nil_append, List.length_take, List.length_drop, hbx] at a1 a2 a3
              have q0 : (OB.length == OB.length + 1) = false := by simp
              have q1 : (OB.length == OB.length + 1 + 1) = false := by simp; omega
              have q2 : (OB.length == OB.length + 1 + 2) = false := by simp; omega
              have q3 : (OB.length == OB.length + 1 + 3) = false := by simp; omega
              have hmin : min k l.length = k := Nat.min_eq_left hkl
              rw [hmin] at a1 a2 a3
              simp (config := {maxSteps := 4000000}) only [U_law12_RootNewest, w3, w4, w5, r1, hq, hk, g1, s1, ap0, ap1, ap2, ap3, ap4, st0, st1, st2, st3, st4, s2, s3, a1, a2, a3, AOps_tg, q0, q1, q2, q3, reduceIte, reduceCtorEq, Nat.reduceEqDiff, Nat.reduceAdd, Int.reduceLT, Int.reduceLE, Int.reduceNeg, Int.reduceEq, Nat.reduceLT, Nat.reduceSub, Nat.reduceMul, Nat.reduceBEq, Nat.reduceLeDiff, Int.reduceBEq, Int.reduceBNe, Int.reduceToNat, ne_eq, implies_true, bA]
              obtain ⟨M, hM⟩ : ∃ M, l.take k ++ x :: l.drop k = M := ⟨_, rfl⟩
              have hMl : M.length = l.length + 1 := by rw [← hM]; simp; omega
              have hMr : (l.take k).map rowF ++ (rowF x :: (l.drop k).map rowF) = M.map rowF := by rw [← hM]; simp
              rw [hbx] at hMr
              obtain ⟨bx, hbx2⟩ : ∃ bx, AObj.box [PV.int .i64 3000, .int .i64 4, .int .i64 0, .int .i64 0, .int .i64 0, .str S] = bx := ⟨_, rfl⟩
              have hxb : x.body = S := by rw [← hx]
              have hMb : ∀ z ∈ M, z.body.length ≤ 1000000 := fun z hz => by
                rw [← hM, List.mem_append, List.mem_cons] at hz
                rcases hz with hz | rfl | hz
                · have := hb3 z (List.mem_of_mem_take hz); omega
                · rw [hxb]; omega
                · have := hb3 z (List.mem_of_mem_drop hz); omega
              have hmid : (OB ++ [bx, AObj.list 6 (M.map rowF), AObj.none, AObj.none, AObj.none])[OB.length + 1]? = some (lF M) := by rw [ap1]; rfl
              have hkl2 : k + 1 + (l.length - k) = M.length := by omega
              rw [hMr, hbx2, hkl2]
              refine callM (rootsB (by omega) hMb hmid rfl) ?_
              rintro r OB2 ⟨Z2, n2, rfl, hn2, sZ2, pZ2, ex2, rfl⟩
              have hxR : isR x = true := by rw [isR_iff, ← hx]; simp [hrw]
              have hpx : Z2.Perm (x :: l.filter isR) := by
                refine pZ2.trans ?_
                rw [← hM, List.filter_append, List.filter_cons_of_pos hxR]
                refine List.perm_middle.trans ?_
                rw [← List.filter_append, List.take_append_drop]
              have hl2 : Z2.length = Z.length + 1 := by rw [hpx.length_eq, List.length_cons, pZ.length_eq]
              have h02 : 0 < Z2.length := by omega
              have hfst : Z2[0] = x := by
                obtain ⟨y, Z3, hZ3⟩ := cons_of Z2 (by intro h; rw [h] at h02; simp at h02)
                have hy0 : Z2[0] = y := by simp [hZ3]
                rw [hy0]
                have hxm : x ∈ y :: Z3 := by rw [← hZ3]; exact hpx.mem_iff.2 (by simp)
                have hym : y ∈ x :: l.filter isR := hpx.mem_iff.1 (by rw [hZ3]; simp)
                rw [List.mem_cons] at hym
                rcases hym with h | h
                · exact h
                · have h1 := hG1 y h
                  rw [hZ3] at sZ2
                  have h2 := srt_head ltF_ord sZ2 x hxm
                  rw [ltF_no] at h2
                  have h3 : genF x = G + 1 := by rw [genF, hxb, hrw]
                  exact (h2 (.inl (by omega))).elim
              have hn1 : (OB ++ [bx, AObj.list 6 (M.map rowF), AObj.none, AObj.none, AObj.none] ++ ex2)[n]? = some (lF Z) := by rw [List.append_assoc, List.getElem?_append_left (lt_of_getF hn)]; exact hn
              have hbo : (OB ++ [bx, AObj.list 6 (M.map rowF), AObj.none, AObj.none, AObj.none] ++ ex2)[OB.length]? = some bx := by rw [List.append_assoc, ap0]; rfl
              obtain ⟨OB3, hOB3⟩ : ∃ OB3, OB ++ [bx, AObj.list 6 (M.map rowF), AObj.none, AObj.none, AObj.none] ++ ex2 = OB3 := ⟨_, rfl⟩
              rw [hOB3] at hn1 hbo hn2 ⊢
              rw [← hbx2] at hbo
              have hr2 : rowsO (some (lF Z2)) 0 Z2.length = some (Z2.map rowF) := rowsO_all (by simp)
              have i3 := isF (o := n2) (v := 0) (i := 0) rfl h02 rfl
              have i4 := ldF h02 (rfl : Z2.length = Z2.length)
              rw [hfst, hbx] at i4
              have wl : IntKind.i64.wrap ((Z.length : Int) + 1) = (Z2.length : Int) := by rw [wrapI (by omega) (by omega)]; omega
              simp (config := {maxSteps := 4000000}) only [U_law12_RootNewest, reduceIte, reduceCtorEq, Nat.reduceEqDiff, Nat.reduceAdd, Int.reduceLT, Int.reduceLE, Int.reduceNeg, Int.reduceEq, Nat.reduceLT, Nat.reduceSub, Nat.reduceMul, Nat.reduceBEq, Nat.reduceLeDiff, Int.reduceBEq, Int.reduceBNe, Int.reduceToNat, ne_eq, implies_true, bA]
              refine callI awakeN_spec ?_
              simp (config := {maxSteps := 4000000}) only [U_law12_RootNewest, hn1, hn2, hr, hr2, wl, i3, i4, hbo, beq_self_eq_true, reduceIte, reduceCtorEq, Nat.reduceEqDiff, Nat.reduceAdd, Int.reduceLT, Int.reduceLE, Int.reduceNeg, Int.reduceEq, Nat.reduceLT, Nat.reduceSub, Nat.reduceMul, Nat.reduceBEq, Nat.reduceLeDiff, Int.reduceBEq, Int.reduceBNe, Int.reduceToNat, ne_eq, implies_true, bA]

abbrev shS : Sh := .st [.int .i64, .int .i64, .int .i64, .int .i64]
theorem fit_sp {cs : List PV} (h : shS.fit cs) : ∃ e : Sp, cs = rowSp e := by
  obtain ⟨_, _, rfl, ⟨x, rfl, _⟩, _, _, rfl, ⟨y, rfl, _⟩, _, _, rfl, ⟨z, rfl, _⟩, _, _, rfl, ⟨u, rfl, _⟩, rfl⟩ := h
  exact ⟨⟨x, y, z, u⟩, rfl⟩
theorem rows_sp : ∀ (rows : List (List PV)), (∀ r ∈ rows, shS.fit r) → ∃ l : List Sp, rows = l.map rowSp
  | [], _ => ⟨[], rfl⟩
  | r :: rows, h => by
    obtain ⟨l, h1⟩ := rows_sp rows fun x hx => h x (List.mem_cons_of_mem _ hx)
    obtain ⟨b, h3⟩ := fit_sp (h r (by simp))
    exact ⟨b :: l, by rw [h1, h3]; rfl⟩
abbrev shF : Sh := .st [.int .i64, .st [.int .i64, .int .i64, .int .i64, .int .i64, .str]]
theorem fit_fd {cs : List PV} (h : shF.fit cs) : ∃ e : Fd, cs = rowF e ∧ e.body.length ≤ maxLen := by
  obtain ⟨_, _, rfl, ⟨a, rfl, _⟩, _, _, rfl, ⟨_, _, rfl, ⟨x, rfl, _⟩, _, _, rfl, ⟨y, rfl, _⟩, _, _, rfl, ⟨z, rfl, _⟩, _, _, rfl, ⟨u, rfl, _⟩, _, _, rfl, ⟨s, rfl, hs⟩, rfl⟩, rfl⟩ := h
  exact ⟨⟨a, x, y, z, u, s⟩, rfl, hs⟩
theorem rows_fd : ∀ (rows : List (List PV)), (∀ r ∈ rows, shF.fit r) → ∃ l : List Fd, rows = l.map rowF ∧ ∀ x ∈ l, x.body.length ≤ maxLen
  | [], _ => ⟨[], rfl, fun x h => by cases h⟩
  | r :: rows, h => by
    obtain ⟨l, h1, h2⟩ := rows_fd rows fun x hx => h x (List.mem_cons_of_mem _ hx)
    obtain ⟨b, h3, h4⟩ := fit_fd (h r (by simp))
    refine ⟨b :: l, by rw [h1, h3]; rfl, fun x hx => ?_⟩
    rw [List.mem_cons] at hx
    rcases hx with rfl | hx
    · exact h4
    · exact h2 x hx
theorem newest_fit (ps : List PV) (h : fitVs [.sl shF, .int .i64, .sl shS] ps) : PCall Try.prog 8 ps (.bool true) := by
  obtain ⟨_, _, rfl, ⟨rows, hr, hl, hf⟩, _, _, rfl, ⟨k, hk, _⟩, _, _, rfl, ⟨rows2, hr2, hl2, hf2⟩, rfl⟩ := h
  cases hr; cases hk; cases hr2
  obtain ⟨l, rfl, hb⟩ := rows_fd rows hf
  obtain ⟨m, rfl⟩ := rows_sp rows2 hf2
  exact newest_law l k m (by simpa [maxLen] using hl) (fun x hx => by simpa [maxLen] using hb x hx) (by simpa [maxLen] using hl2)

end Go.Proofs.Ytklniadgdbjcpaa.Aw
