/-
  The statements of layer 1, as contracts: each returns true (the next three).
-/
import Derived.Test.YtamaonfdonfkaaaL01
import Derived.Test.YtamaonfdonfkaaaAwFit
set_option linter.unusedSimpArgs false
set_option linter.unusedVariables false
namespace Go.Proofs.Ytamaonfdonfkaaa.Aw
open Go.RowKit

theorem back_law (n : Nat) (w : Int) (a b : List UInt8) (hn : n < 18446744073709551616) (hw1 : -9223372036854775808 ≤ w) (hw2 : w ≤ 9223372036854775807) (hab : a.length + b.length + 8 ≤ 9223372036854775807) :
    PCall Try.prog 5 [.int .u64 n, .int .i64 w, .agg [.str a, .str b]] (.bool true) := by
  refine pcall_go Try.func5 comp_law01_FieldBack ?_
  simp (config := {maxSteps := 4000000}) only [U_law01_FieldBack, reduceIte, reduceCtorEq, Nat.reduceEqDiff, Nat.reduceAdd, Int.reduceLT, Int.reduceLE, Int.reduceNeg, Int.reduceEq, Nat.reduceLT, Nat.reduceSub, Nat.reduceMul, Nat.reduceBEq, Nat.reduceLeDiff, Int.reduceBEq, Int.reduceBNe, Int.reduceToNat, ne_eq, implies_true, bA]
  refine callI (put_spec n w hn) ?_
  by_cases h : wid w = true ∧ n < 256 ^ w.toNat
  · have hw := wid_iff.1 h.1
    obtain ⟨k, rfl⟩ : ∃ k : Nat, w = k := ⟨w.toNat, by omega⟩
    have hl : (leB k n).length = k := leB_len k n
    have hp : putS n k = (leB k n, 0) := by
      have h2 : n < 256 ^ k := by simpa using h.2
      simp [putS, h.1, h2]
    have e1 : binS .add a (leB k n) = some (.str (a ++ leB k n)) := binS_add (by omega)
    have e2 : binS .add (a ++ leB k n) b = some (.str (a ++ leB k n ++ b)) := binS_add (by simp; omega)
    simp (config := {maxSteps := 4000000}) only [U_law01_FieldBack, hp, e1, e2, reduceIte, reduceCtorEq, Nat.reduceEqDiff, Nat.reduceAdd, Int.reduceLT, Int.reduceLE, Int.reduceNeg, Int.reduceEq, Nat.reduceLT, Nat.reduceSub, Nat.reduceMul, Nat.reduceBEq, Nat.reduceLeDiff, Int.reduceBEq, Int.reduceBNe, Int.reduceToNat, ne_eq, implies_true, bA]
    refine callI (get_spec (a ++ (leB k n ++ b)) a.length k (by simp; omega) (by omega) (by omega) hw1 hw2) ?_
    have hg : getS (a ++ (leB k n ++ b)) a.length k = (n, 0) := by
      simp only [getS, h.1]
      rw [if_neg (by simp), if_neg (by simp; omega)]
      have : leN (List.take k (List.drop a.length (a ++ (leB k n ++ b)))) = n := by
        rw [List.drop_left, List.take_append_of_le_length (by omega), List.take_of_length_le (by omega), leN_leB, Nat.mod_eq_of_lt (by simpa using h.2)]
      rw [Int.toNat_natCast, Int.toNat_natCast, this]
    simp (config := {maxSteps := 4000000}) only [U_law01_FieldBack, hg, reduceIte, reduceCtorEq, Nat.reduceEqDiff, Nat.reduceAdd, Int.reduceLT, Int.reduceLE, Int.reduceNeg, Int.reduceEq, Nat.reduceLT, Nat.reduceSub, Nat.reduceMul, Nat.reduceBEq, Nat.reduceLeDiff, Int.reduceBEq, Int.reduceBNe, Int.reduceToNat, ne_eq, implies_true, bA]
    refine callI awake01_spec ?_
    simp (config := {maxSteps := 4000000}) only [U_law01_FieldBack, hl, reduceIte, reduceCtorEq, Nat.reduceEqDiff, Nat.reduceAdd, Int.reduceLT, Int.reduceLE, Int.reduceNeg, Int.reduceEq, Nat.reduceLT, Nat.reduceSub, Nat.reduceMul, Nat.reduceBEq, Nat.reduceLeDiff, Int.reduceBEq, Int.reduceBNe, Int.reduceToNat, ne_eq, implies_true, bA]
  · have hp : (putS n w).1 = [] ∧ ((putS n w).2 = 1 ∨ (putS n w).2 = 2) := by
      simp only [putS]
      by_cases h1 : wid w = true
      · have h2 : ¬ n < 256 ^ w.toNat := fun h2 => h ⟨h1, h2⟩
        simp [h1, h2]
      · simp only [Bool.not_eq_true] at h1; simp [h1]
    have d : ((putS n w).2 != 0) = true := by rcases hp.2 with e | e <;> rw [e] <;> decide
    simp (config := {maxSteps := 4000000}) only [U_law01_FieldBack, d, hp.1, reduceIte, reduceCtorEq, Nat.reduceEqDiff, Nat.reduceAdd, Int.reduceLT, Int.reduceLE, Int.reduceNeg, Int.reduceEq, Nat.reduceLT, Nat.reduceSub, Nat.reduceMul, Nat.reduceBEq, Nat.reduceLeDiff, Int.reduceBEq, Int.reduceBNe, Int.reduceToNat, ne_eq, implies_true, bA]
    refine callI awake01_spec ?_
    simp (config := {maxSteps := 4000000}) only [U_law01_FieldBack, reduceIte, reduceCtorEq, Nat.reduceEqDiff, Nat.reduceAdd, Int.reduceLT, Int.reduceLE, Int.reduceNeg, Int.reduceEq, Nat.reduceLT, Nat.reduceSub, Nat.reduceMul, Nat.reduceBEq, Nat.reduceLeDiff, Int.reduceBEq, Int.reduceBNe, Int.reduceToNat, ne_eq, implies_true, bA]

theorem leN_split (l : List UInt8) (i : Nat) (h : i < l.length) : leN l = leN (l.take i) + 256 ^ i * (l[i].toNat + 256 * leN (l.drop (i + 1))) := by
  have h1 : leN l = leN (l.take i ++ l.drop i) := by rw [List.take_append_drop]
  rw [h1, leN_append, leN_step h, List.length_take, Nat.min_eq_left (by omega)]
  congr 2; omega
theorem leN_rise (a b : List UInt8) (i : Nat) (h : i < a.length) (h' : i < b.length) (he : a.drop (i + 1) = b.drop (i + 1)) (hne : a[i].toNat < b[i].toNat) : leN a < leN b := by
  rw [leN_split a i h, leN_split b i h', he]
  have h1 := leN_lt (a.take i)
  rw [List.length_take, Nat.min_eq_left (by omega)] at h1
  have h2 : 256 ^ i * (a[i].toNat + 1 + 256 * leN (b.drop (i + 1))) ≤ 256 ^ i * (b[i].toNat + 256 * leN (b.drop (i + 1))) := Nat.mul_le_mul_left _ (by omega)
  have h3 : 256 ^ i * (a[i].toNat + 1 + 256 * leN (b.drop (i + 1))) = 256 ^ i * (a[i].toNat + 256 * leN (b.drop (i + 1))) + 256 ^ i := by
    rw [show a[i].toNat + 1 + 256 * leN (b.drop (i + 1)) = (a[i].toNat + 256 * leN (b.drop (i + 1))) + 1 by omega, Nat.mul_add, Nat.mul_one]
  omega

theorem rises_law (n m : Nat) (w : Int) (hn : n < 18446744073709551616) (hm : m < 18446744073709551616) :
    PCall Try.prog 6 [.int .u64 n, .int .u64 m, .int .i64 w] (.bool true) := by
  refine pcall_go Try.func6 comp_law01_FieldRises ?_
  simp (config := {maxSteps := 4000000}) only [U_law01_FieldRises, reduceIte, reduceCtorEq, Nat.reduceEqDiff, Nat.reduceAdd, Int.reduceLT, Int.reduceLE, Int.reduceNeg, Int.reduceEq, Nat.reduceLT, Nat.reduceSub, Nat.reduceMul, Nat.reduceBEq, Nat.reduceLeDiff, Int.reduceBEq, Int.reduceBNe, Int.reduceToNat, ne_eq, implies_true, bA]
  refine callI (put_spec n w hn) ?_
  simp (config := {maxSteps := 4000000}) only [U_law01_FieldRises, reduceIte, reduceCtorEq, Nat.reduceEqDiff, Nat.reduceAdd, Int.reduceLT, Int.reduceLE, Int.reduceNeg, Int.reduceEq, Nat.reduceLT, Nat.reduceSub, Nat.reduceMul, Nat.reduceBEq, Nat.reduceLeDiff, Int.reduceBEq, Int.reduceBNe, Int.reduceToNat, ne_eq, implies_true, bA]
  refine callI (put_spec m w hm) ?_
  have hp : ∀ n, ¬ (wid w = true ∧ n < 256 ^ w.toNat) → ((putS n w).2 != 0) = true := by
    intro n h
    simp only [putS]
    by_cases h1 : wid w = true
    · have h2 : ¬ n < 256 ^ w.toNat := fun h2 => h ⟨h1, h2⟩
      simp [h1, h2]
    · simp only [Bool.not_eq_true] at h1; simp [h1]
  by_cases h : wid w = true ∧ n < 256 ^ w.toNat
  · by_cases h' : wid w = true ∧ m < 256 ^ w.toNat
    · have hw := wid_iff.1 h.1
      obtain ⟨k, rfl⟩ : ∃ k : Nat, w = k := ⟨w.toNat, by omega⟩
      have h2 : n < 256 ^ k := by simpa using h.2
      have h2' : m < 256 ^ k := by simpa using h'.2
      have hp1 : putS n k = (leB k n, 0) := by simp [putS, h.1, h2]
      have hp2 : putS m k = (leB k m, 0) := by simp [putS, h.1, h2']
      have hl1 : (leB k n).length = k := leB_len k n
      have hl2 : (leB k m).length = k := leB_len k m
      have e5 : IntKind.i64.wrap ((k : Int) - 1) = (k : Int) - 1 := wrapI (by omega) (by omega)
      have d0 : ((k : Int) != (k : Int)) = false := by simp
      simp (config := {maxSteps := 4000000}) only [U_law01_FieldRises, hp1, hp2, hl1, hl2, e5, d0, reduceIte, reduceCtorEq, Nat.reduceEqDiff, Nat.reduceAdd, Int.reduceLT, Int.reduceLE, Int.reduceNeg, Int.reduceEq, Nat.reduceLT, Nat.reduceSub, Nat.reduceMul, Nat.reduceBEq, Nat.reduceLeDiff, Int.reduceBEq, Int.reduceBNe, Int.reduceToNat, ne_eq, implies_true, bA]
      obtain ⟨A, hA⟩ : ∃ A, A = leB k n := ⟨_, rfl⟩
      obtain ⟨B, hB⟩ : ∃ B, B = leB k m := ⟨_, rfl⟩
      have hlA : A.length = k := by rw [hA]; exact hl1
      have hlB : B.length = k := by rw [hB]; exact hl2
      have hnA : leN A = n := by rw [hA, leN_leB, Nat.mod_eq_of_lt h2]
      have hnB : leN B = m := by rw [hB, leN_leB, Nat.mod_eq_of_lt h2']
      rw [← hA, ← hB]
      refine loopF (fun j : Nat => ⟨ofL [(0, .int .u64 n), (1, .int .u64 m), (7, .str A), (9, .str B), (11, .int .i64 ((k : Int) - 1 - j))], []⟩) (fun j => j ≤ k ∧ A.drop (k - j) = B.drop (k - j)) (fun j => k - j) 0 ?_ ⟨by omega, by rw [List.drop_of_length_le (by omega), List.drop_of_length_le (by omega)]⟩ ?_
      · simp (config := {maxSteps := 4000000}) only [U_law01_FieldRises, reduceIte, reduceCtorEq, Nat.reduceEqDiff, Nat.reduceAdd, Int.reduceLT, Int.reduceLE, Int.reduceNeg, Int.reduceEq, Nat.reduceLT, Nat.reduceSub, Nat.reduceMul, Nat.reduceBEq, Nat.reduceLeDiff, Int.reduceBEq, Int.reduceBNe, Int.reduceToNat, ne_eq, implies_true, bA]
        simp
      · intro j ⟨hj, he⟩
        by_cases h5 : j = k
        · have d5 : decide (0 ≤ (k : Int) - 1 - (j : Int)) = false := by simp; omega
          simp (config := {maxSteps := 4000000}) only [U_law01_FieldRises, d5, reduceIte, reduceCtorEq, Nat.reduceEqDiff, Nat.reduceAdd, Int.reduceLT, Int.reduceLE, Int.reduceNeg, Int.reduceEq, Nat.reduceLT, Nat.reduceSub, Nat.reduceMul, Nat.reduceBEq, Nat.reduceLeDiff, Int.reduceBEq, Int.reduceBNe, Int.reduceToNat, ne_eq, implies_true, bA]
          refine callI awake01_spec ?_
          have hnm : n = m := by
            rw [h5, Nat.sub_self] at he
            simp only [List.drop_zero] at he
            rw [← hnA, ← hnB, he]
          subst hnm
          simp (config := {maxSteps := 4000000}) only [U_law01_FieldRises, reduceIte, reduceCtorEq, Nat.reduceEqDiff, Nat.reduceAdd, Int.reduceLT, Int.reduceLE, Int.reduceNeg, Int.reduceEq, Nat.reduceLT, Nat.reduceSub, Nat.reduceMul, Nat.reduceBEq, Nat.reduceLeDiff, Int.reduceBEq, Int.reduceBNe, Int.reduceToNat, ne_eq, implies_true, bA]
        · have d5 : decide (0 ≤ (k : Int) - 1 - (j : Int)) = true := by simp; omega
          have e6 : (k : Int) - 1 - (j : Int) = ((k - 1 - j : Nat) : Int) := by omega
          have d5' : decide (0 ≤ ((k - 1 - j : Nat) : Int)) = true := by simp
          have hiA : k - 1 - j < A.length := by omega
          have hiB : k - 1 - j < B.length := by omega
          have e7 : IntKind.i64.wrap (((k - 1 - j : Nat) : Int) - 1) = (k : Int) - 1 - ((j + 1 : Nat) : Int) := by rw [wrapI (by omega) (by omega)]; omega
          have hs1 : k - 1 - j + 1 = k - j := by omega
          by_cases hne : A[k - 1 - j] = B[k - 1 - j]
          · have d6 : ((A[k - 1 - j].toNat : Int) != (B[k - 1 - j].toNat : Int)) = false := by rw [hne]; simp
            simp (config := {maxSteps := 4000000}) only [U_law01_FieldRises, e6, d5', idxsV_at hiA, idxsV_at hiB, d6, e7, reduceIte, reduceCtorEq, Nat.reduceEqDiff, Nat.reduceAdd, Int.reduceLT, Int.reduceLE, Int.reduceNeg, Int.reduceEq, Nat.reduceLT, Nat.reduceSub, Nat.reduceMul, Nat.reduceBEq, Nat.reduceLeDiff, Int.reduceBEq, Int.reduceBNe, Int.reduceToNat, ne_eq, implies_true, bA]
            refine ⟨j + 1, rfl, ⟨by omega, ?_⟩, by omega⟩
            rw [show k - (j + 1) = k - 1 - j by omega, List.drop_eq_getElem_cons hiA, List.drop_eq_getElem_cons hiB, hs1, he, hne]
          · have hne2 : A[k - 1 - j].toNat ≠ B[k - 1 - j].toNat := fun e => hne (UInt8.toNat_inj.1 e)
            have d6 : ((A[k - 1 - j].toNat : Int) != (B[k - 1 - j].toNat : Int)) = true := by simp; omega
            have hcmp : decide ((A[k - 1 - j].toNat : Int) < (B[k - 1 - j].toNat : Int)) = decide ((n : Int) < (m : Int)) := by
              rcases Nat.lt_or_gt_of_ne hne2 with hlt | hlt
              · have := leN_rise A B _ hiA hiB (by rw [hs1]; exact he) hlt
                rw [hnA, hnB] at this
                have a1 : (A[k - 1 - j].toNat : Int) < (B[k - 1 - j].toNat : Int) := by omega
                have a2 : (n : Int) < (m : Int) := by omega
                simp [a1, a2]
              · have := leN_rise B A _ hiB hiA (by rw [hs1]; exact he.symm) hlt
                rw [hnA, hnB] at this
                have a1 : ¬ (A[k - 1 - j].toNat : Int) < (B[k - 1 - j].toNat : Int) := by omega
                have a2 : ¬ (n : Int) < (m : Int) := by omega
                simp [a1, a2]
            simp (config := {maxSteps := 4000000}) only [U_law01_FieldRises, e6, d5', idxsV_at hiA, idxsV_at hiB, d6, reduceIte, reduceCtorEq, Nat.reduceEqDiff, Nat.reduceAdd, Int.reduceLT, Int.reduceLE, Int.reduceNeg, Int.reduceEq, Nat.reduceLT, Nat.reduceSub, Nat.reduceMul, Nat.reduceBEq, Nat.reduceLeDiff, Int.reduceBEq, Int.reduceBNe, Int.reduceToNat, ne_eq, implies_true, bA]
            refine callI awake01_spec ?_
            simp (config := {maxSteps := 4000000}) only [U_law01_FieldRises, e6, d5', idxsV_at hiA, idxsV_at hiB, d6, hcmp, reduceIte, reduceCtorEq, Nat.reduceEqDiff, Nat.reduceAdd, Int.reduceLT, Int.reduceLE, Int.reduceNeg, Int.reduceEq, Nat.reduceLT, Nat.reduceSub, Nat.reduceMul, Nat.reduceBEq, Nat.reduceLeDiff, Int.reduceBEq, Int.reduceBNe, Int.reduceToNat, ne_eq, implies_true, bA]
    · have d2 := hp m h'
      have d1 : ((putS n w).2 != 0) = false := by
        have h2 := h.2
        simp [putS, h.1, h2]
      simp (config := {maxSteps := 4000000}) only [U_law01_FieldRises, d1, d2, reduceIte, reduceCtorEq, Nat.reduceEqDiff, Nat.reduceAdd, Int.reduceLT, Int.reduceLE, Int.reduceNeg, Int.reduceEq, Nat.reduceLT, Nat.reduceSub, Nat.reduceMul, Nat.reduceBEq, Nat.reduceLeDiff, Int.reduceBEq, Int.reduceBNe, Int.reduceToNat, ne_eq, implies_true, bA]
      refine callI awake01_spec ?_
      simp (config := {maxSteps := 4000000}) only [U_law01_FieldRises, reduceIte, reduceCtorEq, Nat.reduceEqDiff, Nat.reduceAdd, Int.reduceLT, Int.reduceLE, Int.reduceNeg, Int.reduceEq, Nat.reduceLT, Nat.reduceSub, Nat.reduceMul, Nat.reduceBEq, Nat.reduceLeDiff, Int.reduceBEq, Int.reduceBNe, Int.reduceToNat, ne_eq, implies_true, bA]
  · have d1 := hp n h
    simp (config := {maxSteps := 4000000}) only [U_law01_FieldRises, d1, reduceIte, reduceCtorEq, Nat.reduceEqDiff, Nat.reduceAdd, Int.reduceLT, Int.reduceLE, Int.reduceNeg, Int.reduceEq, Nat.reduceLT, Nat.reduceSub, Nat.reduceMul, Nat.reduceBEq, Nat.reduceLeDiff, Int.reduceBEq, Int.reduceBNe, Int.reduceToNat, ne_eq, implies_true, bA]
    refine callI awake01_spec ?_
    simp (config := {maxSteps := 4000000}) only [U_law01_FieldRises, reduceIte, reduceCtorEq, Nat.reduceEqDiff, Nat.reduceAdd, Int.reduceLT, Int.reduceLE, Int.reduceNeg, Int.reduceEq, Nat.reduceLT, Nat.reduceSub, Nat.reduceMul, Nat.reduceBEq, Nat.reduceLeDiff, Int.reduceBEq, Int.reduceBNe, Int.reduceToNat, ne_eq, implies_true, bA]

theorem badW_append {u v : List Int} : badW (u ++ v) = (badW u || badW v) := by simp [badW]
theorem takeL_append : ∀ (u v : List Int) (s : List UInt8), takeL s (u ++ v) = (takeL s u).bind fun x => (takeL x.2 v).map fun y => (x.1 ++ y.1, y.2)
  | [], v, s => by simp [takeL]
  | w :: u, v, s => by
    rw [List.cons_append, takeL, takeL]
    split
    · rfl
    · rw [takeL_append u v]
      cases takeL (s.drop w.toNat) u with
      | none => rfl
      | some x =>
        simp only [Option.bind_some]
        cases takeL x.2 v <;> simp
theorem takeS_split (u v : List Int) (s : List UInt8) :
    ((takeS s u).2.2 ≠ 0 → (takeS s (u ++ v)).2.2 ≠ 0) ∧
    ((takeS s u).2.2 = 0 → (takeS (takeS s u).2.1 v).2.2 ≠ 0 → (takeS s (u ++ v)).2.2 = (takeS (takeS s u).2.1 v).2.2) ∧
    ((takeS s u).2.2 = 0 → (takeS (takeS s u).2.1 v).2.2 = 0 → (takeS s (u ++ v)).2.2 = 0 ∧ (takeS s (u ++ v)).2.1 = (takeS (takeS s u).2.1 v).2.1 ∧ (takeS s (u ++ v)).1 = (takeS s u).1 ++ (takeS (takeS s u).2.1 v).1) := by
  simp only [takeS, badW_append, takeL_append]
  cases hu : badW u
  · cases hv : badW v
    · cases h1 : takeL s u with
      | none => simp
      | some x =>
        obtain ⟨a, m⟩ := x
        cases h2 : takeL m v with
        | none => simp [h2]
        | some y => simp [h2]
    · cases h1 : takeL s u with
      | none => simp
      | some x => simp
  · simp
theorem takeS_str (s : List UInt8) (ws : List Int) : (takeS s ws).2.1.length ≤ s.length := by
  have key : ∀ (ws : List Int) (s : List UInt8) ns r, takeL s ws = some (ns, r) → r.length ≤ s.length := by
    intro ws
    induction ws with
    | nil => intro s ns r h; simp [takeL] at h; rw [h.2]; exact Nat.le_refl _
    | cons w ws ih =>
      intro s ns r h
      simp only [takeL] at h
      split at h
      · cases h
      · cases he : takeL (s.drop w.toNat) ws with
        | none => rw [he] at h; cases h
        | some x =>
          obtain ⟨a, b⟩ := x
          rw [he] at h
          simp only [Option.some.injEq, Prod.mk.injEq] at h
          have := ih _ a b he
          rw [h.2] at this
          simp at this; omega
  simp only [takeS]
  split
  · simp
  · cases he : takeL s ws with
    | none => simp
    | some x =>
      obtain ⟨a, b⟩ := x
      exact key ws s a b he

theorem splits_law (s : List UInt8) (ws : List Int) (k0 : Int) (hs : s.length ≤ 9223372036854775807) (hw0 : ws.length ≤ 9223372036854775807) (hk1 : -9223372036854775808 ≤ k0) (hk2 : k0 ≤ 9223372036854775807) :
    PCall Try.prog 8 [.str s, .slc (rowsZ .i64 ws), .int .i64 k0] (.bool true) := by
  refine pcall_go Try.func8 comp_law01_FieldSplits ?_
  by_cases h : ws.length ≤ 300
  · have d : decide ((300 : Int) < (ws.length : Int)) = false := by simp; omega
    obtain ⟨m, hm, hm0⟩ : ∃ m : Nat, (m : Int) = IntKind.i64.wrap ((ws.length : Int) + 1) ∧ m = ws.length + 1 := ⟨ws.length + 1, by rw [wrapI (by omega) (by omega)]; omega, rfl⟩
    have hm' : (m : Int) ≠ 0 := by omega
    obtain ⟨k, hk, hkl⟩ : ∃ k : Nat, (k : Int) = (IntKind.i64.wrap (IntKind.i64.wrap (k0.tmod m + (ws.length : Int)) + 1)).tmod m ∧ k ≤ ws.length := by
      have hp : (0 : Int) < m := by omega
      have ha := Int.tmod_lt_of_pos k0 hp
      have hb : -(m : Int) < k0.tmod m := by have := Int.lt_tmod_of_pos k0 hp; omega
      rw [wrapI (n := k0.tmod m + (ws.length : Int)) (by omega) (by omega), wrapI (by omega) (by omega)]
      have hc := Int.tmod_nonneg (m : Int) (show (0 : Int) ≤ k0.tmod m + (ws.length : Int) + 1 by omega)
      have hd := Int.tmod_lt_of_pos (k0.tmod m + (ws.length : Int) + 1) hp
      exact ⟨((k0.tmod m + (ws.length : Int) + 1).tmod m).toNat, by omega, by omega⟩
    have hkr : k ≤ (rowsZ .i64 ws).length := by rw [rowsZ_len]; exact hkl
    simp (config := {maxSteps := 4000000}) only [U_law01_FieldSplits, d, ← hm, binI_rem hm', ← hk, reduceIte, reduceCtorEq, Nat.reduceEqDiff, Nat.reduceAdd, Int.reduceLT, Int.reduceLE, Int.reduceNeg, Int.reduceEq, Nat.reduceLT, Nat.reduceSub, Nat.reduceMul, Nat.reduceBEq, Nat.reduceLeDiff, Int.reduceBEq, Int.reduceBNe, Int.reduceToNat, ne_eq, implies_true, bA]
    refine callI (take_spec s ws hs h) ?_
    simp (config := {maxSteps := 4000000}) only [U_law01_FieldSplits, sslV_to rowsOk_Z hkr, rowsZ_take, reduceIte, reduceCtorEq, Nat.reduceEqDiff, Nat.reduceAdd, Int.reduceLT, Int.reduceLE, Int.reduceNeg, Int.reduceEq, Nat.reduceLT, Nat.reduceSub, Nat.reduceMul, Nat.reduceBEq, Nat.reduceLeDiff, Int.reduceBEq, Int.reduceBNe, Int.reduceToNat, ne_eq, implies_true, bA]
    refine callI (take_spec s (ws.take k) hs (by simp; omega)) ?_
    have hsp := takeS_split (ws.take k) (ws.drop k) s
    rw [List.take_append_drop] at hsp
    obtain ⟨hs1, hs2, hs3⟩ := hsp
    by_cases hf : (takeS s (ws.take k)).2.2 = 0
    · have d1 : ((takeS s (ws.take k)).2.2 != 0) = false := by simp [hf]
      have hle := takeS_str s (ws.take k)
      simp (config := {maxSteps := 4000000}) only [U_law01_FieldSplits, d1, sslV_from rowsOk_Z hkr, rowsZ_drop, reduceIte, reduceCtorEq, Nat.reduceEqDiff, Nat.reduceAdd, Int.reduceLT, Int.reduceLE, Int.reduceNeg, Int.reduceEq, Nat.reduceLT, Nat.reduceSub, Nat.reduceMul, Nat.reduceBEq, Nat.reduceLeDiff, Int.reduceBEq, Int.reduceBNe, Int.reduceToNat, ne_eq, implies_true, bA]
      refine callI (take_spec (takeS s (ws.take k)).2.1 (ws.drop k) (by omega) (by simp; omega)) ?_
      by_cases hg : (takeS (takeS s (ws.take k)).2.1 (ws.drop k)).2.2 = 0
      · have d2 : ((takeS (takeS s (ws.take k)).2.1 (ws.drop k)).2.2 != 0) = false := by simp [hg]
        obtain ⟨r1, r2, r3⟩ := hs3 hf hg
        have l1 := takeS_len s (ws.take k)
        have l2 := takeS_len (takeS s (ws.take k)).2.1 (ws.drop k)
        have l3 := takeS_len s ws
        simp only [List.length_take, List.length_drop] at l1 l2
        simp (config := {maxSteps := 4000000}) only [U_law01_FieldSplits, d2, reduceIte, reduceCtorEq, Nat.reduceEqDiff, Nat.reduceAdd, Int.reduceLT, Int.reduceLE, Int.reduceNeg, Int.reduceEq, Nat.reduceLT, Nat.reduceSub, Nat.reduceMul, Nat.reduceBEq, Nat.reduceLeDiff, Int.reduceBEq, Int.reduceBNe, Int.reduceToNat, ne_eq, implies_true, bA]
        refine callI awake01_spec ?_
        have ha1 : appO [AObj.list 1 []] [] none 1 (.osl 0 0 0) (some (rowsN .u64 (takeS s (ws.take k)).1)) = some (.osl 0 0 (takeS s (ws.take k)).1.length, [AObj.list 1 (rowsN .u64 (takeS s (ws.take k)).1)]) := by
          have := app_Ns (ob := [AObj.list 1 (rowsN .u64 [])]) (fb := []) (nw := none) (o := 0) (n := 0) (k := .u64) (l := []) (m := (takeS s (ws.take k)).1) rfl rfl rfl (by simp) (by omega)
          simpa [rowsN_nil] using this
        have ha2 : appO [AObj.list 1 (rowsN .u64 (takeS s (ws.take k)).1)] [] none 1 (.osl 0 0 (takeS s (ws.take k)).1.length) (some (rowsN .u64 (takeS (takeS s (ws.take k)).2.1 (ws.drop k)).1)) = some (.osl 0 0 (takeS s ws).1.length, [AObj.list 1 (rowsN .u64 (takeS s ws).1)]) := by
          have := app_Ns (ob := [AObj.list 1 (rowsN .u64 (takeS s (ws.take k)).1)]) (fb := []) (nw := none) (o := 0) (n := (takeS s (ws.take k)).1.length) (k := .u64) (l := (takeS s (ws.take k)).1) (m := (takeS (takeS s (ws.take k)).2.1 (ws.drop k)).1) rfl rfl rfl (by omega) (by omega)
          rw [this, r3]; simp
        simp (config := {maxSteps := 4000000}) only [U_law01_FieldSplits, r1, r2, blO_nil, ha1, ha2, rowsO_all (rows := rowsN .u64 (takeS s ws).1) rowsN_len.symm, reduceIte, reduceCtorEq, Nat.reduceEqDiff, Nat.reduceAdd, Int.reduceLT, Int.reduceLE, Int.reduceNeg, Int.reduceEq, Nat.reduceLT, Nat.reduceSub, Nat.reduceMul, Nat.reduceBEq, Nat.reduceLeDiff, Int.reduceBEq, Int.reduceBNe, Int.reduceToNat, ne_eq, implies_true, bA]
        refine callS (rsame_spec _ _ (by omega) (by omega)) rfl ?_
        simp (config := {maxSteps := 4000000}) only [U_law01_FieldSplits, decide_true, reduceIte, reduceCtorEq, Nat.reduceEqDiff, Nat.reduceAdd, Int.reduceLT, Int.reduceLE, Int.reduceNeg, Int.reduceEq, Nat.reduceLT, Nat.reduceSub, Nat.reduceMul, Nat.reduceBEq, Nat.reduceLeDiff, Int.reduceBEq, Int.reduceBNe, Int.reduceToNat, ne_eq, implies_true, bA]
      · have d2 : ((takeS (takeS s (ws.take k)).2.1 (ws.drop k)).2.2 != 0) = true := by simp [hg]
        have d3 := hs2 hf hg
        simp (config := {maxSteps := 4000000}) only [U_law01_FieldSplits, d2, d3, reduceIte, reduceCtorEq, Nat.reduceEqDiff, Nat.reduceAdd, Int.reduceLT, Int.reduceLE, Int.reduceNeg, Int.reduceEq, Nat.reduceLT, Nat.reduceSub, Nat.reduceMul, Nat.reduceBEq, Nat.reduceLeDiff, Int.reduceBEq, Int.reduceBNe, Int.reduceToNat, ne_eq, implies_true, bA]
        refine callI awake01_spec ?_
        simp (config := {maxSteps := 4000000}) only [U_law01_FieldSplits, d2, d3, reduceIte, reduceCtorEq, Nat.reduceEqDiff, Nat.reduceAdd, Int.reduceLT, Int.reduceLE, Int.reduceNeg, Int.reduceEq, Nat.reduceLT, Nat.reduceSub, Nat.reduceMul, Nat.reduceBEq, Nat.reduceLeDiff, Int.reduceBEq, Int.reduceBNe, Int.reduceToNat, ne_eq, implies_true, bA]
    · have d1 : ((takeS s (ws.take k)).2.2 != 0) = true := by simp [hf]
      have d2 : ((takeS s ws).2.2 != 0) = true := by simp [hs1 hf]
      simp (config := {maxSteps := 4000000}) only [U_law01_FieldSplits, d1, d2, reduceIte, reduceCtorEq, Nat.reduceEqDiff, Nat.reduceAdd, Int.reduceLT, Int.reduceLE, Int.reduceNeg, Int.reduceEq, Nat.reduceLT, Nat.reduceSub, Nat.reduceMul, Nat.reduceBEq, Nat.reduceLeDiff, Int.reduceBEq, Int.reduceBNe, Int.reduceToNat, ne_eq, implies_true, bA]
      refine callI awake01_spec ?_
      simp (config := {maxSteps := 4000000}) only [U_law01_FieldSplits, d1, d2, reduceIte, reduceCtorEq, Nat.reduceEqDiff, Nat.reduceAdd, Int.reduceLT, Int.reduceLE, Int.reduceNeg, Int.reduceEq, Nat.reduceLT, Nat.reduceSub, Nat.reduceMul, Nat.reduceBEq, Nat.reduceLeDiff, Int.reduceBEq, Int.reduceBNe, Int.reduceToNat, ne_eq, implies_true, bA]
  · have d : decide ((300 : Int) < (ws.length : Int)) = true := by simp; omega
    simp (config := {maxSteps := 4000000}) only [U_law01_FieldSplits, d, reduceIte, reduceCtorEq, Nat.reduceEqDiff, Nat.reduceAdd, Int.reduceLT, Int.reduceLE, Int.reduceNeg, Int.reduceEq, Nat.reduceLT, Nat.reduceSub, Nat.reduceMul, Nat.reduceBEq, Nat.reduceLeDiff, Int.reduceBEq, Int.reduceBNe, Int.reduceToNat, ne_eq, implies_true, bA]
    refine callI awake01_spec ?_
    simp (config := {maxSteps := 4000000}) only [U_law01_FieldSplits, reduceIte, reduceCtorEq, Nat.reduceEqDiff, Nat.reduceAdd, Int.reduceLT, Int.reduceLE, Int.reduceNeg, Int.reduceEq, Nat.reduceLT, Nat.reduceSub, Nat.reduceMul, Nat.reduceBEq, Nat.reduceLeDiff, Int.reduceBEq, Int.reduceBNe, Int.reduceToNat, ne_eq, implies_true, bA]

theorem puts_fit (ps : List PV) (h : fitVs [.int .u64, .int .i64] ps) : PCall Try.prog 3 ps (.bool true) := by
  obtain ⟨_, _, rfl, ⟨n, hn, wn⟩, _, _, rfl, ⟨w, hw, ww⟩, rfl⟩ := h
  cases hn; cases hw
  obtain ⟨m, rfl, hm⟩ := u64_nat wn
  exact puts_law m w hm
theorem gets_fit (ps : List PV) (h : fitVs [.str, .int .i64, .int .i64] ps) : PCall Try.prog 4 ps (.bool true) := by
  obtain ⟨_, _, rfl, ⟨s, hs, ws⟩, _, _, rfl, ⟨a, ha, wa⟩, _, _, rfl, ⟨w, hw, ww⟩, rfl⟩ := h
  cases hs; cases ha; cases hw
  have := bounds_i64 wa; have h2 := bounds_i64 ww
  exact gets_law s a w (by simpa [maxLen] using ws) this.1 this.2 h2.1 h2.2
theorem takes_fit (ps : List PV) (h : fitVs [.str, .sl (.int .i64)] ps) : PCall Try.prog 7 ps (.bool true) := by
  obtain ⟨_, _, rfl, ⟨s, hs, ws⟩, _, _, rfl, ⟨rows, hr, hl, hf⟩, rfl⟩ := h
  cases hs; cases hr
  obtain ⟨l, rfl, _⟩ := rows_int rows hf
  exact takes_law s l (by simpa [maxLen] using ws) (by simpa [maxLen, rowsZ_len] using hl)
theorem rises_fit (ps : List PV) (h : fitVs [.int .u64, .int .u64, .int .i64] ps) : PCall Try.prog 6 ps (.bool true) := by
  obtain ⟨_, _, rfl, ⟨n, hn, wn⟩, _, _, rfl, ⟨m, hm, wm⟩, _, _, rfl, ⟨w, hw, ww⟩, rfl⟩ := h
  cases hn; cases hm; cases hw
  obtain ⟨n, rfl, hn⟩ := u64_nat wn
  obtain ⟨m, rfl, hm⟩ := u64_nat wm
  exact rises_law n m w hn hm
theorem splits_fit (ps : List PV) (h : fitVs [.str, .sl (.int .i64), .int .i64] ps) : PCall Try.prog 8 ps (.bool true) := by
  obtain ⟨_, _, rfl, ⟨s, hs, ws⟩, _, _, rfl, ⟨rows, hr, hl, hf⟩, _, _, rfl, ⟨k, hk, wk⟩, rfl⟩ := h
  cases hs; cases hr; cases hk
  obtain ⟨l, rfl, _⟩ := rows_int rows hf
  have := bounds_i64 wk
  exact splits_law s l k (by simpa [maxLen] using ws) (by simpa [maxLen, rowsZ_len] using hl) this.1 this.2
end Go.Proofs.Ytamaonfdonfkaaa.Aw
