/-
  Lists of pages: two parts that are sorted are made one: where one of them is of one page.
-/
import Derived.Test.YtklniadgdbjcpaaPIns
set_option linter.unusedSimpArgs false
set_option linter.unusedVariables false
namespace Go.Proofs.Ytklniadgdbjcpaa.Aw
open Go.RowKit

theorem wrU {n : Nat} (h : n ≤ 4000000) : IntKind.u64.wrap (n : Int) = (n : Int) := wrapU (by omega) (by omega)
theorem wrI {n : Nat} (h : n ≤ 4000000) : IntKind.i64.wrap (n : Int) = (n : Int) := wrapI (by omega) (by omega)
theorem half {n : Nat} (h : n ≤ 4000000) : shI .shr .u64 (n : Int) 1 = some (.int .u64 ((n / 2 : Nat) : Int)) := by
  have := shr64N (n := n) (by omega) 1
  simpa using this
theorem dT {a b : Nat} (h : a < b) : decide ((a : Int) < (b : Int)) = true := by simpa using h
theorem dF {a b : Nat} (h : ¬ a < b) : decide ((a : Int) < (b : Int)) = false := by simpa using h
theorem eT {a b : Int} (h : a = b) : (a == b) = true := by simpa using h
theorem eF {a b : Int} (h : a ≠ b) : (a == b) = false := by simpa using h

/-- What making one of two parts comes to. -/
abbrev SymK (ob : List AObj) (o : Nat) (P X Y Q : List Fd) : PV → List AObj → Prop := fun r ob' => r = .tup [] ∧ ∃ Z, Srt ltF Z ∧ Z.Perm (X ++ Y) ∧ ob' = ob.set o (lF (P ++ (Z ++ Q)))

theorem sym1_i {ob : List AObj} {o : Nat} {P Y Q : List Fd} {x : Fd} {N : Nat} {a m b : Nat} (hN : N = (P ++ ([x] ++ (Y ++ Q))).length) (hl : N ≤ 1000000) (ho : ob[o]? = some (lF (P ++ ([x] ++ (Y ++ Q)))))
    (hY : Srt ltF Y) (hG : ∀ z ∈ [x] ++ Y, z.body.length ≤ 1000000) (ha : a = P.length) (hm : m = P.length + 1) (hb : b = P.length + 1 + Y.length) :
    ICall Try.prog 52 [.osl o 0 N, .int .i64 (a : Int), .int .i64 (m : Int), .int .i64 (b : Int), fnF] ob (SymK ob o P [x] Y Q) := by
  refine icall_dr Try.func52 comp_slices_symMergeCmpFunc_api_Found ?_
  obtain ⟨L0, hL0⟩ : ∃ L, P ++ ([x] ++ (Y ++ Q)) = L := ⟨_, rfl⟩
  rw [hL0] at ho hN
  have hL1 : L0 = P ++ x :: (Y ++ Q) := by rw [← hL0]; simp
  have hlen : N = P.length + (1 + (Y.length + Q.length)) := by rw [hN, hL1]; simp; omega
  have w0 : IntKind.i64.wrap ((m : Int) - (a : Int)) = 1 := by rw [wrS (by omega) (by omega)]; omega
  have hx : x.body.length ≤ 1000000 := hG x (by simp)
  obtain ⟨i1, l1⟩ := atF (o := o) (n := a) (m := N) hL1 ha hN
  simp (config := {maxSteps := 4000000}) only [U_slices_symMergeCmpFunc_api_Found, w0, reduceIte, reduceCtorEq, Nat.reduceEqDiff, Nat.reduceAdd, Int.reduceLT, Int.reduceLE, Int.reduceNeg, Int.reduceEq, Nat.reduceLT, Nat.reduceSub, Nat.reduceMul, Nat.reduceBEq, Nat.reduceLeDiff, Int.reduceBEq, Int.reduceBNe, Int.reduceToNat, ne_eq, implies_true, bA]
  refine loopF (fun s : Nat × Nat => ⟨ofL [(0, .osl o 0 N), (1, .int .i64 (a : Int)), (4, fnF), (10, .int .i64 ((m + s.1 : Nat) : Int)), (11, .int .i64 ((m + s.2 : Nat) : Int))], ob⟩)
    (fun s => s.1 ≤ s.2 ∧ s.2 ≤ Y.length ∧ (Y.take s.1 = [] ∨ ∃ A y, Y.take s.1 = A ++ [y] ∧ ltF x y = false) ∧ (Y.drop s.2 = [] ∨ ∃ y B, Y.drop s.2 = y :: B ∧ ltF y x = false)) (fun s => s.2 - s.1) (0, Y.length) ?_ ⟨Nat.zero_le _, Nat.le_refl _, .inl rfl, .inl (by simp)⟩ ?_
  · have e1 : m + Y.length = b := by omega
    simp (config := {maxSteps := 4000000}) only [U_slices_symMergeCmpFunc_api_Found, reduceIte, reduceCtorEq, Nat.reduceEqDiff, Nat.reduceAdd, Int.reduceLT, Int.reduceLE, Int.reduceNeg, Int.reduceEq, Nat.reduceLT, Nat.reduceSub, Nat.reduceMul, Nat.reduceBEq, Nat.reduceLeDiff, Int.reduceBEq, Int.reduceBNe, Int.reduceToNat, ne_eq, implies_true, bA]
    simp [e1]
  · rintro ⟨p, q⟩ ⟨hpq, hq, h1, h2⟩
    simp only at hpq hq h1 h2 ⊢
    by_cases hlt : p < q
    · have d := dT (show m + p < m + q by omega)
      have w1 := wrA (a := m + p) (b := m + q) (by omega)
      have w2 := wrU (n := m + p + (m + q)) (by omega)
      have w3 := half (n := m + p + (m + q)) (by omega)
      have w5 : (m + p + (m + q)) / 2 = m + (p + q) / 2 := by omega
      have w4 := wrI (n := m + (p + q) / 2) (by omega)
      rw [w5] at w3
      obtain ⟨A, y, B, hY1, hA⟩ := cut_mid Y ((p + q) / 2) (by omega)
      have hL2 : L0 = (P ++ x :: A) ++ y :: (B ++ Q) := by rw [hL1, hY1]; simp
      obtain ⟨i2, l2⟩ := atF (o := o) (n := m + (p + q) / 2) (m := N) hL2 (by simp; omega) hN
      have hy : y.body.length ≤ 1000000 := hG y (by rw [hY1]; simp)
      simp (config := {maxSteps := 4000000}) only [U_slices_symMergeCmpFunc_api_Found, d, w1, w2, w3, w4, ho, i1, l1, i2, l2, reduceIte, reduceCtorEq, Nat.reduceEqDiff, Nat.reduceAdd, Int.reduceLT, Int.reduceLE, Int.reduceNeg, Int.reduceEq, Nat.reduceLT, Nat.reduceSub, Nat.reduceMul, Nat.reduceBEq, Nat.reduceLeDiff, Int.reduceBEq, Int.reduceBNe, Int.reduceToNat, ne_eq, implies_true, bA]
      refine callI (cmF_spec y x hy hx) ?_
      cases hc : ltF y x with
      | true =>
        have d2 : decide (cmF y x < 0) = true := hc
        have w6 : IntKind.i64.wrap (((m + (p + q) / 2 : Nat) : Int) + 1) = ((m + ((p + q) / 2 + 1) : Nat) : Int) := by rw [wrapI (by omega) (by omega)]; omega
        simp (config := {maxSteps := 4000000}) only [U_slices_symMergeCmpFunc_api_Found, d2, w6, reduceIte, reduceCtorEq, Nat.reduceEqDiff, Nat.reduceAdd, Int.reduceLT, Int.reduceLE, Int.reduceNeg, Int.reduceEq, Nat.reduceLT, Nat.reduceSub, Nat.reduceMul, Nat.reduceBEq, Nat.reduceLeDiff, Int.reduceBEq, Int.reduceBNe, Int.reduceToNat, ne_eq, implies_true, bA]
        refine ⟨((p + q) / 2 + 1, q), rfl, ⟨by simp only; omega, hq, .inr ⟨A, y, ?_, ltF_ord.asym _ _ hc⟩, h2⟩, by simp only; omega⟩
        simp only
        rw [hY1, show A ++ y :: B = (A ++ [y]) ++ B by simp]; exact take_len _ _ (by simp [hA])
      | false =>
        have d2 : decide (cmF y x < 0) = false := hc
        simp (config := {maxSteps := 4000000}) only [U_slices_symMergeCmpFunc_api_Found, d2, reduceIte, reduceCtorEq, Nat.reduceEqDiff, Nat.reduceAdd, Int.reduceLT, Int.reduceLE, Int.reduceNeg, Int.reduceEq, Nat.reduceLT, Nat.reduceSub, Nat.reduceMul, Nat.reduceBEq, Nat.reduceLeDiff, Int.reduceBEq, Int.reduceBNe, Int.reduceToNat, ne_eq, implies_true, bA]
        refine ⟨(p, (p + q) / 2), rfl, ⟨by simp only; omega, by simp only; omega, h1, .inr ⟨y, B, ?_, hc⟩⟩, by simp only; omega⟩
        simp only
        rw [hY1]; exact drop_len _ _ hA.symm
    · have hpq' : p = q := by omega
      subst hpq'
      have d := dF (show ¬ m + p < m + p by omega)
      have hsr : Srt ltF (Y.take p ++ x :: Y.drop p) := srt_put ltF_ord (by rw [List.take_append_drop]; exact hY) h1 h2
      simp (config := {maxSteps := 4000000}) only [U_slices_symMergeCmpFunc_api_Found, d, reduceIte, reduceCtorEq, Nat.reduceEqDiff, Nat.reduceAdd, Int.reduceLT, Int.reduceLE, Int.reduceNeg, Int.reduceEq, Nat.reduceLT, Nat.reduceSub, Nat.reduceMul, Nat.reduceBEq, Nat.reduceLeDiff, Int.reduceBEq, Int.reduceBNe, Int.reduceToNat, ne_eq, implies_true, bA]
      refine loopF (fun t : Nat => ⟨ofL [(0, .osl o 0 N), (10, .int .i64 ((m + p : Nat) : Int)), (13, .int .i64 ((a + t : Nat) : Int))], ob.set o (lF (P ++ (Y.take t ++ x :: (Y.drop t ++ Q))))⟩) (fun t => t ≤ p) (fun t => p - t) 0 ?_ (Nat.zero_le _) ?_
      · simp (config := {maxSteps := 4000000}) only [U_slices_symMergeCmpFunc_api_Found, reduceIte, reduceCtorEq, Nat.reduceEqDiff, Nat.reduceAdd, Int.reduceLT, Int.reduceLE, Int.reduceNeg, Int.reduceEq, Nat.reduceLT, Nat.reduceSub, Nat.reduceMul, Nat.reduceBEq, Nat.reduceLeDiff, Int.reduceBEq, Int.reduceBNe, Int.reduceToNat, ne_eq, implies_true, bA]
        have e2 : P ++ (Y.take 0 ++ x :: (Y.drop 0 ++ Q)) = L0 := by rw [hL1]; simp
        simp [set_self ho, ← hL1]
      · intro t ht
        have w7 : IntKind.i64.wrap (((m + p : Nat) : Int) - 1) = ((a + p : Nat) : Int) := by rw [wrapI (by omega) (by omega)]; omega
        by_cases htl : t < p
        · have d3 := dT (show a + t < a + p by omega)
          obtain ⟨A, y, B, hY1, hA⟩ := cut_mid Y t (by omega)
          have t1 : Y.take t = A := by rw [hY1]; exact take_len _ _ hA.symm
          have t2 : Y.drop t = y :: B := by rw [hY1]; exact drop_len _ _ hA.symm
          have t3 : Y.take (t + 1) = A ++ [y] := by rw [hY1, show A ++ y :: B = (A ++ [y]) ++ B by simp]; exact take_len _ _ (by simp [hA])
          have t4 : Y.drop (t + 1) = B := by rw [hY1, show A ++ y :: B = (A ++ [y]) ++ B by simp]; exact drop_len _ _ (by simp [hA])
          obtain ⟨L, hL⟩ : ∃ L, P ++ (Y.take t ++ x :: (Y.drop t ++ Q)) = L := ⟨_, rfl⟩
          have k1 : L = (P ++ A) ++ x :: ([] ++ y :: (B ++ Q)) := by rw [← hL, t1, t2]; simp
          have k2 : L = (P ++ A ++ [x]) ++ y :: (B ++ Q) := by rw [k1]; simp
          have hYl : Y.length = A.length + (B.length + 1) := by rw [hY1]; simp
          have hLN : N = L.length := by rw [k1, hlen]; simp; omega
          obtain ⟨j1, m1⟩ := atF (o := o) (n := a + t) (m := N) k1 (by simp; omega) hLN
          obtain ⟨j2, m2⟩ := atF (o := o) (n := a + t + 1) (m := N) k2 (by simp; omega) hLN
          obtain ⟨s1, o2, j3, s2⟩ := swF (i := a + t) (j := a + t + 1) (m := N) ho k1 (by simp; omega) (by simp; omega) hLN
          have o1 : (ob.set o (lF L))[o]? = some (lF L) := set_get ho
          have w8 : IntKind.i64.wrap (((a + t : Nat) : Int) + 1) = ((a + t + 1 : Nat) : Int) := by rw [wrapI (by omega) (by omega)]; omega
          rw [hL]
          simp (config := {maxSteps := 4000000}) only [U_slices_symMergeCmpFunc_api_Found, w7, w8, d3, o1, o2, j1, j2, j3, m1, m2, s1, s2, rowF_len, rowF_own, rowF_cell, List.set_set, reduceIte, reduceCtorEq, Nat.reduceEqDiff, Nat.reduceAdd, Int.reduceLT, Int.reduceLE, Int.reduceNeg, Int.reduceEq, Nat.reduceLT, Nat.reduceSub, Nat.reduceMul, Nat.reduceBEq, Nat.reduceLeDiff, Int.reduceBEq, Int.reduceBNe, Int.reduceToNat, ne_eq, implies_true, bA]
          refine ⟨t + 1, ?_, htl, by omega⟩
          rw [t3, t4]
          simp [Nat.add_assoc]
        · have htp : t = p := by omega
          subst htp
          have d3 := dF (show ¬ a + t < a + t by omega)
          simp (config := {maxSteps := 4000000}) only [U_slices_symMergeCmpFunc_api_Found, w7, d3, reduceIte, reduceCtorEq, Nat.reduceEqDiff, Nat.reduceAdd, Int.reduceLT, Int.reduceLE, Int.reduceNeg, Int.reduceEq, Nat.reduceLT, Nat.reduceSub, Nat.reduceMul, Nat.reduceBEq, Nat.reduceLeDiff, Int.reduceBEq, Int.reduceBNe, Int.reduceToNat, ne_eq, implies_true, bA]
          refine ⟨_, rfl, rfl, _, hsr, ?_, by simp⟩
          have := List.perm_middle (l₁ := Y.take t) (l₂ := Y.drop t) (a := x)
          rw [List.take_append_drop] at this
          simpa using this

theorem sym2_i {ob : List AObj} {o : Nat} {P X Q : List Fd} {y : Fd} {N : Nat} {a m b : Nat} (hN : N = (P ++ (X ++ ([y] ++ Q))).length) (hl : N ≤ 1000000) (ho : ob[o]? = some (lF (P ++ (X ++ ([y] ++ Q)))))
    (hX1 : X.length ≠ 1) (hX : Srt ltF X) (hG : ∀ z ∈ X ++ [y], z.body.length ≤ 1000000) (ha : a = P.length) (hm : m = P.length + X.length) (hb : b = P.length + X.length + 1) :
    ICall Try.prog 52 [.osl o 0 N, .int .i64 (a : Int), .int .i64 (m : Int), .int .i64 (b : Int), fnF] ob (SymK ob o P X [y] Q) := by
  refine icall_dr Try.func52 comp_slices_symMergeCmpFunc_api_Found ?_
  obtain ⟨L0, hL0⟩ : ∃ L, P ++ (X ++ ([y] ++ Q)) = L := ⟨_, rfl⟩
  rw [hL0] at ho hN
  have hL1 : L0 = (P ++ X) ++ y :: Q := by rw [← hL0]; simp
  have hlen : N = P.length + (X.length + (1 + Q.length)) := by rw [hN, hL1]; simp; omega
  have w0 : IntKind.i64.wrap ((m : Int) - (a : Int)) = (X.length : Int) := by rw [wrS (by omega) (by omega)]; omega
  have w0' : IntKind.i64.wrap ((b : Int) - (m : Int)) = 1 := by rw [wrS (by omega) (by omega)]; omega
  have d0 : ((X.length : Int) == 1) = false := eF (by omega)
  have hy : y.body.length ≤ 1000000 := hG y (by simp)
  obtain ⟨i1, l1⟩ := atF (o := o) (n := m) (m := N) hL1 (by simp [hm]) hN
  simp (config := {maxSteps := 4000000}) only [U_slices_symMergeCmpFunc_api_Found, w0, w0', d0, reduceIte, reduceCtorEq, Nat.reduceEqDiff, Nat.reduceAdd, Int.reduceLT, Int.reduceLE, Int.reduceNeg, Int.reduceEq, Nat.reduceLT, Nat.reduceSub, Nat.reduceMul, Nat.reduceBEq, Nat.reduceLeDiff, Int.reduceBEq, Int.reduceBNe, Int.reduceToNat, ne_eq, implies_true, bA]
  refine loopF (fun s : Nat × Nat => ⟨ofL [(0, .osl o 0 N), (2, .int .i64 (m : Int)), (4, fnF), (14, .int .i64 ((a + s.1 : Nat) : Int)), (15, .int .i64 ((a + s.2 : Nat) : Int))], ob⟩)
    (fun s => s.1 ≤ s.2 ∧ s.2 ≤ X.length ∧ (X.take s.1 = [] ∨ ∃ A x, X.take s.1 = A ++ [x] ∧ ltF y x = false) ∧ (X.drop s.2 = [] ∨ ∃ x B, X.drop s.2 = x :: B ∧ ltF x y = false)) (fun s => s.2 - s.1) (0, X.length) ?_ ⟨Nat.zero_le _, Nat.le_refl _, .inl rfl, .inl (by simp)⟩ ?_
  · have e1 : a + X.length = m := by omega
    simp (config := {maxSteps := 4000000}) only [U_slices_symMergeCmpFunc_api_Found, reduceIte, reduceCtorEq, Nat.reduceEqDiff, Nat.reduceAdd, Int.reduceLT, Int.reduceLE, Int.reduceNeg, Int.reduceEq, Nat.reduceLT, Nat.reduceSub, Nat.reduceMul, Nat.reduceBEq, Nat.reduceLeDiff, Int.reduceBEq, Int.reduceBNe, Int.reduceToNat, ne_eq, implies_true, bA]
    simp [e1]
  · rintro ⟨p, q⟩ ⟨hpq, hq, h1, h2⟩
    simp only at hpq hq h1 h2 ⊢
    by_cases hlt : p < q
    · have d := dT (show a + p < a + q by omega)
      have w1 := wrA (a := a + p) (b := a + q) (by omega)
      have w2 := wrU (n := a + p + (a + q)) (by omega)
      have w3 := half (n := a + p + (a + q)) (by omega)
      have w5 : (a + p + (a + q)) / 2 = a + (p + q) / 2 := by omega
      have w4 := wrI (n := a + (p + q) / 2) (by omega)
      rw [w5] at w3
      obtain ⟨A, x, B, hX2, hA⟩ := cut_mid X ((p + q) / 2) (by omega)
      have hL2 : L0 = (P ++ A) ++ x :: (B ++ ([y] ++ Q)) := by rw [hL1, hX2]; simp
      obtain ⟨i2, l2⟩ := atF (o := o) (n := a + (p + q) / 2) (m := N) hL2 (by simp; omega) hN
      have hx : x.body.length ≤ 1000000 := hG x (by rw [hX2]; simp)
      simp (config := {maxSteps := 4000000}) only [U_slices_symMergeCmpFunc_api_Found, d, w1, w2, w3, w4, ho, i1, l1, i2, l2, reduceIte, reduceCtorEq, Nat.reduceEqDiff, Nat.reduceAdd, Int.reduceLT, Int.reduceLE, Int.reduceNeg, Int.reduceEq, Nat.reduceLT, Nat.reduceSub, Nat.reduceMul, Nat.reduceBEq, Nat.reduceLeDiff, Int.reduceBEq, Int.reduceBNe, Int.reduceToNat, ne_eq, implies_true, bA]
      refine callI (cmF_spec y x hy hx) ?_
      cases hc : ltF y x with
      | false =>
        have d2 : decide (cmF y x < 0) = false := hc
        have w6 : IntKind.i64.wrap (((a + (p + q) / 2 : Nat) : Int) + 1) = ((a + ((p + q) / 2 + 1) : Nat) : Int) := by rw [wrapI (by omega) (by omega)]; omega
        simp (config := {maxSteps := 4000000}) only [U_slices_symMergeCmpFunc_api_Found, d2, w6, reduceIte, reduceCtorEq, Nat.reduceEqDiff, Nat.reduceAdd, Int.reduceLT, Int.reduceLE, Int.reduceNeg, Int.reduceEq, Nat.reduceLT, Nat.reduceSub, Nat.reduceMul, Nat.reduceBEq, Nat.reduceLeDiff, Int.reduceBEq, Int.reduceBNe, Int.reduceToNat, ne_eq, implies_true, bA]
        refine ⟨((p + q) / 2 + 1, q), rfl, ⟨by simp only; omega, hq, .inr ⟨A, x, ?_, hc⟩, h2⟩, by simp only; omega⟩
        simp only
        rw [hX2, show A ++ x :: B = (A ++ [x]) ++ B by simp]; exact take_len _ _ (by simp [hA])
      | true =>
        have d2 : decide (cmF y x < 0) = true := hc
        simp (config := {maxSteps := 4000000}) only [U_slices_symMergeCmpFunc_api_Found, d2, reduceIte, reduceCtorEq, Nat.reduceEqDiff, Nat.reduceAdd, Int.reduceLT, Int.reduceLE, Int.reduceNeg, Int.reduceEq, Nat.reduceLT, Nat.reduceSub, Nat.reduceMul, Nat.reduceBEq, Nat.reduceLeDiff, Int.reduceBEq, Int.reduceBNe, Int.reduceToNat, ne_eq, implies_true, bA]
        refine ⟨(p, (p + q) / 2), rfl, ⟨by simp only; omega, by simp only; omega, h1, .inr ⟨x, B, ?_, ltF_ord.asym _ _ hc⟩⟩, by simp only; omega⟩
        simp only
        rw [hX2]; exact drop_len _ _ hA.symm
    · have hpq' : p = q := by omega
      subst hpq'
      have d := dF (show ¬ a + p < a + p by omega)
      have hsr : Srt ltF (X.take p ++ y :: X.drop p) := srt_put ltF_ord (by rw [List.take_append_drop]; exact hX) h1 h2
      simp (config := {maxSteps := 4000000}) only [U_slices_symMergeCmpFunc_api_Found, d, reduceIte, reduceCtorEq, Nat.reduceEqDiff, Nat.reduceAdd, Int.reduceLT, Int.reduceLE, Int.reduceNeg, Int.reduceEq, Nat.reduceLT, Nat.reduceSub, Nat.reduceMul, Nat.reduceBEq, Nat.reduceLeDiff, Int.reduceBEq, Int.reduceBNe, Int.reduceToNat, ne_eq, implies_true, bA]
      refine loopF (fun t : Nat => ⟨ofL [(0, .osl o 0 N), (14, .int .i64 ((a + p : Nat) : Int)), (17, .int .i64 ((a + t : Nat) : Int))], ob.set o (lF (P ++ (X.take t ++ y :: (X.drop t ++ Q))))⟩) (fun t => p ≤ t ∧ t ≤ X.length) (fun t => t - p) X.length ?_ ⟨hq, Nat.le_refl _⟩ ?_
      · have e1 : a + X.length = m := by omega
        simp (config := {maxSteps := 4000000}) only [U_slices_symMergeCmpFunc_api_Found, reduceIte, reduceCtorEq, Nat.reduceEqDiff, Nat.reduceAdd, Int.reduceLT, Int.reduceLE, Int.reduceNeg, Int.reduceEq, Nat.reduceLT, Nat.reduceSub, Nat.reduceMul, Nat.reduceBEq, Nat.reduceLeDiff, Int.reduceBEq, Int.reduceBNe, Int.reduceToNat, ne_eq, implies_true, bA]
        have e2 : P ++ (X ++ y :: Q) = L0 := by rw [hL1]; simp
        simp [e1, e2, set_self ho]
      · rintro t ⟨hpt, htX⟩
        by_cases htl : p < t
        · have d3 := dT (show a + p < a + t by omega)
          obtain ⟨A, x, B, hX2, hA⟩ := cut_mid X (t - 1) (by omega)
          have t3 : X.take (t - 1) = A := by rw [hX2]; exact take_len _ _ hA.symm
          have t4 : X.drop (t - 1) = x :: B := by rw [hX2]; exact drop_len _ _ hA.symm
          have t1 : X.take t = A ++ [x] := by rw [hX2, show A ++ x :: B = (A ++ [x]) ++ B by simp]; exact take_len _ _ (by simp [hA]; omega)
          have t2 : X.drop t = B := by rw [hX2, show A ++ x :: B = (A ++ [x]) ++ B by simp]; exact drop_len _ _ (by simp [hA]; omega)
          obtain ⟨L, hL⟩ : ∃ L, P ++ (X.take t ++ y :: (X.drop t ++ Q)) = L := ⟨_, rfl⟩
          have k1 : L = (P ++ A) ++ x :: ([] ++ y :: (B ++ Q)) := by rw [← hL, t1, t2]; simp
          have k2 : L = (P ++ A ++ [x]) ++ y :: (B ++ Q) := by rw [k1]; simp
          have hXl : X.length = A.length + (B.length + 1) := by rw [hX2]; simp
          have hLN : N = L.length := by rw [k1, hlen]; simp; omega
          obtain ⟨j1, m1⟩ := atF (o := o) (n := a + (t - 1)) (m := N) k1 (by simp; omega) hLN
          obtain ⟨j2, m2⟩ := atF (o := o) (n := a + t) (m := N) k2 (by simp; omega) hLN
          obtain ⟨s1, o2, j3, s2⟩ := swF' (i := a + (t - 1)) (j := a + t) (m := N) ho k1 (by simp; omega) (by simp; omega) hLN
          have o1 : (ob.set o (lF L))[o]? = some (lF L) := set_get ho
          have w8 : IntKind.i64.wrap (((a + t : Nat) : Int) - 1) = ((a + (t - 1) : Nat) : Int) := by rw [wrapI (by omega) (by omega)]; omega
          rw [hL]
          simp (config := {maxSteps := 4000000}) only [U_slices_symMergeCmpFunc_api_Found, w8, d3, o1, o2, j1, j2, j3, m1, m2, s1, s2, rowF_len, rowF_own, rowF_cell, List.set_set, reduceIte, reduceCtorEq, Nat.reduceEqDiff, Nat.reduceAdd, Int.reduceLT, Int.reduceLE, Int.reduceNeg, Int.reduceEq, Nat.reduceLT, Nat.reduceSub, Nat.reduceMul, Nat.reduceBEq, Nat.reduceLeDiff, Int.reduceBEq, Int.reduceBNe, Int.reduceToNat, ne_eq, implies_true, bA]
          refine ⟨t - 1, ?_, ⟨by omega, by omega⟩, by omega⟩
          rw [t3, t4]
          simp
        · have htp : t = p := by omega
          subst htp
          have d3 := dF (show ¬ a + t < a + t by omega)
          simp (config := {maxSteps := 4000000}) only [U_slices_symMergeCmpFunc_api_Found, d3, reduceIte, reduceCtorEq, Nat.reduceEqDiff, Nat.reduceAdd, Int.reduceLT, Int.reduceLE, Int.reduceNeg, Int.reduceEq, Nat.reduceLT, Nat.reduceSub, Nat.reduceMul, Nat.reduceBEq, Nat.reduceLeDiff, Int.reduceBEq, Int.reduceBNe, Int.reduceToNat, ne_eq, implies_true, bA]
          refine ⟨_, rfl, rfl, _, hsr, ?_, by simp⟩
          refine (List.perm_middle (l₁ := X.take t) (l₂ := X.drop t) (a := y)).trans ?_
          rw [List.take_append_drop]
          exact (List.perm_append_singleton y X).symm

end Go.Proofs.Ytklniadgdbjcpaa.Aw
