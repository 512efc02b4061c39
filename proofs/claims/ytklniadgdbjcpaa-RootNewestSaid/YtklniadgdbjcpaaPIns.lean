/-
  Lists of pages: sorted by putting in one by one.
-/
import Derived.Test.YtklniadgdbjcpaaPRot
import Derived.Test.YtklniadgdbjcpaaPCmpF
set_option linter.unusedSimpArgs false
set_option linter.unusedVariables false
namespace Go.Proofs.Ytklniadgdbjcpaa.Aw
open Go.RowKit

theorem atF {L A B : List Fd} {x : Fd} {o m n : Nat} (hL : L = A ++ x :: B) (hn : n = A.length) (hm : m = L.length) : islO (some (lF L)) 6 o 0 m (.int .i64 (n : Int)) = some (.lref o n 0 m) ∧ ldL (some (lF L)) n 0 m 6 = some (rowF x) := by
  have h : n < L.length := by rw [hL, hn]; simp
  refine ⟨isF rfl h hm, ?_⟩
  rw [ldF h hm, List.getElem_of_eq hL, get_mid _ _ _ _ hn]
theorem swF {ob : List AObj} {o : Nat} {L A B C : List Fd} {x y : Fd} {i j m : Nat} {a : AObj} (ho : ob[o]? = some a) (hL : L = A ++ x :: (B ++ y :: C)) (hi : i = A.length) (hj : j = A.length + 1 + B.length) (hm : m = L.length) :
    stL (ob.set o (lF L)) o (some (lF L)) i 0 m (rowF y) = some (.bot, ob.set o (lF (L.set i y))) ∧ (ob.set o (lF (L.set i y)))[o]? = some (lF (L.set i y)) ∧
    islO (some (lF (L.set i y))) 6 o 0 m (.int .i64 (j : Int)) = some (.lref o j 0 m) ∧
    stL (ob.set o (lF (L.set i y))) o (some (lF (L.set i y))) j 0 m (rowF x) = some (.bot, ob.set o (lF (A ++ y :: (B ++ x :: C)))) := by
  have hi' : i < L.length := by rw [hL, hi]; simp
  have hj' : j < L.length := by rw [hL, hj]; simp; omega
  refine ⟨?_, set_get ho, isF rfl (by simpa using hj') (by simpa using hm), ?_⟩
  · rw [stF hi' hm, List.set_set]
  · rw [stF (by simpa using hj') (by simpa using hm), List.set_set, hL, set_swap _ _ _ _ _ _ _ hi hj]
theorem swF' {ob : List AObj} {o : Nat} {L A B C : List Fd} {x y : Fd} {i j m : Nat} {a : AObj} (ho : ob[o]? = some a) (hL : L = A ++ x :: (B ++ y :: C)) (hi : i = A.length) (hj : j = A.length + 1 + B.length) (hm : m = L.length) :
    stL (ob.set o (lF L)) o (some (lF L)) j 0 m (rowF x) = some (.bot, ob.set o (lF (L.set j x))) ∧ (ob.set o (lF (L.set j x)))[o]? = some (lF (L.set j x)) ∧
    islO (some (lF (L.set j x))) 6 o 0 m (.int .i64 (i : Int)) = some (.lref o i 0 m) ∧
    stL (ob.set o (lF (L.set j x))) o (some (lF (L.set j x))) i 0 m (rowF y) = some (.bot, ob.set o (lF (A ++ y :: (B ++ x :: C)))) := by
  have hi' : i < L.length := by rw [hL, hi]; simp
  have hj' : j < L.length := by rw [hL, hj]; simp; omega
  refine ⟨?_, set_get ho, isF rfl (by simpa using hi') (by simpa using hm), ?_⟩
  · rw [stF hj' hm, List.set_set]
  · rw [stF (by simpa using hi') (by simpa using hm), List.set_set, hL, set_swap' _ _ _ _ _ _ _ hi hj]
theorem rowF_own (x : Fd) : ownL (rowF x) = false := by simp [rowF, ownL, PV.own?]
theorem rowF_cell (x : Fd) : (rowF x).all PV.cell? = true := by simp [rowF, PV.cell?]
abbrev fnF : PV := .fn (.func 31) [] []
theorem wrA {a b : Nat} (h : a + b ≤ 4000000) : IntKind.i64.wrap ((a : Int) + (b : Int)) = ((a + b : Nat) : Int) := by rw [wrapI (by omega) (by omega)]; omega
theorem wrS {a b : Nat} (h : a ≤ 4000000) (hb : b ≤ a) : IntKind.i64.wrap ((a : Int) - (b : Int)) = ((a - b : Nat) : Int) := by rw [wrapI (by omega) (by omega)]; omega
theorem ltF_ge {x y : Fd} (h : ltF x y = false) : decide (cmF x y < 0) = false := h

theorem ins_i {ob : List AObj} {o : Nat} {P X Q : List Fd} {N : Nat} {a b : Int} (hN : N = (P ++ (X ++ Q)).length) (hl : N ≤ 1000000) (ho : ob[o]? = some (lF (P ++ (X ++ Q)))) (hG : ∀ z ∈ X, z.body.length ≤ 1000000)
    (ha : a = (P.length : Int)) (hb : b = ((P.length + X.length : Nat) : Int)) :
    ICall Try.prog 51 [.osl o 0 N, .int .i64 a, .int .i64 b, fnF] ob fun r ob' => r = .tup [] ∧ ∃ Z, Srt ltF Z ∧ Z.Perm X ∧ ob' = ob.set o (lF (P ++ (Z ++ Q))) := by
  subst ha hb
  refine icall_dr Try.func51 comp_slices_insertionSortCmpFunc_api_Found ?_
  have hlen : N = P.length + (X.length + Q.length) := by rw [hN]; simp
  have w0 : IntKind.i64.wrap ((P.length : Int) + 1) = ((P.length + 1 : Nat) : Int) := by rw [wrapI (by omega) (by omega)]; omega
  obtain ⟨E, hE⟩ : ∃ E, P.length + X.length = E := ⟨_, rfl⟩
  rw [hE]
  simp (config := {maxSteps := 4000000}) only [U_slices_insertionSortCmpFunc_api_Found, w0, reduceIte, reduceCtorEq, Nat.reduceEqDiff, Nat.reduceAdd, Int.reduceLT, Int.reduceLE, Int.reduceNeg, Int.reduceEq, Nat.reduceLT, Nat.reduceSub, Nat.reduceMul, Nat.reduceBEq, Nat.reduceLeDiff, Int.reduceBEq, Int.reduceBNe, Int.reduceToNat, ne_eq, implies_true, bA]
  cases X with
  | nil =>
    refine loopF (fun _ : Unit => ⟨ofL [(0, .osl o 0 N), (1, .int .i64 (P.length : Int)), (2, .int .i64 (E : Int)), (3, fnF), (8, .int .i64 ((P.length + 1 : Nat) : Int))], ob⟩) (fun _ => True) (fun _ => 0) () ?_ trivial ?_
    · simp (config := {maxSteps := 4000000}) only [U_slices_insertionSortCmpFunc_api_Found, reduceIte, reduceCtorEq, Nat.reduceEqDiff, Nat.reduceAdd, Int.reduceLT, Int.reduceLE, Int.reduceNeg, Int.reduceEq, Nat.reduceLT, Nat.reduceSub, Nat.reduceMul, Nat.reduceBEq, Nat.reduceLeDiff, Int.reduceBEq, Int.reduceBNe, Int.reduceToNat, ne_eq, implies_true, bA]
    · rintro ⟨⟩ -
      have d : decide (((P.length + 1 : Nat) : Int) < (E : Int)) = false := by simp at hE ⊢; omega
      simp (config := {maxSteps := 4000000}) only [U_slices_insertionSortCmpFunc_api_Found, d, reduceIte, reduceCtorEq, Nat.reduceEqDiff, Nat.reduceAdd, Int.reduceLT, Int.reduceLE, Int.reduceNeg, Int.reduceEq, Nat.reduceLT, Nat.reduceSub, Nat.reduceMul, Nat.reduceBEq, Nat.reduceLeDiff, Int.reduceBEq, Int.reduceBNe, Int.reduceToNat, ne_eq, implies_true, bA]
      exact ⟨_, rfl, rfl, [], List.Pairwise.nil, List.Perm.refl _, by simp only [List.nil_append] at ho ⊢; rw [set_self ho]⟩
  | cons x0 X0 =>
    refine loopF (fun s : List Fd × List Fd => ⟨ofL [(0, .osl o 0 N), (1, .int .i64 (P.length : Int)), (2, .int .i64 (E : Int)), (3, fnF), (8, .int .i64 ((P.length + s.1.length : Nat) : Int))],
      ob.set o (lF (P ++ (s.1 ++ (s.2 ++ Q))))⟩) (fun s => Srt ltF s.1 ∧ s.1 ≠ [] ∧ (s.1 ++ s.2).Perm (x0 :: X0)) (fun s => s.2.length) ([x0], X0) ?_ ⟨List.pairwise_singleton _ _, by simp, by simp⟩ ?_
    · simp (config := {maxSteps := 4000000}) only [U_slices_insertionSortCmpFunc_api_Found, reduceIte, reduceCtorEq, Nat.reduceEqDiff, Nat.reduceAdd, Int.reduceLT, Int.reduceLE, Int.reduceNeg, Int.reduceEq, Nat.reduceLT, Nat.reduceSub, Nat.reduceMul, Nat.reduceBEq, Nat.reduceLeDiff, Int.reduceBEq, Int.reduceBNe, Int.reduceToNat, ne_eq, implies_true, bA]
      simp only [List.cons_append] at ho
      simp [set_self ho]
    · rintro ⟨Z, W⟩ ⟨hs, hz, hp⟩
      simp only at hs hz hp ⊢
      have hpl : Z.length + W.length = X0.length + 1 := by have := hp.length_eq; simpa using this
      have hG' : ∀ z ∈ Z ++ W, z.body.length ≤ 1000000 := fun z hz => hG z (hp.mem_iff.1 hz)
      cases W with
      | nil =>
        have d : decide (((P.length + Z.length : Nat) : Int) < (E : Int)) = false := by simp at hpl hE ⊢; omega
        simp only [List.append_nil] at hp
        simp (config := {maxSteps := 4000000}) only [U_slices_insertionSortCmpFunc_api_Found, d, reduceIte, reduceCtorEq, Nat.reduceEqDiff, Nat.reduceAdd, Int.reduceLT, Int.reduceLE, Int.reduceNeg, Int.reduceEq, Nat.reduceLT, Nat.reduceSub, Nat.reduceMul, Nat.reduceBEq, Nat.reduceLeDiff, Int.reduceBEq, Int.reduceBNe, Int.reduceToNat, ne_eq, implies_true, bA]
        exact ⟨_, rfl, rfl, Z, hs, hp, rfl⟩
      | cons x W =>
        have d : decide (((P.length + Z.length : Nat) : Int) < (E : Int)) = true := by simp at hpl hE ⊢; omega
        simp only [List.length_cons] at hpl hlen
        simp (config := {maxSteps := 4000000}) only [U_slices_insertionSortCmpFunc_api_Found, d, reduceIte, reduceCtorEq, Nat.reduceEqDiff, Nat.reduceAdd, Int.reduceLT, Int.reduceLE, Int.reduceNeg, Int.reduceEq, Nat.reduceLT, Nat.reduceSub, Nat.reduceMul, Nat.reduceBEq, Nat.reduceLeDiff, Int.reduceBEq, Int.reduceBNe, Int.reduceToNat, ne_eq, implies_true, bA]
        refine loopF (fun s : List Fd × List Fd => ⟨ofL [(0, .osl o 0 N), (1, .int .i64 (P.length : Int)), (2, .int .i64 (E : Int)), (3, fnF), (8, .int .i64 ((P.length + Z.length : Nat) : Int)), (9, .int .i64 ((P.length + s.1.length : Nat) : Int))],
          ob.set o (lF (P ++ (s.1 ++ x :: (s.2 ++ (W ++ Q)))))⟩) (fun s => s.1 ++ s.2 = Z ∧ (s.2 = [] ∨ ∃ y B, s.2 = y :: B ∧ ltF y x = false)) (fun s => s.1.length) (Z, []) ?_ ⟨by simp, .inl rfl⟩ ?_
        · simp (config := {maxSteps := 4000000}) only [U_slices_insertionSortCmpFunc_api_Found, reduceIte, reduceCtorEq, Nat.reduceEqDiff, Nat.reduceAdd, Int.reduceLT, Int.reduceLE, Int.reduceNeg, Int.reduceEq, Nat.reduceLT, Nat.reduceSub, Nat.reduceMul, Nat.reduceBEq, Nat.reduceLeDiff, Int.reduceBEq, Int.reduceBNe, Int.reduceToNat, ne_eq, implies_true, bA]
        · rintro ⟨A, B⟩ ⟨hAB, hB⟩
          simp only at hAB hB ⊢
          have hABl : A.length + B.length = Z.length := by rw [← hAB]; simp
          have wi : IntKind.i64.wrap (((P.length + Z.length : Nat) : Int) + 1) = ((P.length + Z.length + 1 : Nat) : Int) := by rw [wrapI (by omega) (by omega)]; omega
          have hend : Srt ltF (A ++ x :: B) → (A ++ x :: B ++ W).Perm (x0 :: X0) := fun _ => by
            refine List.Perm.trans ?_ hp
            rw [← hAB]
            simp only [List.append_assoc, List.cons_append]
            exact List.Perm.append_left A (List.perm_middle (l₁ := B) (l₂ := W) (a := x)).symm
          by_cases hA : A = []
          · subst hA
            have hsr : Srt ltF ([] ++ x :: B) := srt_put ltF_ord (by rw [hAB]; exact hs) (.inl rfl) hB
            simp only [List.length_nil, List.nil_append] at *
            subst hAB
            have d1 : decide ((P.length : Int) < (P.length : Int)) = false := by simp
            simp (config := {maxSteps := 4000000}) only [U_slices_insertionSortCmpFunc_api_Found, d1, wi, reduceIte, reduceCtorEq, Nat.reduceEqDiff, Nat.reduceAdd, Int.reduceLT, Int.reduceLE, Int.reduceNeg, Int.reduceEq, Nat.reduceLT, Nat.reduceSub, Nat.reduceMul, Nat.reduceBEq, Nat.reduceLeDiff, Int.reduceBEq, Int.reduceBNe, Int.reduceToNat, ne_eq, implies_true, bA]
            refine ⟨(x :: B, W), ?_, ⟨hsr, by simp, hend hsr⟩, by simp⟩
            simp [Nat.add_assoc]
          · obtain ⟨A', y, rfl⟩ := snoc_of A hA
            simp only [List.length_append, List.length_singleton] at hABl
            have d1 : decide ((P.length : Int) < ((P.length + (A' ++ [y]).length : Nat) : Int)) = true := by simp; omega
            obtain ⟨L, hL⟩ : ∃ L, P ++ ((A' ++ [y]) ++ x :: (B ++ (W ++ Q))) = L := ⟨_, rfl⟩
            have hL1 : L = (P ++ A') ++ y :: ([] ++ x :: (B ++ (W ++ Q))) := by rw [← hL]; simp
            have hL2 : L = (P ++ A' ++ [y]) ++ x :: (B ++ (W ++ Q)) := by rw [← hL]; simp
            have hLN : N = L.length := by rw [hL1, hlen]; simp; omega
            have ej : P.length + (A' ++ [y]).length = P.length + A'.length + 1 := by simp; omega
            have w1 : IntKind.i64.wrap (((P.length + A'.length + 1 : Nat) : Int) - 1) = ((P.length + A'.length : Nat) : Int) := by rw [wrapI (by omega) (by omega)]; omega
            have o1 : (ob.set o (lF L))[o]? = some (lF L) := set_get ho
            obtain ⟨i1, l1⟩ := atF (o := o) (n := P.length + A'.length) hL1 (by simp) hLN
            obtain ⟨i2, l2⟩ := atF (o := o) (n := P.length + A'.length + 1) hL2 (by simp; omega) hLN
            obtain ⟨s1, o2, i3, s2⟩ := swF' (m := N) (i := P.length + A'.length) (j := P.length + A'.length + 1) ho hL1 (by simp) (by simp) hLN
            have hx : x.body.length ≤ 1000000 := hG' x (by simp)
            have hy : y.body.length ≤ 1000000 := hG' y (by rw [← hAB]; simp)
            rw [ej] at d1
            rw [hL, ej]
            simp (config := {maxSteps := 4000000}) only [U_slices_insertionSortCmpFunc_api_Found, d1, w1, o1, i1, i2, l1, l2, reduceIte, reduceCtorEq, Nat.reduceEqDiff, Nat.reduceAdd, Int.reduceLT, Int.reduceLE, Int.reduceNeg, Int.reduceEq, Nat.reduceLT, Nat.reduceSub, Nat.reduceMul, Nat.reduceBEq, Nat.reduceLeDiff, Int.reduceBEq, Int.reduceBNe, Int.reduceToNat, ne_eq, implies_true, bA]
            refine callI (cmF_spec x y hx hy) ?_
            cases hc : ltF x y with
            | true =>
              have d2 : decide (cmF x y < 0) = true := hc
              simp (config := {maxSteps := 4000000}) only [U_slices_insertionSortCmpFunc_api_Found, d2, w1, o1, i1, i2, l1, l2, s1, o2, i3, s2, rowF_len, rowF_own, rowF_cell, List.set_set, reduceIte, reduceCtorEq, Nat.reduceEqDiff, Nat.reduceAdd, Int.reduceLT, Int.reduceLE, Int.reduceNeg, Int.reduceEq, Nat.reduceLT, Nat.reduceSub, Nat.reduceMul, Nat.reduceBEq, Nat.reduceLeDiff, Int.reduceBEq, Int.reduceBNe, Int.reduceToNat, ne_eq, implies_true, bA]
              refine ⟨(A', y :: B), ?_, ⟨by rw [← hAB]; simp, .inr ⟨y, B, rfl, ltF_ord.asym _ _ hc⟩⟩, by simp⟩
              simp
            | false =>
              have d2 : decide (cmF x y < 0) = false := hc
              have hsr : Srt ltF ((A' ++ [y]) ++ x :: B) := srt_put ltF_ord (by rw [hAB]; exact hs) (.inr ⟨A', y, rfl, hc⟩) hB
              simp (config := {maxSteps := 4000000}) only [U_slices_insertionSortCmpFunc_api_Found, d2, wi, reduceIte, reduceCtorEq, Nat.reduceEqDiff, Nat.reduceAdd, Int.reduceLT, Int.reduceLE, Int.reduceNeg, Int.reduceEq, Nat.reduceLT, Nat.reduceSub, Nat.reduceMul, Nat.reduceBEq, Nat.reduceLeDiff, Int.reduceBEq, Int.reduceBNe, Int.reduceToNat, ne_eq, implies_true, bA]
              refine ⟨((A' ++ [y]) ++ x :: B, W), ?_, ⟨hsr, by simp, hend hsr⟩, by simp⟩
              have e9 : P.length + Z.length + 1 = P.length + ((A' ++ [y]) ++ x :: B).length := by simp only [List.length_append, List.length_cons, List.length_nil]; omega
              rw [← hL, e9]
              simp

end Go.Proofs.Ytklniadgdbjcpaa.Aw
