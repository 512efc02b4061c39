/-
  Lists of pages: places changed with one another, a part turned about.
-/
import Derived.Test.YtklniadgdbjcpaaCodeS
import Derived.Test.YtklniadgdbjcpaaMSym
import Derived.Test.YtklniadgdbjcpaaMLink
set_option linter.unusedSimpArgs false
set_option linter.unusedVariables false
namespace Go.Proofs.Ytklniadgdbjcpaa.Aw
open Go.RowKit

structure Fd where
  at_ : Int
  kind : Int
  space : Int
  key : Int
  seq : Int
  body : List UInt8
deriving DecidableEq
def rowF (x : Fd) : List PV := [.int .i64 x.at_, .int .i64 x.kind, .int .i64 x.space, .int .i64 x.key, .int .i64 x.seq, .str x.body]
theorem rowF_len (x : Fd) : (rowF x).length = 6 := rfl
abbrev lF (l : List Fd) : AObj := .list 6 (l.map rowF)
theorem isF {l : List Fd} {o m : Nat} {v : Int} {i : Nat} (hv : v = (i : Int)) (hi : i < l.length) (hm : m = l.length) : islO (some (lF l)) 6 o 0 m (.int .i64 v) = some (.lref o i 0 m) := by
  subst hv
  rw [islO_at (by simpa using hm) (by simpa using hi)]; simp [hm]
theorem ldF {l : List Fd} {i m : Nat} (hi : i < l.length) (hm : m = l.length) : ldL (some (lF l)) i 0 m 6 = some (rowF l[i]) := by
  rw [ldL_at (by simp [hm]) (by simpa using hi) (by simp [rowF])]; simp [rowF]
theorem stF {ob : List AObj} {o i m : Nat} {l : List Fd} {x : Fd} (hi : i < l.length) (hm : m = l.length) : stL ob o (some (lF l)) i 0 m (rowF x) = some (.bot, ob.set o (lF (l.set i x))) := by
  have h1 : i < (l.map rowF).length := by simpa using hi
  simp [stL, List.getElem?_eq_getElem h1, hm, rowF, setAt, lF, List.map_set]
theorem set_self {ob : List AObj} {o : Nat} {a : AObj} (h : ob[o]? = some a) : ob.set o a = ob := by
  have hl := (List.getElem?_eq_some_iff.1 h).1
  rw [List.getElem?_eq_getElem hl] at h
  injection h with h
  rw [← h]; simp
/-- What changing two of the places comes to. -/
theorem swap_i {ob : List AObj} {o : Nat} {P X M Y Q : List Fd} {N : Nat} {g : PV} (hN : N = (P ++ (X ++ (M ++ (Y ++ Q)))).length) (hl : N ≤ 1000000) (ho : ob[o]? = some (lF (P ++ (X ++ (M ++ (Y ++ Q)))))) (hxy : X.length = Y.length)
    (hg : ∃ f, g = .fn (.func f) [] []) {a b n : Int} (ha : a = (P.length : Int)) (hb : b = ((P.length + X.length + M.length : Nat) : Int)) (hn : n = (X.length : Int)) :
    ICall Try.prog 55 [.osl o 0 N, .int .i64 a, .int .i64 b, .int .i64 n, g] ob fun r ob' => r = .tup [] ∧ ob' = ob.set o (lF (P ++ (Y ++ (M ++ (X ++ Q))))) := by
  obtain ⟨gf, rfl⟩ := hg
  subst ha hb hn
  refine icall_dr Try.func55 comp_slices_swapRangeCmpFunc_api_Found ?_
  have hlen : (P ++ (X ++ (M ++ (Y ++ Q)))).length = P.length + (X.length + (M.length + (Y.length + Q.length))) := by simp
  simp (config := {maxSteps := 4000000}) only [U_slices_swapRangeCmpFunc_api_Found, reduceIte, reduceCtorEq, Nat.reduceEqDiff, Nat.reduceAdd, Int.reduceLT, Int.reduceLE, Int.reduceNeg, Int.reduceEq, Nat.reduceLT, Nat.reduceSub, Nat.reduceMul, Nat.reduceBEq, Nat.reduceLeDiff, Int.reduceBEq, Int.reduceBNe, Int.reduceToNat, ne_eq, implies_true, bA]
  refine loopF (fun i : Nat => ⟨ofL [(0, .osl o 0 N), (1, .int .i64 (P.length : Int)), (2, .int .i64 ((P.length + X.length + M.length : Nat) : Int)), (3, .int .i64 (X.length : Int)), (10, .int .i64 (i : Int))],
    ob.set o (lF (P ++ (Y.take i ++ X.drop i ++ (M ++ (X.take i ++ Y.drop i ++ Q)))))⟩) (fun i => i ≤ X.length) (fun i => X.length - i) 0 ?_ (Nat.zero_le _) ?_
  · simp (config := {maxSteps := 4000000}) only [U_slices_swapRangeCmpFunc_api_Found, reduceIte, reduceCtorEq, Nat.reduceEqDiff, Nat.reduceAdd, Int.reduceLT, Int.reduceLE, Int.reduceNeg, Int.reduceEq, Nat.reduceLT, Nat.reduceSub, Nat.reduceMul, Nat.reduceBEq, Nat.reduceLeDiff, Int.reduceBEq, Int.reduceBNe, Int.reduceToNat, ne_eq, implies_true, bA]
    simp [set_self ho]
  · intro i hi
    by_cases hlt : i < X.length
    · have d : decide ((i : Int) < (X.length : Int)) = true := by simpa using hlt
      obtain ⟨X1, x, X2, hX, hx1⟩ := cut_mid X i hlt
      obtain ⟨Y1, y, Y2, hY, hy1⟩ := cut_mid Y i (by omega)
      have hXl : X.length = X1.length + (X2.length + 1) := by rw [hX]; simp
      have hYl : Y.length = Y1.length + (Y2.length + 1) := by rw [hY]; simp
      have t1 : X.take i = X1 := by rw [hX]; exact take_len _ _ hx1.symm
      have t2 : X.drop i = x :: X2 := by rw [hX]; exact drop_len _ _ hx1.symm
      have t3 : Y.take i = Y1 := by rw [hY]; exact take_len _ _ hy1.symm
      have t4 : Y.drop i = y :: Y2 := by rw [hY]; exact drop_len _ _ hy1.symm
      have t5 : X.take (i + 1) = X1 ++ [x] := by rw [hX, show X1 ++ x :: X2 = (X1 ++ [x]) ++ X2 by simp]; exact take_len _ _ (by simp [hx1])
      have t6 : X.drop (i + 1) = X2 := by rw [hX, show X1 ++ x :: X2 = (X1 ++ [x]) ++ X2 by simp]; exact drop_len _ _ (by simp [hx1])
      have t7 : Y.take (i + 1) = Y1 ++ [y] := by rw [hY, show Y1 ++ y :: Y2 = (Y1 ++ [y]) ++ Y2 by simp]; exact take_len _ _ (by simp [hy1])
      have t8 : Y.drop (i + 1) = Y2 := by rw [hY, show Y1 ++ y :: Y2 = (Y1 ++ [y]) ++ Y2 by simp]; exact drop_len _ _ (by simp [hy1])
      obtain ⟨L, hL⟩ : ∃ L, P ++ (Y.take i ++ X.drop i ++ (M ++ (X.take i ++ Y.drop i ++ Q))) = L := ⟨_, rfl⟩
      have hL2 : L = (P ++ Y1) ++ x :: ((X2 ++ M ++ X1) ++ y :: (Y2 ++ Q)) := by rw [← hL, t1, t2, t3, t4]; simp
      have hLN : N = L.length := by rw [hN, hL2]; simp; omega
      have hpi : P.length + i < L.length := by rw [← hLN]; omega
      have hqi : P.length + X.length + M.length + i < L.length := by rw [← hLN]; omega
      have g1 : L[P.length + i] = x := by
        rw [List.getElem_of_eq hL2]; exact get_mid _ _ _ _ (by simp; omega) _
      have g2 : L[P.length + X.length + M.length + i] = y := by
        rw [List.getElem_of_eq (hL2.trans (show (P ++ Y1) ++ x :: ((X2 ++ M ++ X1) ++ y :: (Y2 ++ Q)) = (P ++ Y1 ++ x :: (X2 ++ M ++ X1)) ++ y :: (Y2 ++ Q) by simp))]; exact get_mid _ _ _ _ (by simp; omega) _
      have w1 : IntKind.i64.wrap ((P.length : Int) + (i : Int)) = ((P.length + i : Nat) : Int) := by rw [wrapI (by omega) (by omega)]; omega
      have w2 : IntKind.i64.wrap (((P.length + X.length + M.length : Nat) : Int) + (i : Int)) = ((P.length + X.length + M.length + i : Nat) : Int) := by rw [wrapI (by omega) (by omega)]; omega
      have w3 : IntKind.i64.wrap ((i : Int) + 1) = ((i + 1 : Nat) : Int) := by rw [wrapI (by omega) (by omega)]; omega
      have o1 : (ob.set o (lF L))[o]? = some (lF L) := set_get ho
      have i1 := isF (o := o) (rfl : ((P.length + i : Nat) : Int) = _) hpi hLN
      have i2 := isF (o := o) (rfl : ((P.length + X.length + M.length + i : Nat) : Int) = _) hqi hLN
      have l1 := ldF hpi hLN
      have l2 := ldF hqi hLN
      rw [g1] at l1
      rw [g2] at l2
      have hLN' : N = (L.set (P.length + i) y).length := by simpa using hLN
      have i3 := isF (o := o) (l := L.set (P.length + i) y) (rfl : ((P.length + X.length + M.length + i : Nat) : Int) = _) (by simpa using hqi) hLN'
      have s1 := stF (ob := ob.set o (lF L)) (o := o) (x := y) hpi hLN
      have s2 := stF (ob := ob.set o (lF (L.set (P.length + i) y))) (o := o) (l := L.set (P.length + i) y) (x := x) (i := P.length + X.length + M.length + i) (by simpa using hqi) hLN'
      have o2 : (ob.set o (lF (L.set (P.length + i) y)))[o]? = some (lF (L.set (P.length + i) y)) := set_get ho
      have hr : ∀ x : Fd, ownL (rowF x) = false := fun x => by simp [rowF, ownL, PV.own?]
      have hc : ∀ x : Fd, (rowF x).all PV.cell? = true := fun x => by simp [rowF, PV.cell?]
      rw [hL]
      simp (config := {maxSteps := 4000000}) only [U_slices_swapRangeCmpFunc_api_Found, d, w1, w2, w3, o1, o2, i1, i2, i3, l1, l2, s1, s2, rowF_len, hr, hc, List.set_set, reduceIte, reduceCtorEq, Nat.reduceEqDiff, Nat.reduceAdd, Int.reduceLT, Int.reduceLE, Int.reduceNeg, Int.reduceEq, Nat.reduceLT, Nat.reduceSub, Nat.reduceMul, Nat.reduceBEq, Nat.reduceLeDiff, Int.reduceBEq, Int.reduceBNe, Int.reduceToNat, ne_eq, implies_true, bA]
      refine ⟨i + 1, ?_, hlt, by omega⟩
      rw [t5, t6, t7, t8, hL2, set_swap _ _ _ _ _ _ _ (by simp; omega) (by simp; omega)]
      simp
    · have d : decide ((i : Int) < (X.length : Int)) = false := by simpa using hlt
      have t1 : X.take i = X := List.take_of_length_le (by omega)
      have t2 : X.drop i = [] := List.drop_of_length_le (by omega)
      have t3 : Y.take i = Y := List.take_of_length_le (by omega)
      have t4 : Y.drop i = [] := List.drop_of_length_le (by omega)
      simp (config := {maxSteps := 4000000}) only [U_slices_swapRangeCmpFunc_api_Found, d, t1, t2, t3, t4, reduceIte, reduceCtorEq, Nat.reduceEqDiff, Nat.reduceAdd, Int.reduceLT, Int.reduceLE, Int.reduceNeg, Int.reduceEq, Nat.reduceLT, Nat.reduceSub, Nat.reduceMul, Nat.reduceBEq, Nat.reduceLeDiff, Int.reduceBEq, Int.reduceBNe, Int.reduceToNat, ne_eq, implies_true, bA]
      exact ⟨_, rfl, rfl⟩

end Go.Proofs.Ytklniadgdbjcpaa.Aw
