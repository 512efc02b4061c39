/-
  Lists of pages: two parts that are sorted are made one: the search for where to turn. Written by a program (mksymb2.py).
-/
import Derived.Test.YtklniadgdbjcpaaPSymA
set_option linter.unusedSimpArgs false
set_option linter.unusedVariables false
namespace Go.Proofs.Ytklniadgdbjcpaa.Aw
open Go.RowKit

def Sy1 (X Y : List Fd) (h s : Nat) : Prop := ∃ A x B A' y B', X = A ++ x :: B ∧ Y = A' ++ y :: B' ∧ A.length + 1 = s ∧ A'.length = h - s ∧ ltF y x = false
def Sy2 (X Y : List Fd) (h s : Nat) : Prop := ∃ A x B A' y B', X = A ++ x :: B ∧ Y = A' ++ y :: B' ∧ A.length = s ∧ A'.length + 1 = h - s ∧ ltF x y = false
theorem symS {ob : List AObj} {o : Nat} {P X Y Q L0 : List Fd} {N a m b h s0 r0 : Nat} {f : Nat → PV} {T : St → Prop} {K : Ex → St → Prop} (hL0 : L0 = P ++ (X ++ (Y ++ Q))) (hN : N = L0.length) (hl : N ≤ 1000000) (ho : ob[o]? = some (lF L0))
    (hG : ∀ z ∈ X ++ Y, z.body.length ≤ 1000000) (ha : a = P.length) (hm : m = P.length + X.length) (c1 : h ≤ s0 + Y.length) (c2 : r0 ≤ X.length) (c3 : r0 ≤ h) (c4 : s0 ≤ r0)
    (f0 : f 0 = .osl o 0 N) (f1 : f 1 = .int .i64 (a : Int)) (f2 : f 2 = .int .i64 (m : Int)) (f3 : f 3 = .int .i64 (b : Int)) (f4 : f 4 = fnF) (f18 : f 18 = .int .i64 ((a + h : Nat) : Int)) (f19 : f 19 = .int .i64 ((a + h + m : Nat) : Int))
    (f20 : f 20 = .int .i64 ((a + s0 : Nat) : Int)) (f21 : f 21 = .int .i64 ((a + r0 : Nat) : Int)) (f22 : f 22 = .int .i64 ((a + h + m - 1 : Nat) : Int))
    (hT : ∀ (g : Nat → PV) (s : Nat), s0 ≤ s → s ≤ r0 → (s = s0 ∨ Sy1 X Y h s) → (s = r0 ∨ Sy2 X Y h s) → g 0 = .osl o 0 N → g 1 = .int .i64 (a : Int) → g 2 = .int .i64 (m : Int) → g 3 = .int .i64 (b : Int) → g 4 = fnF → g 18 = .int .i64 ((a + h : Nat) : Int) →
      g 19 = .int .i64 ((a + h + m : Nat) : Int) → g 20 = .int .i64 ((a + s : Nat) : Int) → T ⟨g, ob⟩) :
    AWP Try.prog ob.length (.loop [0, 1, 2, 3, 4, 18, 19, 20, 21, 22] 1000000000 ac_slices_symMergeCmpFunc_api_Found_94) (kblk 8 (kseq T K)) ⟨f, ob⟩ := by
  have hlen : N = P.length + (X.length + (Y.length + Q.length)) := by rw [hN, hL0]; simp
  refine loopF (fun s : Nat × Nat => ⟨ofL [(0, .osl o 0 N), (1, .int .i64 (a : Int)), (2, .int .i64 (m : Int)), (3, .int .i64 (b : Int)), (4, fnF), (18, .int .i64 ((a + h : Nat) : Int)), (19, .int .i64 ((a + h + m : Nat) : Int)), (20, .int .i64 ((a + s.1 : Nat) : Int)), (21, .int .i64 ((a + s.2 : Nat) : Int)), (22, .int .i64 ((a + h + m - 1 : Nat) : Int))], ob⟩)
    (fun s => s0 ≤ s.1 ∧ s.1 ≤ s.2 ∧ s.2 ≤ r0 ∧ (s.1 = s0 ∨ Sy1 X Y h s.1) ∧ (s.2 = r0 ∨ Sy2 X Y h s.2)) (fun s => s.2 - s.1) (s0, r0) ?_ ⟨Nat.le_refl _, c4, Nat.le_refl _, .inl rfl, .inl rfl⟩ ?_
  · simp only [keepB_a, keepR_cons, keepR_nil, f0, f1, f2, f3, f4, f18, f19, f20, f21, f22]
  · rintro ⟨s, r⟩ ⟨hs1, hsr1, hr1, h1, h2⟩
    simp only at hs1 hsr1 hr1 h1 h2 ⊢
    by_cases hlt : s < r
    · have d := dT (show a + s < a + r by omega)
      have w1 := wrA (a := a + s) (b := a + r) (by omega)
      have w2 := wrU (n := a + s + (a + r)) (by omega)
      have w3 := half (n := a + s + (a + r)) (by omega)
      obtain ⟨c, hc, hc1, hc2⟩ : ∃ c, (a + s + (a + r)) / 2 = a + c ∧ s ≤ c ∧ c < r := ⟨(s + r) / 2, by omega, by omega, by omega⟩
      have w4 := wrI (n := a + c) (by omega)
      rw [hc] at w3
      have w6 : IntKind.i64.wrap (((a + h + m - 1 : Nat) : Int) - ((a + c : Nat) : Int)) = ((m + (h - 1 - c) : Nat) : Int) := by
        clear w1 w2 w3 w4 d h1 h2 hT hG
        rw [wrapI (by omega) (by omega)]; omega
      obtain ⟨A, x, B, hX1, hA⟩ := cut_mid X c (by clear w1 w2 w3 w4 w6 d h1 h2 hT hG; omega)
      obtain ⟨A', y, B', hY1, hA'⟩ := cut_mid Y (h - 1 - c) (by clear w1 w2 w3 w4 w6 d h1 h2 hT hG; omega)
      have hLx : L0 = (P ++ A) ++ x :: (B ++ (Y ++ Q)) := by rw [hL0, hX1]; simp
      have hLy : L0 = (P ++ X ++ A') ++ y :: (B' ++ Q) := by rw [hL0, hY1]; simp
      obtain ⟨i1, l1⟩ := atF (o := o) (n := a + c) (m := N) hLx (by rw [List.length_append, ← ha, hA]) hN
      obtain ⟨i2, l2⟩ := atF (o := o) (n := m + (h - 1 - c)) (m := N) hLy (by rw [List.length_append, List.length_append, ← hm, hA']) hN
      have hx : x.body.length ≤ 1000000 := hG x (by rw [hX1]; simp)
      have hy : y.body.length ≤ 1000000 := hG y (by rw [hY1]; simp)
      simp (config := {maxSteps := 4000000}) only [U_slices_symMergeCmpFunc_api_Found, d, w1, w2, w3, w4, w6, ho, i1, l1, i2, l2, reduceIte, reduceCtorEq, Nat.reduceEqDiff, Nat.reduceAdd, Int.reduceLT, Int.reduceLE, Int.reduceNeg, Int.reduceEq, Nat.reduceLT, Nat.reduceSub, Nat.reduceMul, Nat.reduceBEq, Nat.reduceLeDiff, Int.reduceBEq, Int.reduceBNe, Int.reduceToNat, ne_eq, implies_true, bA]
      refine callI (cmF_spec y x hy hx) ?_
      have k1 : s0 ≤ c := by omega
      have k2 : c + 1 ≤ r0 := by omega
      have k3 : h - 1 - c = h - (c + 1) := by omega
      have k4 : h - 1 - c + 1 = h - c := by omega
      have k5 : r - (c + 1) < r - s := by omega
      have k6 : c - s < r - s := by omega
      cases hcm : ltF y x with
      | false =>
        have d2 : decide (cmF y x < 0) = false := hcm
        have w8 : IntKind.i64.wrap (((a + c : Nat) : Int) + 1) = ((a + (c + 1) : Nat) : Int) := by
          clear w1 w2 w3 w4 w6 d d2 h1 h2 hT hG
          rw [wrapI (by omega) (by omega)]; omega
        simp (config := {maxSteps := 4000000}) only [U_slices_symMergeCmpFunc_api_Found, d2, w8, reduceIte, reduceCtorEq, Nat.reduceEqDiff, Nat.reduceAdd, Int.reduceLT, Int.reduceLE, Int.reduceNeg, Int.reduceEq, Nat.reduceLT, Nat.reduceSub, Nat.reduceMul, Nat.reduceBEq, Nat.reduceLeDiff, Int.reduceBEq, Int.reduceBNe, Int.reduceToNat, ne_eq, implies_true, bA]
        exact ⟨(c + 1, r), rfl, ⟨Nat.le_succ_of_le k1, hc2, hr1, .inr ⟨A, x, B, A', y, B', hX1, hY1, by rw [hA], by rw [hA', k3], hcm⟩, h2⟩, k5⟩
      | true =>
        have d2 : decide (cmF y x < 0) = true := hcm
        simp (config := {maxSteps := 4000000}) only [U_slices_symMergeCmpFunc_api_Found, d2, reduceIte, reduceCtorEq, Nat.reduceEqDiff, Nat.reduceAdd, Int.reduceLT, Int.reduceLE, Int.reduceNeg, Int.reduceEq, Nat.reduceLT, Nat.reduceSub, Nat.reduceMul, Nat.reduceBEq, Nat.reduceLeDiff, Int.reduceBEq, Int.reduceBNe, Int.reduceToNat, ne_eq, implies_true, bA]
        exact ⟨(s, c), rfl, ⟨hs1, hc1, Nat.le_of_succ_le k2, h1, .inr ⟨A, x, B, A', y, B', hX1, hY1, hA, by rw [hA', k4], ltF_ord.asym _ _ hcm⟩⟩, k6⟩
    · have hsr' : s = r := by omega
      subst hsr'
      have d := dF (show ¬ a + s < a + s by omega)
      simp (config := {maxSteps := 4000000}) only [U_slices_symMergeCmpFunc_api_Found, d, reduceIte, reduceCtorEq, Nat.reduceEqDiff, Nat.reduceAdd, Int.reduceLT, Int.reduceLE, Int.reduceNeg, Int.reduceEq, Nat.reduceLT, Nat.reduceSub, Nat.reduceMul, Nat.reduceBEq, Nat.reduceLeDiff, Int.reduceBEq, Int.reduceBNe, Int.reduceToNat, ne_eq, implies_true, bA]
      refine hT _ s hs1 hr1 h1 h2 ?_ ?_ ?_ ?_ ?_ ?_ ?_ ?_ <;> rfl

end Go.Proofs.Ytklniadgdbjcpaa.Aw
