/-
  Lists of pages: sorted, those alike left in their order.
-/
import Derived.Test.YtklniadgdbjcpaaPSymC
set_option linter.unusedSimpArgs false
set_option linter.unusedVariables false
namespace Go.Proofs.Ytklniadgdbjcpaa.Aw
open Go.RowKit

def Bks (s : Nat) (Bs : List (List Fd)) : Prop := ∀ X ∈ Bs, X.length = s ∧ Srt ltF X
theorem Bks.snoc {s : Nat} {Bs : List (List Fd)} {Z : List Fd} (h : Bks s Bs) (hz : Z.length = s) (sz : Srt ltF Z) : Bks s (Bs ++ [Z]) := by
  intro X hX
  rw [List.mem_append, List.mem_singleton] at hX
  rcases hX with hX | rfl
  · exact h X hX
  · exact ⟨hz, sz⟩
abbrev StabK (ob : List AObj) (o : Nat) (l : List Fd) : PV → List AObj → Prop := fun r ob' => r = .tup [] ∧ ∃ Z, Srt ltF Z ∧ Z.Perm l ∧ ob' = ob.set o (lF Z)
theorem lT {a b : Nat} (h : a ≤ b) : decide ((a : Int) ≤ (b : Int)) = true := by simpa using h
theorem lFa {a b : Nat} (h : ¬ a ≤ b) : decide ((a : Int) ≤ (b : Int)) = false := by simpa using h

/-- A pass: blocks of one size to blocks of twice that size. -/
theorem stabP {ob : List AObj} {o : Nat} {l0 : List Fd} {N s : Nat} {f : Nat → PV} {T : St → Prop} {K : Ex → St → Prop} {Bs0 : List (List Fd)} {R : List Fd} {a0 : AObj} (hN : N = l0.length) (hl : N ≤ 1000000) (ho : ob[o]? = some a0)
    (hG : ∀ z ∈ l0, z.body.length ≤ 1000000) (hs : 20 ≤ s) (hsN : s < N) (hB : Bks s Bs0) (lR : R.length < s) (hp : (Bs0.flatten ++ R).Perm l0)
    (f0 : f 0 = .osl o 0 N) (f1 : f 1 = .int .i64 (N : Int)) (f2 : f 2 = fnF) (f6 : f 6 = .int .i64 (s : Int)) (f7 : f 7 = .int .i64 0) (f8 : f 8 = .int .i64 ((2 * s : Nat) : Int))
    (hT : ∀ (g : Nat → PV) (Cs Bs : List (List Fd)), Bks (2 * s) Cs → Bks s Bs → Bs.length ≤ 1 → (Cs.flatten ++ (Bs.flatten ++ R)).Perm l0 → g 0 = .osl o 0 N → g 1 = .int .i64 (N : Int) → g 2 = fnF → g 6 = .int .i64 (s : Int) → g 7 = .int .i64 (Cs.flatten.length : Int) →
      T ⟨g, ob.set o (lF (Cs.flatten ++ (Bs.flatten ++ R)))⟩) :
    AWP Try.prog ob.length (.loop [0, 1, 2, 6, 7, 8] 1000000000 ac_slices_stableCmpFunc_api_Found_28) (kblk 4 (kseq T K)) ⟨f, ob.set o (lF (Bs0.flatten ++ R))⟩ := by
  refine loopF (fun s' : List (List Fd) × List (List Fd) => ⟨ofL [(0, .osl o 0 N), (1, .int .i64 (N : Int)), (2, fnF), (6, .int .i64 (s : Int)), (7, .int .i64 (s'.1.flatten.length : Int)), (8, .int .i64 ((s'.1.flatten.length + 2 * s : Nat) : Int))], ob.set o (lF (s'.1.flatten ++ (s'.2.flatten ++ R)))⟩)
    (fun s' => Bks (2 * s) s'.1 ∧ Bks s s'.2 ∧ (s'.1.flatten ++ (s'.2.flatten ++ R)).Perm l0) (fun s' => s'.2.length) ([], Bs0) ?_ ⟨(fun X h => by cases h), hB, by simpa using hp⟩ ?_
  · simp only [keepB_a, keepR_cons, keepR_nil, f0, f1, f2, f6, f7, f8, List.flatten_nil, List.nil_append, List.length_nil, Nat.zero_add]
    rfl
  · rintro ⟨Cs, Bs⟩ ⟨hC, hB', hp'⟩
    simp only at hC hB' hp' ⊢
    have hlen : Cs.flatten.length + (Bs.flatten.length + R.length) = N := by have := hp'.length_eq; simp only [List.length_append] at this; omega
    obtain ⟨D, hD⟩ : ∃ D, Cs.flatten = D := ⟨_, rfl⟩
    rcases Bs with _ | ⟨X, _ | ⟨Y, Bs⟩⟩
    · simp only [List.flatten_nil, List.length_nil, List.nil_append] at hlen hp' ⊢
      rw [hD] at hlen hp' ⊢
      have d := lFa (show ¬ D.length + 2 * s ≤ N by omega)
      simp (config := {maxSteps := 4000000}) only [U_slices_stableCmpFunc_api_Found, d, reduceIte, reduceCtorEq, Nat.reduceEqDiff, Nat.reduceAdd, Int.reduceLT, Int.reduceLE, Int.reduceNeg, Int.reduceEq, Nat.reduceLT, Nat.reduceSub, Nat.reduceMul, Nat.reduceBEq, Nat.reduceLeDiff, Int.reduceBEq, Int.reduceBNe, Int.reduceToNat, ne_eq, implies_true, bA]
      have hh := fun g => hT g Cs [] hC hB' (by simp) (by simpa [hD] using hp')
      simp only [List.flatten_nil, List.nil_append] at hh
      rw [hD] at hh
      refine hh _ ?_ ?_ ?_ ?_ ?_ <;> rfl
    · have lX := (hB' X (by simp)).1
      simp only [List.flatten_cons, List.flatten_nil, List.append_nil, List.length_append] at hlen hp' ⊢
      rw [hD] at hlen hp' ⊢
      have d := lFa (show ¬ D.length + 2 * s ≤ N by omega)
      simp (config := {maxSteps := 4000000}) only [U_slices_stableCmpFunc_api_Found, d, reduceIte, reduceCtorEq, Nat.reduceEqDiff, Nat.reduceAdd, Int.reduceLT, Int.reduceLE, Int.reduceNeg, Int.reduceEq, Nat.reduceLT, Nat.reduceSub, Nat.reduceMul, Nat.reduceBEq, Nat.reduceLeDiff, Int.reduceBEq, Int.reduceBNe, Int.reduceToNat, ne_eq, implies_true, bA]
      have hh := fun g => hT g Cs [X] hC hB' (by simp) (by simpa [hD] using hp')
      simp only [List.flatten_cons, List.flatten_nil, List.append_nil] at hh
      rw [hD] at hh
      refine hh _ ?_ ?_ ?_ ?_ ?_ <;> rfl
    · have lX := hB' X (by simp)
      have lY := hB' Y (by simp)
      have hB2 : Bks s Bs := fun Z hZ => hB' Z (by simp [hZ])
      obtain ⟨E, hE⟩ : ∃ E, Bs.flatten ++ R = E := ⟨_, rfl⟩
      have hsh : (X :: Y :: Bs).flatten ++ R = X ++ (Y ++ E) := by rw [← hE]; simp
      rw [hsh, hD] at hp' ⊢
      have hlen : D.length + (X.length + (Y.length + E.length)) = N := by have := hp'.length_eq; simp only [List.length_append] at this; omega
      have d := lT (show D.length + 2 * s ≤ N by omega)
      have w1 := wrA (a := D.length) (b := s) (by omega)
      have w2 : IntKind.i64.wrap (2 * (s : Int)) = ((2 * s : Nat) : Int) := by rw [wrapI (by omega) (by omega)]; omega
      have o1 : (ob.set o (lF (D ++ (X ++ (Y ++ E)))))[o]? = some (lF (D ++ (X ++ (Y ++ E)))) := set_get ho
      have e1 : D.length + s = D.length + X.length := by rw [lX.1]
      have e2 : D.length + 2 * s = D.length + X.length + Y.length := by rw [lX.1, lY.1]; omega
      have e3 : N = (D ++ (X ++ (Y ++ E))).length := by simp only [List.length_append]; omega
      have gXY : ∀ z ∈ X ++ Y, z.body.length ≤ 1000000 := fun z hz => hG z (hp'.mem_iff.1 (by simp only [List.mem_append] at hz ⊢; rcases hz with hz | hz <;> simp [hz]))
      have n1 : X ≠ [] := by intro h; rw [h] at lX; simp at lX; omega
      have n2 : Y ≠ [] := by intro h; rw [h] at lY; simp at lY; omega
      simp (config := {maxSteps := 4000000}) only [U_slices_stableCmpFunc_api_Found, d, w1, reduceIte, reduceCtorEq, Nat.reduceEqDiff, Nat.reduceAdd, Int.reduceLT, Int.reduceLE, Int.reduceNeg, Int.reduceEq, Nat.reduceLT, Nat.reduceSub, Nat.reduceMul, Nat.reduceBEq, Nat.reduceLeDiff, Int.reduceBEq, Int.reduceBNe, Int.reduceToNat, ne_eq, implies_true, bA]
      refine callM (sym_i _ _ _ D X Y E N _ _ _ (Nat.le_refl _) e3 hl o1 n1 n2 lX.2 lY.2 gXY rfl e1 e2) ?_
      rintro r ob' ⟨rfl, Z, sZ, pZ, rfl⟩
      have lZ : Z.length = 2 * s := by rw [pZ.length_eq, List.length_append, lX.1, lY.1]; omega
      have w3 := wrA (a := D.length + 2 * s) (b := 2 * s) (by omega)
      simp (config := {maxSteps := 4000000}) only [U_slices_stableCmpFunc_api_Found, w2, w3, List.set_set, reduceIte, reduceCtorEq, Nat.reduceEqDiff, Nat.reduceAdd, Int.reduceLT, Int.reduceLE, Int.reduceNeg, Int.reduceEq, Nat.reduceLT, Nat.reduceSub, Nat.reduceMul, Nat.reduceBEq, Nat.reduceLeDiff, Int.reduceBEq, Int.reduceBNe, Int.reduceToNat, ne_eq, implies_true, bA]
      refine ⟨(Cs ++ [Z], Bs), ?_, ⟨hC.snoc lZ sZ, hB2, ?_⟩, by simp only [List.length_cons]; omega⟩
      · simp only [List.flatten_append, List.flatten_cons, List.flatten_nil, List.append_nil, hD, List.length_append, lZ, hE, List.append_assoc]
      · simp only [List.flatten_append, List.flatten_cons, List.flatten_nil, List.append_nil, hD, hE, List.append_assoc]
        refine List.Perm.trans ?_ hp'
        refine List.Perm.append_left D ?_
        rw [← List.append_assoc]
        exact List.Perm.append_right E pZ
/-- Behind a pass: what is left becomes one block. -/
theorem stabQ {ob : List AObj} {o : Nat} {l0 : List Fd} {N s : Nat} {f : Nat → PV} {T : St → Prop} {K : Ex → St → Prop} {Cs Bs : List (List Fd)} {R : List Fd} {a0 : AObj} (hN : N = l0.length) (hl : N ≤ 1000000) (ho : ob[o]? = some a0)
    (hG : ∀ z ∈ l0, z.body.length ≤ 1000000) (hs : 20 ≤ s) (hsN : s < N) (hC : Bks (2 * s) Cs) (hB : Bks s Bs) (hB1 : Bs.length ≤ 1) (sR : Srt ltF R) (lR : R.length < s) (hp : (Cs.flatten ++ (Bs.flatten ++ R)).Perm l0)
    (f0 : f 0 = .osl o 0 N) (f1 : f 1 = .int .i64 (N : Int)) (f2 : f 2 = fnF) (f6 : f 6 = .int .i64 (s : Int)) (f7 : f 7 = .int .i64 (Cs.flatten.length : Int))
    (hT : ∀ (g : Nat → PV) (R' : List Fd), Srt ltF R' → R'.length < 2 * s → (Cs.flatten ++ R').Perm l0 → g 0 = .osl o 0 N → g 1 = .int .i64 (N : Int) → g 2 = fnF → g 6 = .int .i64 (s : Int) → T ⟨g, ob.set o (lF (Cs.flatten ++ R'))⟩) :
    AWP Try.prog ob.length ac_slices_stableCmpFunc_api_Found_36 (kseq T K) ⟨f, ob.set o (lF (Cs.flatten ++ (Bs.flatten ++ R)))⟩ := by
  obtain ⟨D, hD⟩ : ∃ D, Cs.flatten = D := ⟨_, rfl⟩
  rw [hD] at hp hT f7 ⊢
  have w1 : ∀ n, D.length + n = N → IntKind.i64.wrap ((D.length : Int) + (s : Int)) = ((D.length + s : Nat) : Int) := fun n h => wrA (by omega)
  rcases Bs with _ | ⟨X, _ | ⟨Y, Bs⟩⟩
  · simp only [List.flatten_nil, List.nil_append] at hp ⊢
    have hlen : D.length + R.length = N := by have := hp.length_eq; simp only [List.length_append] at this; omega
    have w1 := w1 _ hlen
    have d := dF (show ¬ D.length + s < N by omega)
    simp (config := {maxSteps := 4000000}) only [U_slices_stableCmpFunc_api_Found, f0, f1, f2, f6, f7, w1, d, reduceIte, reduceCtorEq, Nat.reduceEqDiff, Nat.reduceAdd, Int.reduceLT, Int.reduceLE, Int.reduceNeg, Int.reduceEq, Nat.reduceLT, Nat.reduceSub, Nat.reduceMul, Nat.reduceBEq, Nat.reduceLeDiff, Int.reduceBEq, Int.reduceBNe, Int.reduceToNat, ne_eq, implies_true, bA]
    refine hT _ R sR (by omega) hp ?_ ?_ ?_ ?_ <;> first | exact f0 | exact f1 | exact f2 | exact f6
  · have lX := hB X (by simp)
    simp only [List.flatten_cons, List.flatten_nil, List.append_nil] at hp ⊢
    have hlen : D.length + (X.length + R.length) = N := by have := hp.length_eq; simp only [List.length_append] at this; omega
    have w1 := w1 _ hlen
    by_cases hR : R = []
    · subst hR
      simp only [List.length_nil, List.append_nil] at hlen hp ⊢
      have d := dF (show ¬ D.length + s < N by omega)
      simp (config := {maxSteps := 4000000}) only [U_slices_stableCmpFunc_api_Found, f0, f1, f2, f6, f7, w1, d, reduceIte, reduceCtorEq, Nat.reduceEqDiff, Nat.reduceAdd, Int.reduceLT, Int.reduceLE, Int.reduceNeg, Int.reduceEq, Nat.reduceLT, Nat.reduceSub, Nat.reduceMul, Nat.reduceBEq, Nat.reduceLeDiff, Int.reduceBEq, Int.reduceBNe, Int.reduceToNat, ne_eq, implies_true, bA]
      refine hT _ X lX.2 (by omega) hp ?_ ?_ ?_ ?_ <;> first | exact f0 | exact f1 | exact f2 | exact f6
    · have hR1 := len1 hR
      have d := dT (show D.length + s < N by omega)
      have o1 : (ob.set o (lF (D ++ (X ++ R))))[o]? = some (lF (D ++ (X ++ (R ++ [])))) := by rw [List.append_nil]; exact set_get ho
      have e1 : D.length + s = D.length + X.length := by rw [lX.1]
      have e2 : N = D.length + X.length + R.length := by omega
      have e3 : N = (D ++ (X ++ (R ++ []))).length := by simp only [List.length_append, List.length_nil]; omega
      have gXY : ∀ z ∈ X ++ R, z.body.length ≤ 1000000 := fun z hz => hG z (hp.mem_iff.1 (by simp only [List.mem_append] at hz ⊢; rcases hz with hz | hz <;> simp [hz]))
      have n1 : X ≠ [] := by intro h; rw [h] at lX; simp at lX; omega
      simp (config := {maxSteps := 4000000}) only [U_slices_stableCmpFunc_api_Found, f0, f1, f2, f6, f7, w1, d, reduceIte, reduceCtorEq, Nat.reduceEqDiff, Nat.reduceAdd, Int.reduceLT, Int.reduceLE, Int.reduceNeg, Int.reduceEq, Nat.reduceLT, Nat.reduceSub, Nat.reduceMul, Nat.reduceBEq, Nat.reduceLeDiff, Int.reduceBEq, Int.reduceBNe, Int.reduceToNat, ne_eq, implies_true, bA]
      refine callM (sym_i _ _ _ D X R [] N _ _ _ (Nat.le_refl _) e3 hl o1 n1 hR lX.2 sR gXY rfl e1 e2) ?_
      rintro r ob' ⟨rfl, Z, sZ, pZ, rfl⟩
      have lZ : Z.length = s + R.length := by rw [pZ.length_eq, List.length_append, lX.1]
      rw [List.append_nil]
      simp (config := {maxSteps := 4000000}) only [U_slices_stableCmpFunc_api_Found, f0, f1, f2, f6, f7, List.set_set, reduceIte, reduceCtorEq, Nat.reduceEqDiff, Nat.reduceAdd, Int.reduceLT, Int.reduceLE, Int.reduceNeg, Int.reduceEq, Nat.reduceLT, Nat.reduceSub, Nat.reduceMul, Nat.reduceBEq, Nat.reduceLeDiff, Int.reduceBEq, Int.reduceBNe, Int.reduceToNat, ne_eq, implies_true, bA]
      refine hT _ Z sZ (by omega) ((List.Perm.append_left D pZ).trans hp) ?_ ?_ ?_ ?_ <;> first | exact f0 | exact f1 | exact f2 | exact f6
  · simp at hB1
/-- The first pass: blocks of 20. -/
theorem stab1 {ob : List AObj} {o : Nat} {l0 : List Fd} {N : Nat} {f : Nat → PV} {T : St → Prop} {K : Ex → St → Prop} (hN : N = l0.length) (hl : N ≤ 1000000) (ho : ob[o]? = some (lF l0))
    (hG : ∀ z ∈ l0, z.body.length ≤ 1000000)
    (f0 : f 0 = .osl o 0 N) (f1 : f 1 = .int .i64 (N : Int)) (f2 : f 2 = fnF) (f6 : f 6 = .int .i64 20) (f7 : f 7 = .int .i64 0) (f8 : f 8 = .int .i64 20)
    (hT : ∀ (g : Nat → PV) (Bs : List (List Fd)) (R : List Fd), Bks 20 Bs → R.length < 20 → (Bs.flatten ++ R).Perm l0 → g 0 = .osl o 0 N → g 1 = .int .i64 (N : Int) → g 2 = fnF → g 6 = .int .i64 20 → g 7 = .int .i64 (Bs.flatten.length : Int) →
      T ⟨g, ob.set o (lF (Bs.flatten ++ R))⟩) :
    AWP Try.prog ob.length (.loop [0, 1, 2, 6, 7, 8] 1000000000 ac_slices_stableCmpFunc_api_Found_11) (kblk 0 (kseq T K)) ⟨f, ob⟩ := by
  refine loopF (fun s' : List (List Fd) × List Fd => ⟨ofL [(0, .osl o 0 N), (1, .int .i64 (N : Int)), (2, fnF), (6, .int .i64 20), (7, .int .i64 (s'.1.flatten.length : Int)), (8, .int .i64 ((s'.1.flatten.length + 20 : Nat) : Int))], ob.set o (lF (s'.1.flatten ++ s'.2))⟩)
    (fun s' => Bks 20 s'.1 ∧ (s'.1.flatten ++ s'.2).Perm l0) (fun s' => s'.2.length) ([], l0) ?_ ⟨(fun X h => by cases h), by simp⟩ ?_
  · simp only [keepB_a, keepR_cons, keepR_nil, f0, f1, f2, f6, f7, f8, List.flatten_nil, List.nil_append, List.length_nil, Nat.zero_add, set_self ho]
    rfl
  · rintro ⟨Bs, R⟩ ⟨hB, hp⟩
    simp only at hB hp ⊢
    obtain ⟨D, hD⟩ : ∃ D, Bs.flatten = D := ⟨_, rfl⟩
    have hlen : D.length + R.length = N := by have := hp.length_eq; rw [hD] at this; simp only [List.length_append] at this; omega
    have hh := fun g => hT g Bs R hB
    rw [hD] at hp hh ⊢
    by_cases hle : D.length + 20 ≤ N
    · have d := lT hle
      obtain ⟨X, R', rfl, lX⟩ := cut_at R 20 (by omega)
      have o1 : (ob.set o (lF (D ++ (X ++ R'))))[o]? = some (lF (D ++ (X ++ R'))) := set_get ho
      have e2 : ((D.length + 20 : Nat) : Int) = ((D.length + X.length : Nat) : Int) := by rw [lX]
      have gX : ∀ z ∈ X, z.body.length ≤ 1000000 := fun z hz => hG z (hp.mem_iff.1 (by simp [hz]))
      have e3 : N = (D ++ (X ++ R')).length := by simp only [List.length_append] at hlen ⊢; omega
      simp (config := {maxSteps := 4000000}) only [U_slices_stableCmpFunc_api_Found, d, reduceIte, reduceCtorEq, Nat.reduceEqDiff, Nat.reduceAdd, Int.reduceLT, Int.reduceLE, Int.reduceNeg, Int.reduceEq, Nat.reduceLT, Nat.reduceSub, Nat.reduceMul, Nat.reduceBEq, Nat.reduceLeDiff, Int.reduceBEq, Int.reduceBNe, Int.reduceToNat, ne_eq, implies_true, bA]
      refine callM (ins_i e3 hl o1 gX rfl e2) ?_
      rintro r ob' ⟨rfl, Z, sZ, pZ, rfl⟩
      have lZ : Z.length = 20 := by rw [pZ.length_eq, lX]
      have w3 : IntKind.i64.wrap (((D.length + 20 : Nat) : Int) + 20) = ((D.length + 20 + 20 : Nat) : Int) := by rw [wrapI (by omega) (by omega)]; omega
      simp (config := {maxSteps := 4000000}) only [U_slices_stableCmpFunc_api_Found, w3, List.set_set, reduceIte, reduceCtorEq, Nat.reduceEqDiff, Nat.reduceAdd, Int.reduceLT, Int.reduceLE, Int.reduceNeg, Int.reduceEq, Nat.reduceLT, Nat.reduceSub, Nat.reduceMul, Nat.reduceBEq, Nat.reduceLeDiff, Int.reduceBEq, Int.reduceBNe, Int.reduceToNat, ne_eq, implies_true, bA]
      refine ⟨(Bs ++ [Z], R'), ?_, ⟨hB.snoc lZ sZ, ?_⟩, by simp only [List.length_append]; omega⟩
      · simp only [List.flatten_append, List.flatten_cons, List.flatten_nil, List.append_nil, hD, List.length_append, lZ, List.append_assoc]
      · simp only [List.flatten_append, List.flatten_cons, List.flatten_nil, List.append_nil, hD, List.append_assoc]
        refine List.Perm.trans ?_ hp
        exact List.Perm.append_left D (List.Perm.append_right R' pZ)
    · have d := lFa hle
      simp (config := {maxSteps := 4000000}) only [U_slices_stableCmpFunc_api_Found, d, reduceIte, reduceCtorEq, Nat.reduceEqDiff, Nat.reduceAdd, Int.reduceLT, Int.reduceLE, Int.reduceNeg, Int.reduceEq, Nat.reduceLT, Nat.reduceSub, Nat.reduceMul, Nat.reduceBEq, Nat.reduceLeDiff, Int.reduceBEq, Int.reduceBNe, Int.reduceToNat, ne_eq, implies_true, bA]
      refine hh _ (by omega) hp ?_ ?_ ?_ ?_ ?_ <;> rfl
/-- The passes behind the first one. -/
theorem stab2 {ob : List AObj} {o : Nat} {l0 : List Fd} {N : Nat} {f : Nat → PV} {Bs0 : List (List Fd)} {R0 : List Fd} (hN : N = l0.length) (hl : N ≤ 1000000) (ho : ob[o]? = some (lF l0))
    (hG : ∀ z ∈ l0, z.body.length ≤ 1000000) (hB : Bks 20 Bs0) (sR : Srt ltF R0) (lR : R0.length < 20) (hp : (Bs0.flatten ++ R0).Perm l0)
    (f0 : f 0 = .osl o 0 N) (f1 : f 1 = .int .i64 (N : Int)) (f2 : f 2 = fnF) (f6 : f 6 = .int .i64 20) :
    AWP Try.prog ob.length (.loop [0, 1, 2, 6] 1000000000 ac_slices_stableCmpFunc_api_Found_42) (kblk 2 (AEnd [] (StabK ob o l0))) ⟨f, ob.set o (lF (Bs0.flatten ++ R0))⟩ := by
  refine loopF (fun s' : Nat × List (List Fd) × List Fd => ⟨ofL [(0, .osl o 0 N), (1, .int .i64 (N : Int)), (2, fnF), (6, .int .i64 (s'.1 : Int))], ob.set o (lF (s'.2.1.flatten ++ s'.2.2))⟩)
    (fun s' => 20 ≤ s'.1 ∧ Bks s'.1 s'.2.1 ∧ Srt ltF s'.2.2 ∧ s'.2.2.length < s'.1 ∧ (s'.2.1.flatten ++ s'.2.2).Perm l0) (fun s' => N - s'.1) (20, Bs0, R0) ?_ ⟨Nat.le_refl _, hB, sR, lR, hp⟩ ?_
  · simp only [keepB_a, keepR_cons, keepR_nil, f0, f1, f2, f6]
    rfl
  · rintro ⟨s, Bs, R⟩ ⟨hs, hB, sR, lR, hp⟩
    simp only at hs hB sR lR hp ⊢
    by_cases hlt : s < N
    · have d := dT hlt
      have w2 : IntKind.i64.wrap (2 * (s : Int)) = ((2 * s : Nat) : Int) := by rw [wrapI (by omega) (by omega)]; omega
      have w4 : IntKind.i64.wrap ((s : Int) * 2) = ((2 * s : Nat) : Int) := by rw [wrapI (by omega) (by omega)]; omega
      simp (config := {maxSteps := 4000000}) only [U_slices_stableCmpFunc_api_Found, d, w2, reduceIte, reduceCtorEq, Nat.reduceEqDiff, Nat.reduceAdd, Int.reduceLT, Int.reduceLE, Int.reduceNeg, Int.reduceEq, Nat.reduceLT, Nat.reduceSub, Nat.reduceMul, Nat.reduceBEq, Nat.reduceLeDiff, Int.reduceBEq, Int.reduceBNe, Int.reduceToNat, ne_eq, implies_true, bA]
      refine stabP hN hl ho hG hs hlt hB lR hp ?_ ?_ ?_ ?_ ?_ ?_ ?_ <;> try rfl
      intro g Cs Bs' hC hB' hB1 hp' g0 g1 g2 g6 g7
      show AWP Try.prog ob.length (.seq ac_slices_stableCmpFunc_api_Found_36 ac_slices_stableCmpFunc_api_Found_37) _ _
      rw [AWP_seq]
      refine stabQ hN hl ho hG hs hlt hC hB' hB1 sR lR hp' g0 g1 g2 g6 g7 ?_
      intro g R' sR' lR' hp' g0 g1 g2 g6
      simp (config := {maxSteps := 4000000}) only [U_slices_stableCmpFunc_api_Found, g0, g1, g2, g6, w4, reduceIte, reduceCtorEq, Nat.reduceEqDiff, Nat.reduceAdd, Int.reduceLT, Int.reduceLE, Int.reduceNeg, Int.reduceEq, Nat.reduceLT, Nat.reduceSub, Nat.reduceMul, Nat.reduceBEq, Nat.reduceLeDiff, Int.reduceBEq, Int.reduceBNe, Int.reduceToNat, ne_eq, implies_true, bA]
      exact ⟨(2 * s, Cs, R'), rfl, ⟨by simp only; omega, hC, sR', lR', hp'⟩, by simp only; omega⟩
    · have d := dF hlt
      simp (config := {maxSteps := 4000000}) only [U_slices_stableCmpFunc_api_Found, d, reduceIte, reduceCtorEq, Nat.reduceEqDiff, Nat.reduceAdd, Int.reduceLT, Int.reduceLE, Int.reduceNeg, Int.reduceEq, Nat.reduceLT, Nat.reduceSub, Nat.reduceMul, Nat.reduceBEq, Nat.reduceLeDiff, Int.reduceBEq, Int.reduceBNe, Int.reduceToNat, ne_eq, implies_true, bA]
      have hlen : Bs.flatten.length + R.length = N := by have := hp.length_eq; simp only [List.length_append] at this; omega
      refine ⟨_, rfl, rfl, Bs.flatten ++ R, ?_, hp, rfl⟩
      rcases Bs with _ | ⟨X, _ | ⟨Y, Bs⟩⟩
      · simpa using sR
      · have lX := hB X (by simp)
        simp only [List.flatten_cons, List.flatten_nil, List.append_nil] at hlen ⊢
        have hR : R = [] := List.eq_nil_of_length_eq_zero (by omega)
        rw [hR, List.append_nil]; exact lX.2
      · have lX := hB X (by simp)
        have lY := hB Y (by simp)
        simp only [List.flatten_cons, List.length_append] at hlen
        omega
theorem stable_i {ob : List AObj} {o : Nat} {l0 : List Fd} {N : Nat} (hN : N = l0.length) (hl : N ≤ 1000000) (ho : ob[o]? = some (lF l0)) (hG : ∀ z ∈ l0, z.body.length ≤ 1000000) :
    ICall Try.prog 45 [.osl o 0 N, .int .i64 (N : Int), fnF] ob (StabK ob o l0) := by
  refine icall_dr Try.func45 comp_slices_stableCmpFunc_api_Found ?_
  simp (config := {maxSteps := 4000000}) only [U_slices_stableCmpFunc_api_Found, reduceIte, reduceCtorEq, Nat.reduceEqDiff, Nat.reduceAdd, Int.reduceLT, Int.reduceLE, Int.reduceNeg, Int.reduceEq, Nat.reduceLT, Nat.reduceSub, Nat.reduceMul, Nat.reduceBEq, Nat.reduceLeDiff, Int.reduceBEq, Int.reduceBNe, Int.reduceToNat, ne_eq, implies_true, bA]
  refine stab1 hN hl ho hG ?_ ?_ ?_ ?_ ?_ ?_ ?_ <;> try rfl
  intro g Bs R hB lR hp g0 g1 g2 g6 g7
  have o1 : (ob.set o (lF (Bs.flatten ++ R)))[o]? = some (lF (Bs.flatten ++ (R ++ []))) := by rw [List.append_nil]; exact set_get ho
  have hlen : Bs.flatten.length + R.length = N := by have := hp.length_eq; simp only [List.length_append] at this; omega
  have e3 : N = (Bs.flatten ++ (R ++ [])).length := by simp only [List.length_append, List.length_nil]; omega
  have gR : ∀ z ∈ R, z.body.length ≤ 1000000 := fun z hz => hG z (hp.mem_iff.1 (by simp [hz]))
  have e2 : (N : Int) = ((Bs.flatten.length + R.length : Nat) : Int) := by omega
  simp (config := {maxSteps := 4000000}) only [U_slices_stableCmpFunc_api_Found, g0, g1, g2, g6, g7, reduceIte, reduceCtorEq, Nat.reduceEqDiff, Nat.reduceAdd, Int.reduceLT, Int.reduceLE, Int.reduceNeg, Int.reduceEq, Nat.reduceLT, Nat.reduceSub, Nat.reduceMul, Nat.reduceBEq, Nat.reduceLeDiff, Int.reduceBEq, Int.reduceBNe, Int.reduceToNat, ne_eq, implies_true, bA]
  refine callM (ins_i e3 hl o1 gR rfl e2) ?_
  rintro r ob' ⟨rfl, Z, sZ, pZ, rfl⟩
  have lZ : Z.length = R.length := pZ.length_eq
  rw [List.append_nil]
  simp (config := {maxSteps := 4000000}) only [U_slices_stableCmpFunc_api_Found, g0, g1, g2, g6, g7, List.set_set, reduceIte, reduceCtorEq, Nat.reduceEqDiff, Nat.reduceAdd, Int.reduceLT, Int.reduceLE, Int.reduceNeg, Int.reduceEq, Nat.reduceLT, Nat.reduceSub, Nat.reduceMul, Nat.reduceBEq, Nat.reduceLeDiff, Int.reduceBEq, Int.reduceBNe, Int.reduceToNat, ne_eq, implies_true, bA]
  refine stab2 hN hl ho hG hB sZ (by omega) ((List.Perm.append_left _ pZ).trans hp) ?_ ?_ ?_ ?_ <;> first | exact g0 | exact g1 | exact g2 | exact g6
theorem sort_i {ob : List AObj} {o : Nat} {l0 : List Fd} {N : Nat} (hN : N = l0.length) (hl : N ≤ 1000000) (ho : ob[o]? = some (lF l0)) (hG : ∀ z ∈ l0, z.body.length ≤ 1000000) :
    ICall Try.prog 30 [.osl o 0 N, fnF] ob (StabK ob o l0) := by
  refine icall_dr Try.func30 comp_slices_SortStableFunc_api_Found ?_
  have hr : rowsO (some (lF l0)) 0 N = some (l0.map rowF) := rowsO_all (by simp [hN])
  have hrl : ((l0.length : Nat) : Int) = (N : Int) := by omega
  simp (config := {maxSteps := 4000000}) only [U_slices_SortStableFunc_api_Found, ho, hr, hrl, reduceIte, reduceCtorEq, Nat.reduceEqDiff, Nat.reduceAdd, Int.reduceLT, Int.reduceLE, Int.reduceNeg, Int.reduceEq, Nat.reduceLT, Nat.reduceSub, Nat.reduceMul, Nat.reduceBEq, Nat.reduceLeDiff, Int.reduceBEq, Int.reduceBNe, Int.reduceToNat, ne_eq, implies_true, bA]
  refine callM (stable_i hN hl ho hG) ?_
  rintro r ob' ⟨rfl, h⟩
  simp (config := {maxSteps := 4000000}) only [U_slices_SortStableFunc_api_Found, reduceIte, reduceCtorEq, Nat.reduceEqDiff, Nat.reduceAdd, Int.reduceLT, Int.reduceLE, Int.reduceNeg, Int.reduceEq, Nat.reduceLT, Nat.reduceSub, Nat.reduceMul, Nat.reduceBEq, Nat.reduceLeDiff, Int.reduceBEq, Int.reduceBNe, Int.reduceToNat, ne_eq, implies_true, bA]
  exact ⟨_, rfl, rfl, h⟩

end Go.Proofs.Ytklniadgdbjcpaa.Aw
