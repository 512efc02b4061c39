/-
  Lists of pages: two parts that are sorted are made one: how it ends. Written by a program (mksymb2.py).
-/
import Derived.Test.YtklniadgdbjcpaaPSymB
set_option linter.unusedSimpArgs false
set_option linter.unusedVariables false
namespace Go.Proofs.Ytklniadgdbjcpaa.Aw
open Go.RowKit

def SymAt (k : Nat) : Prop := ∀ (ob : List AObj) (o : Nat) (P X Y Q : List Fd) (N a m b : Nat), X.length + Y.length ≤ k → N = (P ++ (X ++ (Y ++ Q))).length → N ≤ 1000000 → ob[o]? = some (lF (P ++ (X ++ (Y ++ Q)))) → X ≠ [] → Y ≠ [] →
  Srt ltF X → Srt ltF Y → (∀ z ∈ X ++ Y, z.body.length ≤ 1000000) → a = P.length → m = P.length + X.length → b = P.length + X.length + Y.length →
  ICall Try.prog 52 [.osl o 0 N, .int .i64 (a : Int), .int .i64 (m : Int), .int .i64 (b : Int), fnF] ob (SymK ob o P X Y Q)
theorem len0 {l : List Fd} (h : l = []) : l.length = 0 := by rw [h]; rfl
theorem len1 {l : List Fd} (h : l ≠ []) : 0 < l.length := List.length_pos_iff.2 h
theorem symT0101 {k : Nat} (ih : SymAt k) {ob : List AObj} {o : Nat} {P X1 X2 Y1 Y2 Q L0 L : List Fd} {N a p q u v : Nat} {g : Nat → PV} {K : PV → List AObj → Prop} (lk : X1.length + X2.length + Y1.length + Y2.length ≤ k + 1)
    (hLA : L0 = P ++ (X1 ++ (X2 ++ (Y1 ++ (Y2 ++ Q))))) (hLB : P ++ X1 ++ (Y1 ++ (X2 ++ (Y2 ++ Q))) = L) (hN : N = L0.length) (hl : N ≤ 1000000) (ho : ob[o]? = some (lF L0)) (gA : ∀ z ∈ X1 ++ Y1, z.body.length ≤ 1000000) (gB : ∀ z ∈ X2 ++ Y2, z.body.length ≤ 1000000)
    (sX1 : Srt ltF X1) (sX2 : Srt ltF X2) (sY1 : Srt ltF Y1) (sY2 : Srt ltF Y2) (ha : a = P.length) (hp : p = X1.length) (hq : q = X2.length) (hu : u = Y1.length) (hv : v = Y2.length)
    (hK : ∀ Z1 Z2, Srt ltF Z1 → Srt ltF Z2 → Z1.Perm (X1 ++ Y1) → Z2.Perm (X2 ++ Y2) → K (.tup []) (ob.set o (lF (P ++ (Z1 ++ (Z2 ++ Q))))))
    (f0 : g 0 = .osl o 0 N) (f1 : g 1 = .int .i64 (a : Int)) (f2 : g 2 = .int .i64 ((a + p + q : Nat) : Int)) (f3 : g 3 = .int .i64 ((a + p + q + u + v : Nat) : Int)) (f4 : g 4 = fnF) (f18 : g 18 = .int .i64 ((a + p + u : Nat) : Int))
    (f19 : g 19 = .int .i64 ((a + p + u + (a + p + q) : Nat) : Int)) (f20 : g 20 = .int .i64 ((a + p : Nat) : Int)) (hX1 : X1 = []) (hY1 : Y1 ≠ []) (hX2 : X2 = []) (hY2 : Y2 ≠ []) :
    AWP Try.prog ob.length ac_slices_symMergeCmpFunc_api_Found_112 (AEnd [] K) ⟨g, ob⟩ := by
  have hlen : N = P.length + (X1.length + (X2.length + (Y1.length + (Y2.length + Q.length)))) := by rw [hN, hLA]; simp
  have zX1 := len0 hX1
  have zY1 := len1 hY1
  have zX2 := len0 hX2
  have zY2 := len1 hY2
  have wE : IntKind.i64.wrap (((a + p + u + (a + p + q) : Nat) : Int) - ((a + p : Nat) : Int)) = ((a + p + q + u : Nat) : Int) := by rw [wrapI (by omega) (by omega)]; omega
  have dS := dF (show ¬ a + p < a + p + q by clear wE; omega)
  have dE := dT (show a + p + q < a + p + q + u by clear wE; omega)
  have dA := dF (show ¬ a < a + p by clear wE; omega)
  have dM := dT (show a + p < a + p + u by clear wE; omega)
  have dN := dF (show ¬ a + p + u < a + p + q + u by clear wE; omega)
  have dB := dT (show a + p + q + u < a + p + q + u + v by clear wE; omega)
  have hNA : N = ((P ++ X1) ++ (X2 ++ (Y1 ++ (Y2 ++ Q)))).length := by rw [hN, hLA]; simp
  have hoA : ob[o]? = some (lF ((P ++ X1) ++ (X2 ++ (Y1 ++ (Y2 ++ Q))))) := by rw [ho, hLA]; simp
  have hNL : N = (P ++ (X1 ++ (Y1 ++ (X2 ++ (Y2 ++ Q))))).length := by rw [hlen]; simp only [List.length_append]; clear wE dS dE dA dM dN dB; omega
  have oL : (ob.set o (lF L))[o]? = some (lF L) := set_get ho
  have oL1 : (ob.set o (lF L))[o]? = some (lF (P ++ (X1 ++ (Y1 ++ (X2 ++ (Y2 ++ Q)))))) := by rw [oL, ← hLB]; simp
  have hL2 : L0 = L := by rw [hLA, ← hLB, hX2]; simp
  have hob : ob.set o (lF L) = ob := by rw [← hL2]; exact set_self ho
  obtain ⟨Z1, hZ1⟩ : ∃ Z1, X1 ++ Y1 = Z1 := ⟨_, rfl⟩
  have z1 : Srt ltF Z1 := by rw [← hZ1]; simp only [hX1, List.nil_append, List.append_nil]; exact sY1
  have p1 : Z1.Perm (X1 ++ Y1) := by rw [hZ1]
  have hLZ : L = P ++ (Z1 ++ (X2 ++ (Y2 ++ Q))) := by rw [← hLB, ← hZ1]; simp
  have o2 : ob[o]? = some (lF ((P ++ Z1) ++ (X2 ++ (Y2 ++ Q)))) := by rw [ho, hL2, hLZ]; simp
  have lZ : Z1.length = p + u := by rw [p1.length_eq, List.length_append, hp, hu]
  obtain ⟨Z2, hZ2⟩ : ∃ Z2, X2 ++ Y2 = Z2 := ⟨_, rfl⟩
  have z2 : Srt ltF Z2 := by rw [← hZ2]; simp only [hX2, List.nil_append, List.append_nil]; exact sY2
  have p2 : Z2.Perm (X2 ++ Y2) := by rw [hZ2]
  have hLW : P ++ (Z1 ++ (X2 ++ (Y2 ++ Q))) = P ++ (Z1 ++ (Z2 ++ Q)) := by rw [← hZ2]; simp
  have hfin := hK Z1 Z2 z1 z2 p1 p2
  rw [← hLW, ← hLZ, hob] at hfin
  simp (config := {maxSteps := 4000000}) only [U_slices_symMergeCmpFunc_api_Found, f0, f1, f2, f3, f4, f18, f19, f20, wE, dS, dE, dA, dM, dN, dB, List.set_set, reduceIte, reduceCtorEq, Nat.reduceEqDiff, Nat.reduceAdd, Int.reduceLT, Int.reduceLE, Int.reduceNeg, Int.reduceEq, Nat.reduceLT, Nat.reduceSub, Nat.reduceMul, Nat.reduceBEq, Nat.reduceLeDiff, Int.reduceBEq, Int.reduceBNe, Int.reduceToNat, ne_eq, implies_true, bA]
  exact ⟨_, rfl, hfin⟩
theorem symT0110 {k : Nat} (ih : SymAt k) {ob : List AObj} {o : Nat} {P X1 X2 Y1 Y2 Q L0 L : List Fd} {N a p q u v : Nat} {g : Nat → PV} {K : PV → List AObj → Prop} (lk : X1.length + X2.length + Y1.length + Y2.length ≤ k + 1)
    (hLA : L0 = P ++ (X1 ++ (X2 ++ (Y1 ++ (Y2 ++ Q))))) (hLB : P ++ X1 ++ (Y1 ++ (X2 ++ (Y2 ++ Q))) = L) (hN : N = L0.length) (hl : N ≤ 1000000) (ho : ob[o]? = some (lF L0)) (gA : ∀ z ∈ X1 ++ Y1, z.body.length ≤ 1000000) (gB : ∀ z ∈ X2 ++ Y2, z.body.length ≤ 1000000)
    (sX1 : Srt ltF X1) (sX2 : Srt ltF X2) (sY1 : Srt ltF Y1) (sY2 : Srt ltF Y2) (ha : a = P.length) (hp : p = X1.length) (hq : q = X2.length) (hu : u = Y1.length) (hv : v = Y2.length)
    (hK : ∀ Z1 Z2, Srt ltF Z1 → Srt ltF Z2 → Z1.Perm (X1 ++ Y1) → Z2.Perm (X2 ++ Y2) → K (.tup []) (ob.set o (lF (P ++ (Z1 ++ (Z2 ++ Q))))))
    (f0 : g 0 = .osl o 0 N) (f1 : g 1 = .int .i64 (a : Int)) (f2 : g 2 = .int .i64 ((a + p + q : Nat) : Int)) (f3 : g 3 = .int .i64 ((a + p + q + u + v : Nat) : Int)) (f4 : g 4 = fnF) (f18 : g 18 = .int .i64 ((a + p + u : Nat) : Int))
    (f19 : g 19 = .int .i64 ((a + p + u + (a + p + q) : Nat) : Int)) (f20 : g 20 = .int .i64 ((a + p : Nat) : Int)) (hX1 : X1 = []) (hY1 : Y1 ≠ []) (hX2 : X2 ≠ []) (hY2 : Y2 = []) :
    AWP Try.prog ob.length ac_slices_symMergeCmpFunc_api_Found_112 (AEnd [] K) ⟨g, ob⟩ := by
  have hlen : N = P.length + (X1.length + (X2.length + (Y1.length + (Y2.length + Q.length)))) := by rw [hN, hLA]; simp
  have zX1 := len0 hX1
  have zY1 := len1 hY1
  have zX2 := len1 hX2
  have zY2 := len0 hY2
  have wE : IntKind.i64.wrap (((a + p + u + (a + p + q) : Nat) : Int) - ((a + p : Nat) : Int)) = ((a + p + q + u : Nat) : Int) := by rw [wrapI (by omega) (by omega)]; omega
  have dS := dT (show a + p < a + p + q by clear wE; omega)
  have dE := dT (show a + p + q < a + p + q + u by clear wE; omega)
  have dA := dF (show ¬ a < a + p by clear wE; omega)
  have dM := dT (show a + p < a + p + u by clear wE; omega)
  have dN := dT (show a + p + u < a + p + q + u by clear wE; omega)
  have dB := dF (show ¬ a + p + q + u < a + p + q + u + v by clear wE; omega)
  have hNA : N = ((P ++ X1) ++ (X2 ++ (Y1 ++ (Y2 ++ Q)))).length := by rw [hN, hLA]; simp
  have hoA : ob[o]? = some (lF ((P ++ X1) ++ (X2 ++ (Y1 ++ (Y2 ++ Q))))) := by rw [ho, hLA]; simp
  have hNL : N = (P ++ (X1 ++ (Y1 ++ (X2 ++ (Y2 ++ Q))))).length := by rw [hlen]; simp only [List.length_append]; clear wE dS dE dA dM dN dB; omega
  have oL : (ob.set o (lF L))[o]? = some (lF L) := set_get ho
  have oL1 : (ob.set o (lF L))[o]? = some (lF (P ++ (X1 ++ (Y1 ++ (X2 ++ (Y2 ++ Q)))))) := by rw [oL, ← hLB]; simp
  have a1 : ((a + p : Nat) : Int) = ((P ++ X1).length : Int) := by rw [List.length_append, ha, hp]
  have a2 : ((a + p + q : Nat) : Int) = (((P ++ X1).length + X2.length : Nat) : Int) := by rw [List.length_append, ha, hp, hq]
  have a3 : ((a + p + q + u : Nat) : Int) = (((P ++ X1).length + X2.length + Y1.length : Nat) : Int) := by rw [List.length_append, ha, hp, hq, hu]
  simp (config := {maxSteps := 4000000}) only [U_slices_symMergeCmpFunc_api_Found, f0, f1, f2, f3, f4, f18, f19, f20, wE, dS, dE, dA, dM, dN, dB, List.set_set, reduceIte, reduceCtorEq, Nat.reduceEqDiff, Nat.reduceAdd, Int.reduceLT, Int.reduceLE, Int.reduceNeg, Int.reduceEq, Nat.reduceLT, Nat.reduceSub, Nat.reduceMul, Nat.reduceBEq, Nat.reduceLeDiff, Int.reduceBEq, Int.reduceBNe, Int.reduceToNat, ne_eq, implies_true, bA]
  refine callM (rotate_i (P := P ++ X1) (X := X2) (Y := Y1) (Q := Y2 ++ Q) hNA hl hoA hX2 hY1 ⟨_, rfl⟩ a1 a2 a3) ?_
  rintro r ob' ⟨rfl, rfl⟩
  rw [hLB]
  obtain ⟨Z1, hZ1⟩ : ∃ Z1, X1 ++ Y1 = Z1 := ⟨_, rfl⟩
  have z1 : Srt ltF Z1 := by rw [← hZ1]; simp only [hX1, List.nil_append, List.append_nil]; exact sY1
  have p1 : Z1.Perm (X1 ++ Y1) := by rw [hZ1]
  have hLZ : L = P ++ (Z1 ++ (X2 ++ (Y2 ++ Q))) := by rw [← hLB, ← hZ1]; simp
  rw [hLZ]
  have o2 : (ob.set o (lF (P ++ (Z1 ++ (X2 ++ (Y2 ++ Q))))))[o]? = some (lF ((P ++ Z1) ++ (X2 ++ (Y2 ++ Q)))) := by rw [set_get ho]; simp
  have lZ : Z1.length = p + u := by rw [p1.length_eq, List.length_append, hp, hu]
  obtain ⟨Z2, hZ2⟩ : ∃ Z2, X2 ++ Y2 = Z2 := ⟨_, rfl⟩
  have z2 : Srt ltF Z2 := by rw [← hZ2]; simp only [hY2, List.nil_append, List.append_nil]; exact sX2
  have p2 : Z2.Perm (X2 ++ Y2) := by rw [hZ2]
  have hLW : P ++ (Z1 ++ (X2 ++ (Y2 ++ Q))) = P ++ (Z1 ++ (Z2 ++ Q)) := by rw [← hZ2]; simp
  have hfin := hK Z1 Z2 z1 z2 p1 p2
  rw [hLW]
  simp (config := {maxSteps := 4000000}) only [U_slices_symMergeCmpFunc_api_Found, f0, f1, f2, f3, f4, f18, f19, f20, wE, dS, dE, dA, dM, dN, dB, List.set_set, reduceIte, reduceCtorEq, Nat.reduceEqDiff, Nat.reduceAdd, Int.reduceLT, Int.reduceLE, Int.reduceNeg, Int.reduceEq, Nat.reduceLT, Nat.reduceSub, Nat.reduceMul, Nat.reduceBEq, Nat.reduceLeDiff, Int.reduceBEq, Int.reduceBNe, Int.reduceToNat, ne_eq, implies_true, bA]
  exact ⟨_, rfl, hfin⟩
theorem symT0111 {k : Nat} (ih : SymAt k) {ob : List AObj} {o : Nat} {P X1 X2 Y1 Y2 Q L0 L : List Fd} {N a p q u v : Nat} {g : Nat → PV} {K : PV → List AObj → Prop} (lk : X1.length + X2.length + Y1.length + Y2.length ≤ k + 1)
    (hLA : L0 = P ++ (X1 ++ (X2 ++ (Y1 ++ (Y2 ++ Q))))) (hLB : P ++ X1 ++ (Y1 ++ (X2 ++ (Y2 ++ Q))) = L) (hN : N = L0.length) (hl : N ≤ 1000000) (ho : ob[o]? = some (lF L0)) (gA : ∀ z ∈ X1 ++ Y1, z.body.length ≤ 1000000) (gB : ∀ z ∈ X2 ++ Y2, z.body.length ≤ 1000000)
    (sX1 : Srt ltF X1) (sX2 : Srt ltF X2) (sY1 : Srt ltF Y1) (sY2 : Srt ltF Y2) (ha : a = P.length) (hp : p = X1.length) (hq : q = X2.length) (hu : u = Y1.length) (hv : v = Y2.length)
    (hK : ∀ Z1 Z2, Srt ltF Z1 → Srt ltF Z2 → Z1.Perm (X1 ++ Y1) → Z2.Perm (X2 ++ Y2) → K (.tup []) (ob.set o (lF (P ++ (Z1 ++ (Z2 ++ Q))))))
    (f0 : g 0 = .osl o 0 N) (f1 : g 1 = .int .i64 (a : Int)) (f2 : g 2 = .int .i64 ((a + p + q : Nat) : Int)) (f3 : g 3 = .int .i64 ((a + p + q + u + v : Nat) : Int)) (f4 : g 4 = fnF) (f18 : g 18 = .int .i64 ((a + p + u : Nat) : Int))
    (f19 : g 19 = .int .i64 ((a + p + u + (a + p + q) : Nat) : Int)) (f20 : g 20 = .int .i64 ((a + p : Nat) : Int)) (hX1 : X1 = []) (hY1 : Y1 ≠ []) (hX2 : X2 ≠ []) (hY2 : Y2 ≠ []) :
    AWP Try.prog ob.length ac_slices_symMergeCmpFunc_api_Found_112 (AEnd [] K) ⟨g, ob⟩ := by
  have hlen : N = P.length + (X1.length + (X2.length + (Y1.length + (Y2.length + Q.length)))) := by rw [hN, hLA]; simp
  have zX1 := len0 hX1
  have zY1 := len1 hY1
  have zX2 := len1 hX2
  have zY2 := len1 hY2
  have wE : IntKind.i64.wrap (((a + p + u + (a + p + q) : Nat) : Int) - ((a + p : Nat) : Int)) = ((a + p + q + u : Nat) : Int) := by rw [wrapI (by omega) (by omega)]; omega
  have dS := dT (show a + p < a + p + q by clear wE; omega)
  have dE := dT (show a + p + q < a + p + q + u by clear wE; omega)
  have dA := dF (show ¬ a < a + p by clear wE; omega)
  have dM := dT (show a + p < a + p + u by clear wE; omega)
  have dN := dT (show a + p + u < a + p + q + u by clear wE; omega)
  have dB := dT (show a + p + q + u < a + p + q + u + v by clear wE; omega)
  have hNA : N = ((P ++ X1) ++ (X2 ++ (Y1 ++ (Y2 ++ Q)))).length := by rw [hN, hLA]; simp
  have hoA : ob[o]? = some (lF ((P ++ X1) ++ (X2 ++ (Y1 ++ (Y2 ++ Q))))) := by rw [ho, hLA]; simp
  have hNL : N = (P ++ (X1 ++ (Y1 ++ (X2 ++ (Y2 ++ Q))))).length := by rw [hlen]; simp only [List.length_append]; clear wE dS dE dA dM dN dB; omega
  have oL : (ob.set o (lF L))[o]? = some (lF L) := set_get ho
  have oL1 : (ob.set o (lF L))[o]? = some (lF (P ++ (X1 ++ (Y1 ++ (X2 ++ (Y2 ++ Q)))))) := by rw [oL, ← hLB]; simp
  have a1 : ((a + p : Nat) : Int) = ((P ++ X1).length : Int) := by rw [List.length_append, ha, hp]
  have a2 : ((a + p + q : Nat) : Int) = (((P ++ X1).length + X2.length : Nat) : Int) := by rw [List.length_append, ha, hp, hq]
  have a3 : ((a + p + q + u : Nat) : Int) = (((P ++ X1).length + X2.length + Y1.length : Nat) : Int) := by rw [List.length_append, ha, hp, hq, hu]
  simp (config := {maxSteps := 4000000}) only [U_slices_symMergeCmpFunc_api_Found, f0, f1, f2, f3, f4, f18, f19, f20, wE, dS, dE, dA, dM, dN, dB, List.set_set, reduceIte, reduceCtorEq, Nat.reduceEqDiff, Nat.reduceAdd, Int.reduceLT, Int.reduceLE, Int.reduceNeg, Int.reduceEq, Nat.reduceLT, Nat.reduceSub, Nat.reduceMul, Nat.reduceBEq, Nat.reduceLeDiff, Int.reduceBEq, Int.reduceBNe, Int.reduceToNat, ne_eq, implies_true, bA]
  refine callM (rotate_i (P := P ++ X1) (X := X2) (Y := Y1) (Q := Y2 ++ Q) hNA hl hoA hX2 hY1 ⟨_, rfl⟩ a1 a2 a3) ?_
  rintro r ob' ⟨rfl, rfl⟩
  rw [hLB]
  obtain ⟨Z1, hZ1⟩ : ∃ Z1, X1 ++ Y1 = Z1 := ⟨_, rfl⟩
  have z1 : Srt ltF Z1 := by rw [← hZ1]; simp only [hX1, List.nil_append, List.append_nil]; exact sY1
  have p1 : Z1.Perm (X1 ++ Y1) := by rw [hZ1]
  have hLZ : L = P ++ (Z1 ++ (X2 ++ (Y2 ++ Q))) := by rw [← hLB, ← hZ1]; simp
  rw [hLZ]
  have o2 : (ob.set o (lF (P ++ (Z1 ++ (X2 ++ (Y2 ++ Q))))))[o]? = some (lF ((P ++ Z1) ++ (X2 ++ (Y2 ++ Q)))) := by rw [set_get ho]; simp
  have lZ : Z1.length = p + u := by rw [p1.length_eq, List.length_append, hp, hu]
  have e1 : X2.length + Y2.length ≤ k := by clear wE dS dE dA dM dN dB; omega
  have e2 : N = (P ++ Z1 ++ (X2 ++ (Y2 ++ Q))).length := by rw [hlen]; simp only [List.length_append]; clear wE dS dE dA dM dN dB; omega
  have e3 : a + p + u = (P ++ Z1).length := by rw [List.length_append, lZ, ha, Nat.add_assoc]
  have e4 : a + p + q + u = (P ++ Z1).length + X2.length := by rw [List.length_append, lZ, ha, ← hq]; clear wE dS dE dA dM dN dB; omega
  have e5 : a + p + q + u + v = (P ++ Z1).length + X2.length + Y2.length := by rw [List.length_append, lZ, ha, ← hq, ← hv]; clear wE dS dE dA dM dN dB; omega
  simp (config := {maxSteps := 4000000}) only [U_slices_symMergeCmpFunc_api_Found, f0, f1, f2, f3, f4, f18, f19, f20, wE, dS, dE, dA, dM, dN, dB, List.set_set, reduceIte, reduceCtorEq, Nat.reduceEqDiff, Nat.reduceAdd, Int.reduceLT, Int.reduceLE, Int.reduceNeg, Int.reduceEq, Nat.reduceLT, Nat.reduceSub, Nat.reduceMul, Nat.reduceBEq, Nat.reduceLeDiff, Int.reduceBEq, Int.reduceBNe, Int.reduceToNat, ne_eq, implies_true, bA]
  refine callM (ih _ _ (P ++ Z1) X2 Y2 Q N _ _ _ e1 e2 hl o2 hX2 hY2 sX2 sY2 gB e3 e4 e5) ?_
  rintro r ob' ⟨rfl, Z2, z2, p2, rfl⟩
  have hfin := hK Z1 Z2 z1 z2 p1 p2
  rw [show P ++ (Z1 ++ (Z2 ++ Q)) = P ++ Z1 ++ (Z2 ++ Q) by simp] at hfin
  simp (config := {maxSteps := 4000000}) only [U_slices_symMergeCmpFunc_api_Found, List.set_set, reduceIte, reduceCtorEq, Nat.reduceEqDiff, Nat.reduceAdd, Int.reduceLT, Int.reduceLE, Int.reduceNeg, Int.reduceEq, Nat.reduceLT, Nat.reduceSub, Nat.reduceMul, Nat.reduceBEq, Nat.reduceLeDiff, Int.reduceBEq, Int.reduceBNe, Int.reduceToNat, ne_eq, implies_true, bA]
  refine ⟨_, rfl, ?_⟩
  simpa [List.set_set] using hfin
theorem symT1001 {k : Nat} (ih : SymAt k) {ob : List AObj} {o : Nat} {P X1 X2 Y1 Y2 Q L0 L : List Fd} {N a p q u v : Nat} {g : Nat → PV} {K : PV → List AObj → Prop} (lk : X1.length + X2.length + Y1.length + Y2.length ≤ k + 1)
    (hLA : L0 = P ++ (X1 ++ (X2 ++ (Y1 ++ (Y2 ++ Q))))) (hLB : P ++ X1 ++ (Y1 ++ (X2 ++ (Y2 ++ Q))) = L) (hN : N = L0.length) (hl : N ≤ 1000000) (ho : ob[o]? = some (lF L0)) (gA : ∀ z ∈ X1 ++ Y1, z.body.length ≤ 1000000) (gB : ∀ z ∈ X2 ++ Y2, z.body.length ≤ 1000000)
    (sX1 : Srt ltF X1) (sX2 : Srt ltF X2) (sY1 : Srt ltF Y1) (sY2 : Srt ltF Y2) (ha : a = P.length) (hp : p = X1.length) (hq : q = X2.length) (hu : u = Y1.length) (hv : v = Y2.length)
    (hK : ∀ Z1 Z2, Srt ltF Z1 → Srt ltF Z2 → Z1.Perm (X1 ++ Y1) → Z2.Perm (X2 ++ Y2) → K (.tup []) (ob.set o (lF (P ++ (Z1 ++ (Z2 ++ Q))))))
    (f0 : g 0 = .osl o 0 N) (f1 : g 1 = .int .i64 (a : Int)) (f2 : g 2 = .int .i64 ((a + p + q : Nat) : Int)) (f3 : g 3 = .int .i64 ((a + p + q + u + v : Nat) : Int)) (f4 : g 4 = fnF) (f18 : g 18 = .int .i64 ((a + p + u : Nat) : Int))
    (f19 : g 19 = .int .i64 ((a + p + u + (a + p + q) : Nat) : Int)) (f20 : g 20 = .int .i64 ((a + p : Nat) : Int)) (hX1 : X1 ≠ []) (hY1 : Y1 = []) (hX2 : X2 = []) (hY2 : Y2 ≠ []) :
    AWP Try.prog ob.length ac_slices_symMergeCmpFunc_api_Found_112 (AEnd [] K) ⟨g, ob⟩ := by
  have hlen : N = P.length + (X1.length + (X2.length + (Y1.length + (Y2.length + Q.length)))) := by rw [hN, hLA]; simp
  have zX1 := len1 hX1
  have zY1 := len0 hY1
  have zX2 := len0 hX2
  have zY2 := len1 hY2
  have wE : IntKind.i64.wrap (((a + p + u + (a + p + q) : Nat) : Int) - ((a + p : Nat) : Int)) = ((a + p + q + u : Nat) : Int) := by rw [wrapI (by omega) (by omega)]; omega
  have dS := dF (show ¬ a + p < a + p + q by clear wE; omega)
  have dE := dF (show ¬ a + p + q < a + p + q + u by clear wE; omega)
  have dA := dT (show a < a + p by clear wE; omega)
  have dM := dF (show ¬ a + p < a + p + u by clear wE; omega)
  have dN := dF (show ¬ a + p + u < a + p + q + u by clear wE; omega)
  have dB := dT (show a + p + q + u < a + p + q + u + v by clear wE; omega)
  have hNA : N = ((P ++ X1) ++ (X2 ++ (Y1 ++ (Y2 ++ Q)))).length := by rw [hN, hLA]; simp
  have hoA : ob[o]? = some (lF ((P ++ X1) ++ (X2 ++ (Y1 ++ (Y2 ++ Q))))) := by rw [ho, hLA]; simp
  have hNL : N = (P ++ (X1 ++ (Y1 ++ (X2 ++ (Y2 ++ Q))))).length := by rw [hlen]; simp only [List.length_append]; clear wE dS dE dA dM dN dB; omega
  have oL : (ob.set o (lF L))[o]? = some (lF L) := set_get ho
  have oL1 : (ob.set o (lF L))[o]? = some (lF (P ++ (X1 ++ (Y1 ++ (X2 ++ (Y2 ++ Q)))))) := by rw [oL, ← hLB]; simp
  have hL2 : L0 = L := by rw [hLA, ← hLB, hX2]; simp
  have hob : ob.set o (lF L) = ob := by rw [← hL2]; exact set_self ho
  obtain ⟨Z1, hZ1⟩ : ∃ Z1, X1 ++ Y1 = Z1 := ⟨_, rfl⟩
  have z1 : Srt ltF Z1 := by rw [← hZ1]; simp only [hY1, List.nil_append, List.append_nil]; exact sX1
  have p1 : Z1.Perm (X1 ++ Y1) := by rw [hZ1]
  have hLZ : L = P ++ (Z1 ++ (X2 ++ (Y2 ++ Q))) := by rw [← hLB, ← hZ1]; simp
  have o2 : ob[o]? = some (lF ((P ++ Z1) ++ (X2 ++ (Y2 ++ Q)))) := by rw [ho, hL2, hLZ]; simp
  have lZ : Z1.length = p + u := by rw [p1.length_eq, List.length_append, hp, hu]
  obtain ⟨Z2, hZ2⟩ : ∃ Z2, X2 ++ Y2 = Z2 := ⟨_, rfl⟩
  have z2 : Srt ltF Z2 := by rw [← hZ2]; simp only [hX2, List.nil_append, List.append_nil]; exact sY2
  have p2 : Z2.Perm (X2 ++ Y2) := by rw [hZ2]
  have hLW : P ++ (Z1 ++ (X2 ++ (Y2 ++ Q))) = P ++ (Z1 ++ (Z2 ++ Q)) := by rw [← hZ2]; simp
  have hfin := hK Z1 Z2 z1 z2 p1 p2
  rw [← hLW, ← hLZ, hob] at hfin
  simp (config := {maxSteps := 4000000}) only [U_slices_symMergeCmpFunc_api_Found, f0, f1, f2, f3, f4, f18, f19, f20, wE, dS, dE, dA, dM, dN, dB, List.set_set, reduceIte, reduceCtorEq, Nat.reduceEqDiff, Nat.reduceAdd, Int.reduceLT, Int.reduceLE, Int.reduceNeg, Int.reduceEq, Nat.reduceLT, Nat.reduceSub, Nat.reduceMul, Nat.reduceBEq, Nat.reduceLeDiff, Int.reduceBEq, Int.reduceBNe, Int.reduceToNat, ne_eq, implies_true, bA]
  exact ⟨_, rfl, hfin⟩
theorem symT1010 {k : Nat} (ih : SymAt k) {ob : List AObj} {o : Nat} {P X1 X2 Y1 Y2 Q L0 L : List Fd} {N a p q u v : Nat} {g : Nat → PV} {K : PV → List AObj → Prop} (lk : X1.length + X2.length + Y1.length + Y2.length ≤ k + 1)
    (hLA : L0 = P ++ (X1 ++ (X2 ++ (Y1 ++ (Y2 ++ Q))))) (hLB : P ++ X1 ++ (Y1 ++ (X2 ++ (Y2 ++ Q))) = L) (hN : N = L0.length) (hl : N ≤ 1000000) (ho : ob[o]? = some (lF L0)) (gA : ∀ z ∈ X1 ++ Y1, z.body.length ≤ 1000000) (gB : ∀ z ∈ X2 ++ Y2, z.body.length ≤ 1000000)
    (sX1 : Srt ltF X1) (sX2 : Srt ltF X2) (sY1 : Srt ltF Y1) (sY2 : Srt ltF Y2) (ha : a = P.length) (hp : p = X1.length) (hq : q = X2.length) (hu : u = Y1.length) (hv : v = Y2.length)
    (hK : ∀ Z1 Z2, Srt ltF Z1 → Srt ltF Z2 → Z1.Perm (X1 ++ Y1) → Z2.Perm (X2 ++ Y2) → K (.tup []) (ob.set o (lF (P ++ (Z1 ++ (Z2 ++ Q))))))
    (f0 : g 0 = .osl o 0 N) (f1 : g 1 = .int .i64 (a : Int)) (f2 : g 2 = .int .i64 ((a + p + q : Nat) : Int)) (f3 : g 3 = .int .i64 ((a + p + q + u + v : Nat) : Int)) (f4 : g 4 = fnF) (f18 : g 18 = .int .i64 ((a + p + u : Nat) : Int))
    (f19 : g 19 = .int .i64 ((a + p + u + (a + p + q) : Nat) : Int)) (f20 : g 20 = .int .i64 ((a + p : Nat) : Int)) (hX1 : X1 ≠ []) (hY1 : Y1 = []) (hX2 : X2 ≠ []) (hY2 : Y2 = []) :
    AWP Try.prog ob.length ac_slices_symMergeCmpFunc_api_Found_112 (AEnd [] K) ⟨g, ob⟩ := by
  have hlen : N = P.length + (X1.length + (X2.length + (Y1.length + (Y2.length + Q.length)))) := by rw [hN, hLA]; simp
  have zX1 := len1 hX1
  have zY1 := len0 hY1
  have zX2 := len1 hX2
  have zY2 := len0 hY2
  have wE : IntKind.i64.wrap (((a + p + u + (a + p + q) : Nat) : Int) - ((a + p : Nat) : Int)) = ((a + p + q + u : Nat) : Int) := by rw [wrapI (by omega) (by omega)]; omega
  have dS := dT (show a + p < a + p + q by clear wE; omega)
  have dE := dF (show ¬ a + p + q < a + p + q + u by clear wE; omega)
  have dA := dT (show a < a + p by clear wE; omega)
  have dM := dF (show ¬ a + p < a + p + u by clear wE; omega)
  have dN := dT (show a + p + u < a + p + q + u by clear wE; omega)
  have dB := dF (show ¬ a + p + q + u < a + p + q + u + v by clear wE; omega)
  have hNA : N = ((P ++ X1) ++ (X2 ++ (Y1 ++ (Y2 ++ Q)))).length := by rw [hN, hLA]; simp
  have hoA : ob[o]? = some (lF ((P ++ X1) ++ (X2 ++ (Y1 ++ (Y2 ++ Q))))) := by rw [ho, hLA]; simp
  have hNL : N = (P ++ (X1 ++ (Y1 ++ (X2 ++ (Y2 ++ Q))))).length := by rw [hlen]; simp only [List.length_append]; clear wE dS dE dA dM dN dB; omega
  have oL : (ob.set o (lF L))[o]? = some (lF L) := set_get ho
  have oL1 : (ob.set o (lF L))[o]? = some (lF (P ++ (X1 ++ (Y1 ++ (X2 ++ (Y2 ++ Q)))))) := by rw [oL, ← hLB]; simp
  have hL2 : L0 = L := by rw [hLA, ← hLB, hY1]; simp
  have hob : ob.set o (lF L) = ob := by rw [← hL2]; exact set_self ho
  obtain ⟨Z1, hZ1⟩ : ∃ Z1, X1 ++ Y1 = Z1 := ⟨_, rfl⟩
  have z1 : Srt ltF Z1 := by rw [← hZ1]; simp only [hY1, List.nil_append, List.append_nil]; exact sX1
  have p1 : Z1.Perm (X1 ++ Y1) := by rw [hZ1]
  have hLZ : L = P ++ (Z1 ++ (X2 ++ (Y2 ++ Q))) := by rw [← hLB, ← hZ1]; simp
  have o2 : ob[o]? = some (lF ((P ++ Z1) ++ (X2 ++ (Y2 ++ Q)))) := by rw [ho, hL2, hLZ]; simp
  have lZ : Z1.length = p + u := by rw [p1.length_eq, List.length_append, hp, hu]
  obtain ⟨Z2, hZ2⟩ : ∃ Z2, X2 ++ Y2 = Z2 := ⟨_, rfl⟩
  have z2 : Srt ltF Z2 := by rw [← hZ2]; simp only [hY2, List.nil_append, List.append_nil]; exact sX2
  have p2 : Z2.Perm (X2 ++ Y2) := by rw [hZ2]
  have hLW : P ++ (Z1 ++ (X2 ++ (Y2 ++ Q))) = P ++ (Z1 ++ (Z2 ++ Q)) := by rw [← hZ2]; simp
  have hfin := hK Z1 Z2 z1 z2 p1 p2
  rw [← hLW, ← hLZ, hob] at hfin
  simp (config := {maxSteps := 4000000}) only [U_slices_symMergeCmpFunc_api_Found, f0, f1, f2, f3, f4, f18, f19, f20, wE, dS, dE, dA, dM, dN, dB, List.set_set, reduceIte, reduceCtorEq, Nat.reduceEqDiff, Nat.reduceAdd, Int.reduceLT, Int.reduceLE, Int.reduceNeg, Int.reduceEq, Nat.reduceLT, Nat.reduceSub, Nat.reduceMul, Nat.reduceBEq, Nat.reduceLeDiff, Int.reduceBEq, Int.reduceBNe, Int.reduceToNat, ne_eq, implies_true, bA]
  exact ⟨_, rfl, hfin⟩
theorem symT1011 {k : Nat} (ih : SymAt k) {ob : List AObj} {o : Nat} {P X1 X2 Y1 Y2 Q L0 L : List Fd} {N a p q u v : Nat} {g : Nat → PV} {K : PV → List AObj → Prop} (lk : X1.length + X2.length + Y1.length + Y2.length ≤ k + 1)
    (hLA : L0 = P ++ (X1 ++ (X2 ++ (Y1 ++ (Y2 ++ Q))))) (hLB : P ++ X1 ++ (Y1 ++ (X2 ++ (Y2 ++ Q))) = L) (hN : N = L0.length) (hl : N ≤ 1000000) (ho : ob[o]? = some (lF L0)) (gA : ∀ z ∈ X1 ++ Y1, z.body.length ≤ 1000000) (gB : ∀ z ∈ X2 ++ Y2, z.body.length ≤ 1000000)
    (sX1 : Srt ltF X1) (sX2 : Srt ltF X2) (sY1 : Srt ltF Y1) (sY2 : Srt ltF Y2) (ha : a = P.length) (hp : p = X1.length) (hq : q = X2.length) (hu : u = Y1.length) (hv : v = Y2.length)
    (hK : ∀ Z1 Z2, Srt ltF Z1 → Srt ltF Z2 → Z1.Perm (X1 ++ Y1) → Z2.Perm (X2 ++ Y2) → K (.tup []) (ob.set o (lF (P ++ (Z1 ++ (Z2 ++ Q))))))
    (f0 : g 0 = .osl o 0 N) (f1 : g 1 = .int .i64 (a : Int)) (f2 : g 2 = .int .i64 ((a + p + q : Nat) : Int)) (f3 : g 3 = .int .i64 ((a + p + q + u + v : Nat) : Int)) (f4 : g 4 = fnF) (f18 : g 18 = .int .i64 ((a + p + u : Nat) : Int))
    (f19 : g 19 = .int .i64 ((a + p + u + (a + p + q) : Nat) : Int)) (f20 : g 20 = .int .i64 ((a + p : Nat) : Int)) (hX1 : X1 ≠ []) (hY1 : Y1 = []) (hX2 : X2 ≠ []) (hY2 : Y2 ≠ []) :
    AWP Try.prog ob.length ac_slices_symMergeCmpFunc_api_Found_112 (AEnd [] K) ⟨g, ob⟩ := by
  have hlen : N = P.length + (X1.length + (X2.length + (Y1.length + (Y2.length + Q.length)))) := by rw [hN, hLA]; simp
  have zX1 := len1 hX1
  have zY1 := len0 hY1
  have zX2 := len1 hX2
  have zY2 := len1 hY2
  have wE : IntKind.i64.wrap (((a + p + u + (a + p + q) : Nat) : Int) - ((a + p : Nat) : Int)) = ((a + p + q + u : Nat) : Int) := by rw [wrapI (by omega) (by omega)]; omega
  have dS := dT (show a + p < a + p + q by clear wE; omega)
  have dE := dF (show ¬ a + p + q < a + p + q + u by clear wE; omega)
  have dA := dT (show a < a + p by clear wE; omega)
  have dM := dF (show ¬ a + p < a + p + u by clear wE; omega)
  have dN := dT (show a + p + u < a + p + q + u by clear wE; omega)
  have dB := dT (show a + p + q + u < a + p + q + u + v by clear wE; omega)
  have hNA : N = ((P ++ X1) ++ (X2 ++ (Y1 ++ (Y2 ++ Q)))).length := by rw [hN, hLA]; simp
  have hoA : ob[o]? = some (lF ((P ++ X1) ++ (X2 ++ (Y1 ++ (Y2 ++ Q))))) := by rw [ho, hLA]; simp
  have hNL : N = (P ++ (X1 ++ (Y1 ++ (X2 ++ (Y2 ++ Q))))).length := by rw [hlen]; simp only [List.length_append]; clear wE dS dE dA dM dN dB; omega
  have oL : (ob.set o (lF L))[o]? = some (lF L) := set_get ho
  have oL1 : (ob.set o (lF L))[o]? = some (lF (P ++ (X1 ++ (Y1 ++ (X2 ++ (Y2 ++ Q)))))) := by rw [oL, ← hLB]; simp
  have hL2 : L0 = L := by rw [hLA, ← hLB, hY1]; simp
  have hob : ob.set o (lF L) = ob := by rw [← hL2]; exact set_self ho
  obtain ⟨Z1, hZ1⟩ : ∃ Z1, X1 ++ Y1 = Z1 := ⟨_, rfl⟩
  have z1 : Srt ltF Z1 := by rw [← hZ1]; simp only [hY1, List.nil_append, List.append_nil]; exact sX1
  have p1 : Z1.Perm (X1 ++ Y1) := by rw [hZ1]
  have hLZ : L = P ++ (Z1 ++ (X2 ++ (Y2 ++ Q))) := by rw [← hLB, ← hZ1]; simp
  have o2 : ob[o]? = some (lF ((P ++ Z1) ++ (X2 ++ (Y2 ++ Q)))) := by rw [ho, hL2, hLZ]; simp
  have lZ : Z1.length = p + u := by rw [p1.length_eq, List.length_append, hp, hu]
  have e1 : X2.length + Y2.length ≤ k := by clear wE dS dE dA dM dN dB; omega
  have e2 : N = (P ++ Z1 ++ (X2 ++ (Y2 ++ Q))).length := by rw [hlen]; simp only [List.length_append]; clear wE dS dE dA dM dN dB; omega
  have e3 : a + p + u = (P ++ Z1).length := by rw [List.length_append, lZ, ha, Nat.add_assoc]
  have e4 : a + p + q + u = (P ++ Z1).length + X2.length := by rw [List.length_append, lZ, ha, ← hq]; clear wE dS dE dA dM dN dB; omega
  have e5 : a + p + q + u + v = (P ++ Z1).length + X2.length + Y2.length := by rw [List.length_append, lZ, ha, ← hq, ← hv]; clear wE dS dE dA dM dN dB; omega
  simp (config := {maxSteps := 4000000}) only [U_slices_symMergeCmpFunc_api_Found, f0, f1, f2, f3, f4, f18, f19, f20, wE, dS, dE, dA, dM, dN, dB, List.set_set, reduceIte, reduceCtorEq, Nat.reduceEqDiff, Nat.reduceAdd, Int.reduceLT, Int.reduceLE, Int.reduceNeg, Int.reduceEq, Nat.reduceLT, Nat.reduceSub, Nat.reduceMul, Nat.reduceBEq, Nat.reduceLeDiff, Int.reduceBEq, Int.reduceBNe, Int.reduceToNat, ne_eq, implies_true, bA]
  refine callM (ih _ _ (P ++ Z1) X2 Y2 Q N _ _ _ e1 e2 hl o2 hX2 hY2 sX2 sY2 gB e3 e4 e5) ?_
  rintro r ob' ⟨rfl, Z2, z2, p2, rfl⟩
  have hfin := hK Z1 Z2 z1 z2 p1 p2
  rw [show P ++ (Z1 ++ (Z2 ++ Q)) = P ++ Z1 ++ (Z2 ++ Q) by simp] at hfin
  simp (config := {maxSteps := 4000000}) only [U_slices_symMergeCmpFunc_api_Found, List.set_set, reduceIte, reduceCtorEq, Nat.reduceEqDiff, Nat.reduceAdd, Int.reduceLT, Int.reduceLE, Int.reduceNeg, Int.reduceEq, Nat.reduceLT, Nat.reduceSub, Nat.reduceMul, Nat.reduceBEq, Nat.reduceLeDiff, Int.reduceBEq, Int.reduceBNe, Int.reduceToNat, ne_eq, implies_true, bA]
  refine ⟨_, rfl, ?_⟩
  simpa [List.set_set] using hfin
theorem symT1101 {k : Nat} (ih : SymAt k) {ob : List AObj} {o : Nat} {P X1 X2 Y1 Y2 Q L0 L : List Fd} {N a p q u v : Nat} {g : Nat → PV} {K : PV → List AObj → Prop} (lk : X1.length + X2.length + Y1.length + Y2.length ≤ k + 1)
    (hLA : L0 = P ++ (X1 ++ (X2 ++ (Y1 ++ (Y2 ++ Q))))) (hLB : P ++ X1 ++ (Y1 ++ (X2 ++ (Y2 ++ Q))) = L) (hN : N = L0.length) (hl : N ≤ 1000000) (ho : ob[o]? = some (lF L0)) (gA : ∀ z ∈ X1 ++ Y1, z.body.length ≤ 1000000) (gB : ∀ z ∈ X2 ++ Y2, z.body.length ≤ 1000000)
    (sX1 : Srt ltF X1) (sX2 : Srt ltF X2) (sY1 : Srt ltF Y1) (sY2 : Srt ltF Y2) (ha : a = P.length) (hp : p = X1.length) (hq : q = X2.length) (hu : u = Y1.length) (hv : v = Y2.length)
    (hK : ∀ Z1 Z2, Srt ltF Z1 → Srt ltF Z2 → Z1.Perm (X1 ++ Y1) → Z2.Perm (X2 ++ Y2) → K (.tup []) (ob.set o (lF (P ++ (Z1 ++ (Z2 ++ Q))))))
    (f0 : g 0 = .osl o 0 N) (f1 : g 1 = .int .i64 (a : Int)) (f2 : g 2 = .int .i64 ((a + p + q : Nat) : Int)) (f3 : g 3 = .int .i64 ((a + p + q + u + v : Nat) : Int)) (f4 : g 4 = fnF) (f18 : g 18 = .int .i64 ((a + p + u : Nat) : Int))
    (f19 : g 19 = .int .i64 ((a + p + u + (a + p + q) : Nat) : Int)) (f20 : g 20 = .int .i64 ((a + p : Nat) : Int)) (hX1 : X1 ≠ []) (hY1 : Y1 ≠ []) (hX2 : X2 = []) (hY2 : Y2 ≠ []) :
    AWP Try.prog ob.length ac_slices_symMergeCmpFunc_api_Found_112 (AEnd [] K) ⟨g, ob⟩ := by
  have hlen : N = P.length + (X1.length + (X2.length + (Y1.length + (Y2.length + Q.length)))) := by rw [hN, hLA]; simp
  have zX1 := len1 hX1
  have zY1 := len1 hY1
  have zX2 := len0 hX2
  have zY2 := len1 hY2
  have wE : IntKind.i64.wrap (((a + p + u + (a + p + q) : Nat) : Int) - ((a + p : Nat) : Int)) = ((a + p + q + u : Nat) : Int) := by rw [wrapI (by omega) (by omega)]; omega
  have dS := dF (show ¬ a + p < a + p + q by clear wE; omega)
  have dE := dT (show a + p + q < a + p + q + u by clear wE; omega)
  have dA := dT (show a < a + p by clear wE; omega)
  have dM := dT (show a + p < a + p + u by clear wE; omega)
  have dN := dF (show ¬ a + p + u < a + p + q + u by clear wE; omega)
  have dB := dT (show a + p + q + u < a + p + q + u + v by clear wE; omega)
  have hNA : N = ((P ++ X1) ++ (X2 ++ (Y1 ++ (Y2 ++ Q)))).length := by rw [hN, hLA]; simp
  have hoA : ob[o]? = some (lF ((P ++ X1) ++ (X2 ++ (Y1 ++ (Y2 ++ Q))))) := by rw [ho, hLA]; simp
  have hNL : N = (P ++ (X1 ++ (Y1 ++ (X2 ++ (Y2 ++ Q))))).length := by rw [hlen]; simp only [List.length_append]; clear wE dS dE dA dM dN dB; omega
  have oL : (ob.set o (lF L))[o]? = some (lF L) := set_get ho
  have oL1 : (ob.set o (lF L))[o]? = some (lF (P ++ (X1 ++ (Y1 ++ (X2 ++ (Y2 ++ Q)))))) := by rw [oL, ← hLB]; simp
  have hL2 : L0 = L := by rw [hLA, ← hLB, hX2]; simp
  have hob : ob.set o (lF L) = ob := by rw [← hL2]; exact set_self ho
  rw [hob] at oL1 oL
  have b1 : X1.length + Y1.length ≤ k := by clear wE dS dE dA dM dN dB; omega
  have b2 : a + p = P.length + X1.length := by rw [ha, hp]
  have b3 : a + p + u = P.length + X1.length + Y1.length := by rw [ha, hp, hu]
  simp (config := {maxSteps := 4000000}) only [U_slices_symMergeCmpFunc_api_Found, f0, f1, f2, f3, f4, f18, f19, f20, wE, dS, dE, dA, dM, dN, dB, List.set_set, reduceIte, reduceCtorEq, Nat.reduceEqDiff, Nat.reduceAdd, Int.reduceLT, Int.reduceLE, Int.reduceNeg, Int.reduceEq, Nat.reduceLT, Nat.reduceSub, Nat.reduceMul, Nat.reduceBEq, Nat.reduceLeDiff, Int.reduceBEq, Int.reduceBNe, Int.reduceToNat, ne_eq, implies_true, bA]
  refine callM (ih _ _ P X1 Y1 (X2 ++ (Y2 ++ Q)) N a _ _ b1 hNL hl oL1 hX1 hY1 sX1 sY1 gA ha b2 b3) ?_
  rintro r ob' ⟨rfl, Z1, z1, p1, rfl⟩
  have o2 : (ob.set o (lF (P ++ (Z1 ++ (X2 ++ (Y2 ++ Q))))))[o]? = some (lF ((P ++ Z1) ++ (X2 ++ (Y2 ++ Q)))) := by rw [set_get ho]; simp
  have lZ : Z1.length = p + u := by rw [p1.length_eq, List.length_append, hp, hu]
  obtain ⟨Z2, hZ2⟩ : ∃ Z2, X2 ++ Y2 = Z2 := ⟨_, rfl⟩
  have z2 : Srt ltF Z2 := by rw [← hZ2]; simp only [hX2, List.nil_append, List.append_nil]; exact sY2
  have p2 : Z2.Perm (X2 ++ Y2) := by rw [hZ2]
  have hLW : P ++ (Z1 ++ (X2 ++ (Y2 ++ Q))) = P ++ (Z1 ++ (Z2 ++ Q)) := by rw [← hZ2]; simp
  have hfin := hK Z1 Z2 z1 z2 p1 p2
  rw [hLW]
  simp (config := {maxSteps := 4000000}) only [U_slices_symMergeCmpFunc_api_Found, f0, f1, f2, f3, f4, f18, f19, f20, wE, dS, dE, dA, dM, dN, dB, List.set_set, reduceIte, reduceCtorEq, Nat.reduceEqDiff, Nat.reduceAdd, Int.reduceLT, Int.reduceLE, Int.reduceNeg, Int.reduceEq, Nat.reduceLT, Nat.reduceSub, Nat.reduceMul, Nat.reduceBEq, Nat.reduceLeDiff, Int.reduceBEq, Int.reduceBNe, Int.reduceToNat, ne_eq, implies_true, bA]
  exact ⟨_, rfl, hfin⟩
theorem symT1110 {k : Nat} (ih : SymAt k) {ob : List AObj} {o : Nat} {P X1 X2 Y1 Y2 Q L0 L : List Fd} {N a p q u v : Nat} {g : Nat → PV} {K : PV → List AObj → Prop} (lk : X1.length + X2.length + Y1.length + Y2.length ≤ k + 1)
    (hLA : L0 = P ++ (X1 ++ (X2 ++ (Y1 ++ (Y2 ++ Q))))) (hLB : P ++ X1 ++ (Y1 ++ (X2 ++ (Y2 ++ Q))) = L) (hN : N = L0.length) (hl : N ≤ 1000000) (ho : ob[o]? = some (lF L0)) (gA : ∀ z ∈ X1 ++ Y1, z.body.length ≤ 1000000) (gB : ∀ z ∈ X2 ++ Y2, z.body.length ≤ 1000000)
    (sX1 : Srt ltF X1) (sX2 : Srt ltF X2) (sY1 : Srt ltF Y1) (sY2 : Srt ltF Y2) (ha : a = P.length) (hp : p = X1.length) (hq : q = X2.length) (hu : u = Y1.length) (hv : v = Y2.length)
    (hK : ∀ Z1 Z2, Srt ltF Z1 → Srt ltF Z2 → Z1.Perm (X1 ++ Y1) → Z2.Perm (X2 ++ Y2) → K (.tup []) (ob.set o (lF (P ++ (Z1 ++ (Z2 ++ Q))))))
    (f0 : g 0 = .osl o 0 N) (f1 : g 1 = .int .i64 (a : Int)) (f2 : g 2 = .int .i64 ((a + p + q : Nat) : Int)) (f3 : g 3 = .int .i64 ((a + p + q + u + v : Nat) : Int)) (f4 : g 4 = fnF) (f18 : g 18 = .int .i64 ((a + p + u : Nat) : Int))
    (f19 : g 19 = .int .i64 ((a + p + u + (a + p + q) : Nat) : Int)) (f20 : g 20 = .int .i64 ((a + p : Nat) : Int)) (hX1 : X1 ≠ []) (hY1 : Y1 ≠ []) (hX2 : X2 ≠ []) (hY2 : Y2 = []) :
    AWP Try.prog ob.length ac_slices_symMergeCmpFunc_api_Found_112 (AEnd [] K) ⟨g, ob⟩ := by
  have hlen : N = P.length + (X1.length + (X2.length + (Y1.length + (Y2.length + Q.length)))) := by rw [hN, hLA]; simp
  have zX1 := len1 hX1
  have zY1 := len1 hY1
  have zX2 := len1 hX2
  have zY2 := len0 hY2
  have wE : IntKind.i64.wrap (((a + p + u + (a + p + q) : Nat) : Int) - ((a + p : Nat) : Int)) = ((a + p + q + u : Nat) : Int) := by rw [wrapI (by omega) (by omega)]; omega
  have dS := dT (show a + p < a + p + q by clear wE; omega)
  have dE := dT (show a + p + q < a + p + q + u by clear wE; omega)
  have dA := dT (show a < a + p by clear wE; omega)
  have dM := dT (show a + p < a + p + u by clear wE; omega)
  have dN := dT (show a + p + u < a + p + q + u by clear wE; omega)
  have dB := dF (show ¬ a + p + q + u < a + p + q + u + v by clear wE; omega)
  have hNA : N = ((P ++ X1) ++ (X2 ++ (Y1 ++ (Y2 ++ Q)))).length := by rw [hN, hLA]; simp
  have hoA : ob[o]? = some (lF ((P ++ X1) ++ (X2 ++ (Y1 ++ (Y2 ++ Q))))) := by rw [ho, hLA]; simp
  have hNL : N = (P ++ (X1 ++ (Y1 ++ (X2 ++ (Y2 ++ Q))))).length := by rw [hlen]; simp only [List.length_append]; clear wE dS dE dA dM dN dB; omega
  have oL : (ob.set o (lF L))[o]? = some (lF L) := set_get ho
  have oL1 : (ob.set o (lF L))[o]? = some (lF (P ++ (X1 ++ (Y1 ++ (X2 ++ (Y2 ++ Q)))))) := by rw [oL, ← hLB]; simp
  have a1 : ((a + p : Nat) : Int) = ((P ++ X1).length : Int) := by rw [List.length_append, ha, hp]
  have a2 : ((a + p + q : Nat) : Int) = (((P ++ X1).length + X2.length : Nat) : Int) := by rw [List.length_append, ha, hp, hq]
  have a3 : ((a + p + q + u : Nat) : Int) = (((P ++ X1).length + X2.length + Y1.length : Nat) : Int) := by rw [List.length_append, ha, hp, hq, hu]
  simp (config := {maxSteps := 4000000}) only [U_slices_symMergeCmpFunc_api_Found, f0, f1, f2, f3, f4, f18, f19, f20, wE, dS, dE, dA, dM, dN, dB, List.set_set, reduceIte, reduceCtorEq, Nat.reduceEqDiff, Nat.reduceAdd, Int.reduceLT, Int.reduceLE, Int.reduceNeg, Int.reduceEq, Nat.reduceLT, Nat.reduceSub, Nat.reduceMul, Nat.reduceBEq, Nat.reduceLeDiff, Int.reduceBEq, Int.reduceBNe, Int.reduceToNat, ne_eq, implies_true, bA]
  refine callM (rotate_i (P := P ++ X1) (X := X2) (Y := Y1) (Q := Y2 ++ Q) hNA hl hoA hX2 hY1 ⟨_, rfl⟩ a1 a2 a3) ?_
  rintro r ob' ⟨rfl, rfl⟩
  rw [hLB]
  have b1 : X1.length + Y1.length ≤ k := by clear wE dS dE dA dM dN dB; omega
  have b2 : a + p = P.length + X1.length := by rw [ha, hp]
  have b3 : a + p + u = P.length + X1.length + Y1.length := by rw [ha, hp, hu]
  simp (config := {maxSteps := 4000000}) only [U_slices_symMergeCmpFunc_api_Found, f0, f1, f2, f3, f4, f18, f19, f20, wE, dS, dE, dA, dM, dN, dB, List.set_set, reduceIte, reduceCtorEq, Nat.reduceEqDiff, Nat.reduceAdd, Int.reduceLT, Int.reduceLE, Int.reduceNeg, Int.reduceEq, Nat.reduceLT, Nat.reduceSub, Nat.reduceMul, Nat.reduceBEq, Nat.reduceLeDiff, Int.reduceBEq, Int.reduceBNe, Int.reduceToNat, ne_eq, implies_true, bA]
  refine callM (ih _ _ P X1 Y1 (X2 ++ (Y2 ++ Q)) N a _ _ b1 hNL hl oL1 hX1 hY1 sX1 sY1 gA ha b2 b3) ?_
  rintro r ob' ⟨rfl, Z1, z1, p1, rfl⟩
  have o2 : (ob.set o (lF (P ++ (Z1 ++ (X2 ++ (Y2 ++ Q))))))[o]? = some (lF ((P ++ Z1) ++ (X2 ++ (Y2 ++ Q)))) := by rw [set_get ho]; simp
  have lZ : Z1.length = p + u := by rw [p1.length_eq, List.length_append, hp, hu]
  obtain ⟨Z2, hZ2⟩ : ∃ Z2, X2 ++ Y2 = Z2 := ⟨_, rfl⟩
  have z2 : Srt ltF Z2 := by rw [← hZ2]; simp only [hY2, List.nil_append, List.append_nil]; exact sX2
  have p2 : Z2.Perm (X2 ++ Y2) := by rw [hZ2]
  have hLW : P ++ (Z1 ++ (X2 ++ (Y2 ++ Q))) = P ++ (Z1 ++ (Z2 ++ Q)) := by rw [← hZ2]; simp
  have hfin := hK Z1 Z2 z1 z2 p1 p2
  rw [hLW]
  simp (config := {maxSteps := 4000000}) only [U_slices_symMergeCmpFunc_api_Found, f0, f1, f2, f3, f4, f18, f19, f20, wE, dS, dE, dA, dM, dN, dB, List.set_set, reduceIte, reduceCtorEq, Nat.reduceEqDiff, Nat.reduceAdd, Int.reduceLT, Int.reduceLE, Int.reduceNeg, Int.reduceEq, Nat.reduceLT, Nat.reduceSub, Nat.reduceMul, Nat.reduceBEq, Nat.reduceLeDiff, Int.reduceBEq, Int.reduceBNe, Int.reduceToNat, ne_eq, implies_true, bA]
  exact ⟨_, rfl, hfin⟩
theorem symT1111 {k : Nat} (ih : SymAt k) {ob : List AObj} {o : Nat} {P X1 X2 Y1 Y2 Q L0 L : List Fd} {N a p q u v : Nat} {g : Nat → PV} {K : PV → List AObj → Prop} (lk : X1.length + X2.length + Y1.length + Y2.length ≤ k + 1)
    (hLA : L0 = P ++ (X1 ++ (X2 ++ (Y1 ++ (Y2 ++ Q))))) (hLB : P ++ X1 ++ (Y1 ++ (X2 ++ (Y2 ++ Q))) = L) (hN : N = L0.length) (hl : N ≤ 1000000) (ho : ob[o]? = some (lF L0)) (gA : ∀ z ∈ X1 ++ Y1, z.body.length ≤ 1000000) (gB : ∀ z ∈ X2 ++ Y2, z.body.length ≤ 1000000)
    (sX1 : Srt ltF X1) (sX2 : Srt ltF X2) (sY1 : Srt ltF Y1) (sY2 : Srt ltF Y2) (ha : a = P.length) (hp : p = X1.length) (hq : q = X2.length) (hu : u = Y1.length) (hv : v = Y2.length)
    (hK : ∀ Z1 Z2, Srt ltF Z1 → Srt ltF Z2 → Z1.Perm (X1 ++ Y1) → Z2.Perm (X2 ++ Y2) → K (.tup []) (ob.set o (lF (P ++ (Z1 ++ (Z2 ++ Q))))))
    (f0 : g 0 = .osl o 0 N) (f1 : g 1 = .int .i64 (a : Int)) (f2 : g 2 = .int .i64 ((a + p + q : Nat) : Int)) (f3 : g 3 = .int .i64 ((a + p + q + u + v : Nat) : Int)) (f4 : g 4 = fnF) (f18 : g 18 = .int .i64 ((a + p + u : Nat) : Int))
    (f19 : g 19 = .int .i64 ((a + p + u + (a + p + q) : Nat) : Int)) (f20 : g 20 = .int .i64 ((a + p : Nat) : Int)) (hX1 : X1 ≠ []) (hY1 : Y1 ≠ []) (hX2 : X2 ≠ []) (hY2 : Y2 ≠ []) :
    AWP Try.prog ob.length ac_slices_symMergeCmpFunc_api_Found_112 (AEnd [] K) ⟨g, ob⟩ := by
  have hlen : N = P.length + (X1.length + (X2.length + (Y1.length + (Y2.length + Q.length)))) := by rw [hN, hLA]; simp
  have zX1 := len1 hX1
  have zY1 := len1 hY1
  have zX2 := len1 hX2
  have zY2 := len1 hY2
  have wE : IntKind.i64.wrap (((a + p + u + (a + p + q) : Nat) : Int) - ((a + p : Nat) : Int)) = ((a + p + q + u : Nat) : Int) := by rw [wrapI (by omega) (by omega)]; omega
  have dS := dT (show a + p < a + p + q by clear wE; omega)
  have dE := dT (show a + p + q < a + p + q + u by clear wE; omega)
  have dA := dT (show a < a + p by clear wE; omega)
  have dM := dT (show a + p < a + p + u by clear wE; omega)
  have dN := dT (show a + p + u < a + p + q + u by clear wE; omega)
  have dB := dT (show a + p + q + u < a + p + q + u + v by clear wE; omega)
  have hNA : N = ((P ++ X1) ++ (X2 ++ (Y1 ++ (Y2 ++ Q)))).length := by rw [hN, hLA]; simp
  have hoA : ob[o]? = some (lF ((P ++ X1) ++ (X2 ++ (Y1 ++ (Y2 ++ Q))))) := by rw [ho, hLA]; simp
  have hNL : N = (P ++ (X1 ++ (Y1 ++ (X2 ++ (Y2 ++ Q))))).length := by rw [hlen]; simp only [List.length_append]; clear wE dS dE dA dM dN dB; omega
  have oL : (ob.set o (lF L))[o]? = some (lF L) := set_get ho
  have oL1 : (ob.set o (lF L))[o]? = some (lF (P ++ (X1 ++ (Y1 ++ (X2 ++ (Y2 ++ Q)))))) := by rw [oL, ← hLB]; simp
  have a1 : ((a + p : Nat) : Int) = ((P ++ X1).length : Int) := by rw [List.length_append, ha, hp]
  have a2 : ((a + p + q : Nat) : Int) = (((P ++ X1).length + X2.length : Nat) : Int) := by rw [List.length_append, ha, hp, hq]
  have a3 : ((a + p + q + u : Nat) : Int) = (((P ++ X1).length + X2.length + Y1.length : Nat) : Int) := by rw [List.length_append, ha, hp, hq, hu]
  simp (config := {maxSteps := 4000000}) only [U_slices_symMergeCmpFunc_api_Found, f0, f1, f2, f3, f4, f18, f19, f20, wE, dS, dE, dA, dM, dN, dB, List.set_set, reduceIte, reduceCtorEq, Nat.reduceEqDiff, Nat.reduceAdd, Int.reduceLT, Int.reduceLE, Int.reduceNeg, Int.reduceEq, Nat.reduceLT, Nat.reduceSub, Nat.reduceMul, Nat.reduceBEq, Nat.reduceLeDiff, Int.reduceBEq, Int.reduceBNe, Int.reduceToNat, ne_eq, implies_true, bA]
  refine callM (rotate_i (P := P ++ X1) (X := X2) (Y := Y1) (Q := Y2 ++ Q) hNA hl hoA hX2 hY1 ⟨_, rfl⟩ a1 a2 a3) ?_
  rintro r ob' ⟨rfl, rfl⟩
  rw [hLB]
  have b1 : X1.length + Y1.length ≤ k := by clear wE dS dE dA dM dN dB; omega
  have b2 : a + p = P.length + X1.length := by rw [ha, hp]
  have b3 : a + p + u = P.length + X1.length + Y1.length := by rw [ha, hp, hu]
  simp (config := {maxSteps := 4000000}) only [U_slices_symMergeCmpFunc_api_Found, f0, f1, f2, f3, f4, f18, f19, f20, wE, dS, dE, dA, dM, dN, dB, List.set_set, reduceIte, reduceCtorEq, Nat.reduceEqDiff, Nat.reduceAdd, Int.reduceLT, Int.reduceLE, Int.reduceNeg, Int.reduceEq, Nat.reduceLT, Nat.reduceSub, Nat.reduceMul, Nat.reduceBEq, Nat.reduceLeDiff, Int.reduceBEq, Int.reduceBNe, Int.reduceToNat, ne_eq, implies_true, bA]
  refine callM (ih _ _ P X1 Y1 (X2 ++ (Y2 ++ Q)) N a _ _ b1 hNL hl oL1 hX1 hY1 sX1 sY1 gA ha b2 b3) ?_
  rintro r ob' ⟨rfl, Z1, z1, p1, rfl⟩
  have o2 : (ob.set o (lF (P ++ (Z1 ++ (X2 ++ (Y2 ++ Q))))))[o]? = some (lF ((P ++ Z1) ++ (X2 ++ (Y2 ++ Q)))) := by rw [set_get ho]; simp
  have lZ : Z1.length = p + u := by rw [p1.length_eq, List.length_append, hp, hu]
  have e1 : X2.length + Y2.length ≤ k := by clear wE dS dE dA dM dN dB; omega
  have e2 : N = (P ++ Z1 ++ (X2 ++ (Y2 ++ Q))).length := by rw [hlen]; simp only [List.length_append]; clear wE dS dE dA dM dN dB; omega
  have e3 : a + p + u = (P ++ Z1).length := by rw [List.length_append, lZ, ha, Nat.add_assoc]
  have e4 : a + p + q + u = (P ++ Z1).length + X2.length := by rw [List.length_append, lZ, ha, ← hq]; clear wE dS dE dA dM dN dB; omega
  have e5 : a + p + q + u + v = (P ++ Z1).length + X2.length + Y2.length := by rw [List.length_append, lZ, ha, ← hq, ← hv]; clear wE dS dE dA dM dN dB; omega
  simp (config := {maxSteps := 4000000}) only [U_slices_symMergeCmpFunc_api_Found, f0, f1, f2, f3, f4, f18, f19, f20, wE, dS, dE, dA, dM, dN, dB, List.set_set, reduceIte, reduceCtorEq, Nat.reduceEqDiff, Nat.reduceAdd, Int.reduceLT, Int.reduceLE, Int.reduceNeg, Int.reduceEq, Nat.reduceLT, Nat.reduceSub, Nat.reduceMul, Nat.reduceBEq, Nat.reduceLeDiff, Int.reduceBEq, Int.reduceBNe, Int.reduceToNat, ne_eq, implies_true, bA]
  refine callM (ih _ _ (P ++ Z1) X2 Y2 Q N _ _ _ e1 e2 hl o2 hX2 hY2 sX2 sY2 gB e3 e4 e5) ?_
  rintro r ob' ⟨rfl, Z2, z2, p2, rfl⟩
  have hfin := hK Z1 Z2 z1 z2 p1 p2
  rw [show P ++ (Z1 ++ (Z2 ++ Q)) = P ++ Z1 ++ (Z2 ++ Q) by simp] at hfin
  simp (config := {maxSteps := 4000000}) only [U_slices_symMergeCmpFunc_api_Found, List.set_set, reduceIte, reduceCtorEq, Nat.reduceEqDiff, Nat.reduceAdd, Int.reduceLT, Int.reduceLE, Int.reduceNeg, Int.reduceEq, Nat.reduceLT, Nat.reduceSub, Nat.reduceMul, Nat.reduceBEq, Nat.reduceLeDiff, Int.reduceBEq, Int.reduceBNe, Int.reduceToNat, ne_eq, implies_true, bA]
  refine ⟨_, rfl, ?_⟩
  simpa [List.set_set] using hfin

end Go.Proofs.Ytklniadgdbjcpaa.Aw
