/-
  Lists of pages: two parts that are sorted are made one.
-/
import Derived.Test.YtklniadgdbjcpaaPSymT
set_option linter.unusedSimpArgs false
set_option linter.unusedVariables false
namespace Go.Proofs.Ytklniadgdbjcpaa.Aw
open Go.RowKit

theorem symEnd {k : Nat} (ih : SymAt k) {ob : List AObj} {o : Nat} {P X Y Q L0 : List Fd} {N a m b h s0 r0 : Nat} {f : Nat → PV} {R : Ex → St → Prop} (lk : X.length + Y.length ≤ k + 1) (hL0 : L0 = P ++ (X ++ (Y ++ Q))) (hN : N = L0.length) (hl : N ≤ 1000000) (ho : ob[o]? = some (lF L0))
    (sX : Srt ltF X) (sY : Srt ltF Y) (hG : ∀ z ∈ X ++ Y, z.body.length ≤ 1000000) (ha : a = P.length) (hm : m = P.length + X.length) (hb : b = P.length + X.length + Y.length) (h1 : 1 ≤ h) (h2 : h + 1 ≤ X.length + Y.length) (c1 : h ≤ s0 + Y.length) (c2 : r0 ≤ X.length) (c3 : r0 ≤ h) (c4 : s0 ≤ r0)
    (c5 : s0 = 0 ∨ h = s0 + Y.length) (c6 : r0 = X.length ∨ r0 = h)
    (f0 : f 0 = .osl o 0 N) (f1 : f 1 = .int .i64 (a : Int)) (f2 : f 2 = .int .i64 (m : Int)) (f3 : f 3 = .int .i64 (b : Int)) (f4 : f 4 = fnF) (f18 : f 18 = .int .i64 ((a + h : Nat) : Int)) (f19 : f 19 = .int .i64 ((a + h + m : Nat) : Int))
    (f20 : f 20 = .int .i64 ((a + s0 : Nat) : Int)) (f21 : f 21 = .int .i64 ((a + r0 : Nat) : Int)) (f22 : f 22 = .int .i64 ((a + h + m - 1 : Nat) : Int)) :
    AWP Try.prog ob.length (.loop [0, 1, 2, 3, 4, 18, 19, 20, 21, 22] 1000000000 ac_slices_symMergeCmpFunc_api_Found_94)
      (kblk 8 (kseq (AWP Try.prog ob.length ac_slices_symMergeCmpFunc_api_Found_112 (AEnd [] (SymK ob o P X Y Q))) R)) ⟨f, ob⟩ := by
  refine symS hL0 hN hl ho hG ha hm c1 c2 c3 c4 f0 f1 f2 f3 f4 f18 f19 f20 f21 f22 ?_
  intro g s k1 k2 s1 s2 g0 g1 g2 g3 g4 g18 g19 g20
  clear f0 f1 f2 f3 f4 f18 f19 f20 f21 f22
  obtain ⟨X1, X2, hX12, lX1⟩ := cut_at X s (by clear g18 g19 g20 g1 g2 g3 s1 s2 hG; omega)
  obtain ⟨Y1, Y2, hY12, lY1⟩ := cut_at Y (h - s) (by clear g18 g19 g20 g1 g2 g3 s1 s2 hG; omega)
  have lX2 : X1.length + X2.length = X.length := by rw [hX12]; simp
  have lY2 : Y1.length + Y2.length = Y.length := by rw [hY12]; simp
  have hperm : ((X1 ++ Y1) ++ (X2 ++ Y2)).Perm (X ++ Y) := by
    rw [hX12, hY12]
    simp only [List.append_assoc]
    refine List.Perm.append_left X1 ?_
    rw [← List.append_assoc, ← List.append_assoc]
    exact List.Perm.append_right Y2 List.perm_append_comm
  have hpart : ∀ u ∈ X1 ++ Y1, ∀ v ∈ X2 ++ Y2, ltF v u = false := by
    refine sym_parts ltF_ord (by rw [← hX12]; exact sX) (by rw [← hY12]; exact sY) ?_ ?_
    · rcases s1 with s1 | ⟨A, x, B, A', y, B', e1, e2, e3, e4, e5⟩
      · rcases c5 with c5 | c5
        · exact .inl (List.eq_nil_of_length_eq_zero (by omega))
        · exact .inr (.inl (List.eq_nil_of_length_eq_zero (by omega)))
      · refine .inr (.inr ⟨A, x, y, B', ?_, ?_, e5⟩)
        · have e := hX12.symm.trans (e1.trans (show A ++ x :: B = (A ++ [x]) ++ B by simp))
          exact (List.append_inj e (by simp; omega)).1
        · exact (List.append_inj (hY12.symm.trans e2) (by omega)).2
    · rcases s2 with s2 | ⟨A, x, B, A', y, B', e1, e2, e3, e4, e5⟩
      · rcases c6 with c6 | c6
        · exact .inr (.inl (List.eq_nil_of_length_eq_zero (by omega)))
        · exact .inl (List.eq_nil_of_length_eq_zero (by omega))
      · refine .inr (.inr ⟨A', y, x, B, ?_, ?_, e5⟩)
        · have e := hY12.symm.trans (e2.trans (show A' ++ y :: B' = (A' ++ [y]) ++ B' by simp))
          exact (List.append_inj e (by simp; omega)).1
        · exact (List.append_inj (hX12.symm.trans e1) (by omega)).2
  clear s1 s2 c5 c6
  have tX := srt_app.1 (hX12 ▸ sX)
  have tY := srt_app.1 (hY12 ▸ sY)
  have gA : ∀ z ∈ X1 ++ Y1, z.body.length ≤ 1000000 := fun z hz => hG z (hperm.mem_iff.1 (List.mem_append_left _ hz))
  have gB : ∀ z ∈ X2 ++ Y2, z.body.length ≤ 1000000 := fun z hz => hG z (hperm.mem_iff.1 (List.mem_append_right _ hz))
  have hLA : L0 = P ++ (X1 ++ (X2 ++ (Y1 ++ (Y2 ++ Q)))) := by rw [hL0, hX12, hY12]; simp
  have hK : ∀ Z1 Z2, Srt ltF Z1 → Srt ltF Z2 → Z1.Perm (X1 ++ Y1) → Z2.Perm (X2 ++ Y2) → SymK ob o P X Y Q (.tup []) (ob.set o (lF (P ++ (Z1 ++ (Z2 ++ Q))))) :=
    fun Z1 Z2 z1 z2 p1 p2 => ⟨rfl, Z1 ++ Z2, srt_join z1 z2 p1 p2 hpart, (p1.append p2).trans hperm, by simp⟩
  have e2 : m = a + X1.length + X2.length := by clear g18 g19 g20 g1 g2 g3 hG; omega
  have e3 : b = a + X1.length + X2.length + Y1.length + Y2.length := by clear g18 g19 g20 g1 g2 g3 hG; omega
  have e18 : a + h = a + X1.length + Y1.length := by clear g18 g19 g20 g1 g2 g3 hG; omega
  have e20 : a + s = a + X1.length := by rw [lX1]
  have lk' : X1.length + X2.length + Y1.length + Y2.length ≤ k + 1 := by clear g18 g19 g20 g1 g2 g3 hG; omega
  rw [e18, e2] at g19
  rw [e18] at g18
  rw [e2] at g2
  rw [e3] at g3
  rw [e20] at g20
  have nA : X1 = [] → Y1 = [] → False := fun i j => by rw [i] at lX1; rw [j] at lY1; simp only [List.length_nil] at lX1 lY1; clear g18 g19 g20 g1 g2 g3 hG; omega
  have nB : X2 = [] → Y2 = [] → False := fun i j => by rw [i] at lX2; rw [j] at lY2; simp only [List.length_nil] at lX2 lY2; clear g18 g19 g20 g1 g2 g3 hG; omega
  by_cases hX1 : X1 = []
  · by_cases hY1 : Y1 = []
    · exact (nA hX1 hY1).elim
    · by_cases hX2 : X2 = []
      · by_cases hY2 : Y2 = []
        · exact (nB hX2 hY2).elim
        · exact symT0101 ih lk' hLA rfl hN hl ho gA gB tX.1 tX.2.1 tY.1 tY.2.1 ha rfl rfl rfl rfl hK g0 g1 g2 g3 g4 g18 g19 g20 hX1 hY1 hX2 hY2
      · by_cases hY2 : Y2 = []
        · exact symT0110 ih lk' hLA rfl hN hl ho gA gB tX.1 tX.2.1 tY.1 tY.2.1 ha rfl rfl rfl rfl hK g0 g1 g2 g3 g4 g18 g19 g20 hX1 hY1 hX2 hY2
        · exact symT0111 ih lk' hLA rfl hN hl ho gA gB tX.1 tX.2.1 tY.1 tY.2.1 ha rfl rfl rfl rfl hK g0 g1 g2 g3 g4 g18 g19 g20 hX1 hY1 hX2 hY2
  · by_cases hY1 : Y1 = []
    · by_cases hX2 : X2 = []
      · by_cases hY2 : Y2 = []
        · exact (nB hX2 hY2).elim
        · exact symT1001 ih lk' hLA rfl hN hl ho gA gB tX.1 tX.2.1 tY.1 tY.2.1 ha rfl rfl rfl rfl hK g0 g1 g2 g3 g4 g18 g19 g20 hX1 hY1 hX2 hY2
      · by_cases hY2 : Y2 = []
        · exact symT1010 ih lk' hLA rfl hN hl ho gA gB tX.1 tX.2.1 tY.1 tY.2.1 ha rfl rfl rfl rfl hK g0 g1 g2 g3 g4 g18 g19 g20 hX1 hY1 hX2 hY2
        · exact symT1011 ih lk' hLA rfl hN hl ho gA gB tX.1 tX.2.1 tY.1 tY.2.1 ha rfl rfl rfl rfl hK g0 g1 g2 g3 g4 g18 g19 g20 hX1 hY1 hX2 hY2
    · by_cases hX2 : X2 = []
      · by_cases hY2 : Y2 = []
        · exact (nB hX2 hY2).elim
        · exact symT1101 ih lk' hLA rfl hN hl ho gA gB tX.1 tX.2.1 tY.1 tY.2.1 ha rfl rfl rfl rfl hK g0 g1 g2 g3 g4 g18 g19 g20 hX1 hY1 hX2 hY2
      · by_cases hY2 : Y2 = []
        · exact symT1110 ih lk' hLA rfl hN hl ho gA gB tX.1 tX.2.1 tY.1 tY.2.1 ha rfl rfl rfl rfl hK g0 g1 g2 g3 g4 g18 g19 g20 hX1 hY1 hX2 hY2
        · exact symT1111 ih lk' hLA rfl hN hl ho gA gB tX.1 tX.2.1 tY.1 tY.2.1 ha rfl rfl rfl rfl hK g0 g1 g2 g3 g4 g18 g19 g20 hX1 hY1 hX2 hY2

theorem sym3_i {k : Nat} (ih : SymAt k) {ob : List AObj} {o : Nat} {P X Y Q : List Fd} {N : Nat} {a m b : Nat} (hk : X.length + Y.length ≤ k + 1) (hN : N = (P ++ (X ++ (Y ++ Q))).length) (hl : N ≤ 1000000) (ho : ob[o]? = some (lF (P ++ (X ++ (Y ++ Q)))))
    (hX2 : 2 ≤ X.length) (hY2 : 2 ≤ Y.length) (hX : Srt ltF X) (hY : Srt ltF Y) (hG : ∀ z ∈ X ++ Y, z.body.length ≤ 1000000) (ha : a = P.length) (hm : m = P.length + X.length) (hb : b = P.length + X.length + Y.length) :
    ICall Try.prog 52 [.osl o 0 N, .int .i64 (a : Int), .int .i64 (m : Int), .int .i64 (b : Int), fnF] ob (SymK ob o P X Y Q) := by
  refine icall_dr Try.func52 comp_slices_symMergeCmpFunc_api_Found ?_
  obtain ⟨L0, hL0⟩ : ∃ L, P ++ (X ++ (Y ++ Q)) = L := ⟨_, rfl⟩
  have hlen : N = P.length + (X.length + (Y.length + Q.length)) := by rw [hN]; simp
  rw [hL0] at ho hN
  obtain ⟨h, hh⟩ : ∃ h, (X.length + Y.length) / 2 = h := ⟨_, rfl⟩
  have v5 : (a + b) / 2 = a + h := by omega
  have h1 : 1 ≤ h := by omega
  have h2 : h + 1 ≤ X.length + Y.length := by omega
  have k1 : 2 * h ≤ X.length + Y.length := by omega
  have k2 : X.length + Y.length ≤ 2 * h + 1 := by omega
  clear hh
  have n1 : N ≤ 1000000 → a + b ≤ 4000000 ∧ a + h ≤ 4000000 ∧ a + h + m ≤ 4000000 := by omega
  obtain ⟨n1, n2, n3⟩ := n1 hl
  have v1 := wrA (a := a) (b := b) n1
  have v2 := wrU (n := a + b) n1
  have v3 := half (n := a + b) n1
  have v4 := wrI (n := a + h) n2
  rw [v5] at v3
  have v6 := wrA (a := a + h) (b := m) n3
  have v7 : IntKind.i64.wrap (((a + h + m : Nat) : Int) - 1) = ((a + h + m - 1 : Nat) : Int) := by clear v1 v2 v3 v4 v6; rw [wrapI (by omega) (by omega)]; omega
  have w0 : IntKind.i64.wrap ((m : Int) - (a : Int)) = (X.length : Int) := by clear v1 v2 v3 v4 v6 v7; rw [wrS (by omega) (by omega)]; omega
  have w0' : IntKind.i64.wrap ((b : Int) - (m : Int)) = (Y.length : Int) := by clear v1 v2 v3 v4 v6 v7 w0; rw [wrS (by omega) (by omega)]; omega
  have d0 : ((X.length : Int) == 1) = false := eF (by clear v1 v2 v3 v4 v6 v7 w0 w0'; omega)
  have d0' : ((Y.length : Int) == 1) = false := eF (by clear v1 v2 v3 v4 v6 v7 w0 w0' d0; omega)
  by_cases hmid : a + h < m
  · have dg := dT hmid
    have u1 : IntKind.i64.wrap (((a + h + m : Nat) : Int) - (b : Int)) = ((a + (h - Y.length) : Nat) : Int) := by clear v1 v2 v3 v4 v6 v7 w0 w0' d0 d0' dg; rw [wrapI (by omega) (by omega)]; omega
    simp (config := {maxSteps := 4000000}) only [U_slices_symMergeCmpFunc_api_Found, w0, w0', d0, d0', v1, v2, v3, v4, v6, v7, dg, u1, reduceIte, reduceCtorEq, Nat.reduceEqDiff, Nat.reduceAdd, Int.reduceLT, Int.reduceLE, Int.reduceNeg, Int.reduceEq, Nat.reduceLT, Nat.reduceSub, Nat.reduceMul, Nat.reduceBEq, Nat.reduceLeDiff, Int.reduceBEq, Int.reduceBNe, Int.reduceToNat, ne_eq, implies_true, bA]
    clear v1 v2 v3 v4 v6 v7 w0 w0' d0 d0' dg u1
    refine symEnd (s0 := h - Y.length) (r0 := h) ih hk hL0.symm hN hl ho hX hY hG ha hm hb h1 h2 (by omega) (by omega) (by omega) (by omega) (by omega) (.inr rfl) ?_ ?_ ?_ ?_ ?_ ?_ ?_ ?_ ?_ ?_ <;> rfl
  · have dg := dF hmid
    simp (config := {maxSteps := 4000000}) only [U_slices_symMergeCmpFunc_api_Found, w0, w0', d0, d0', v1, v2, v3, v4, v6, v7, dg, reduceIte, reduceCtorEq, Nat.reduceEqDiff, Nat.reduceAdd, Int.reduceLT, Int.reduceLE, Int.reduceNeg, Int.reduceEq, Nat.reduceLT, Nat.reduceSub, Nat.reduceMul, Nat.reduceBEq, Nat.reduceLeDiff, Int.reduceBEq, Int.reduceBNe, Int.reduceToNat, ne_eq, implies_true, bA]
    clear v1 v2 v3 v4 v6 v7 w0 w0' d0 d0' dg
    have hma : a + X.length = m := by omega
    refine symEnd (s0 := 0) (r0 := X.length) ih hk hL0.symm hN hl ho hX hY hG ha hm hb h1 h2 (by omega) (by omega) (by omega) (by omega) (.inl rfl) (.inl rfl) ?_ ?_ ?_ ?_ ?_ ?_ ?_ ?_ ?_ ?_ <;> first | rfl | (rw [hma]; rfl)

theorem sym_i : ∀ k, SymAt k := by
  intro k
  induction k with
  | zero =>
    intro ob o P X Y Q N a m b hk hN hl ho hX hY
    have := List.length_pos_iff.2 hX
    omega
  | succ k ih =>
    intro ob o P X Y Q N a m b hk hN hl ho hX hY sX sY hG ha hm hb
    have h1 := List.length_pos_iff.2 hX
    have h2 := List.length_pos_iff.2 hY
    by_cases c1 : X.length = 1
    · obtain ⟨x, rfl⟩ := List.length_eq_one_iff.1 c1
      exact sym1_i hN hl ho sY hG ha hm hb
    · by_cases c2 : Y.length = 1
      · obtain ⟨y, rfl⟩ := List.length_eq_one_iff.1 c2
        exact sym2_i hN hl ho c1 sX hG ha hm hb
      · exact sym3_i ih hk hN hl ho (by omega) (by omega) sX sY hG ha hm hb

end Go.Proofs.Ytklniadgdbjcpaa.Aw
