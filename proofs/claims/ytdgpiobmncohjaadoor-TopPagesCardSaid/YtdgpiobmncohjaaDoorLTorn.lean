/-
  A page with which the power is lost, as a contract: the statement returns true.
-/
import Derived.Test.YtdgpiobmncohjaaDoorPNand5
import Derived.Test.YtdgpiobmncohjaaDoorPPage3
import Derived.Test.YtdgpiobmncohjaaDoorCodeT
set_option linter.unusedSimpArgs false
set_option linter.unusedVariables false
namespace Go.Proofs.YtdgpiobmncohjaaDoor.Aw
open Go.RowKit

theorem writeS_yes {p : Pg} (h : mayB p = true) : writeS p = (sealS (bodyS p), 0) := by rw [writeS, if_pos h]
theorem writeS_no {p : Pg} (h : mayB p = false) : writeS p = ([], 1) := by rw [writeS, if_neg (by rw [h]; simp)]
theorem may_w {p : Pg} (h : (writeS p).2 = 0) : mayB p = true := by
  cases hm : mayB p with
  | true => rfl
  | false => rw [writeS_no hm] at h; exact absurd h (by decide)
theorem bl0 : blK[0]? = some zeroK := by rfl
theorem cM_nil (k : Int) : cM [] k = zeroM := rfl
theorem pageT_0 (s : List UInt8) : pageT zeroM s = s := by simp [pageT, zeroM]
theorem WrapAt.zero {ob : List AObj} {r : PV} (h : WrapAt ob 0 r) : r = .nili := by
  rcases h with ⟨_, h⟩ | ⟨h, _⟩
  · exact h
  · exact absurd rfl h
theorem fine_spec : PCall Tryd.prog 6 [] (.bool true) := by
  refine pcall_dr Tryd.func6 comp_top_fine ?_
  obtain ⟨p, hp⟩ : ∃ p : Pg, (⟨1, 0, 3, 0, [97]⟩ : Pg) = p := ⟨_, rfl⟩
  have hpP : PV.agg [.int .i64 1, .int .i64 0, .int .i64 3, .int .i64 0, .str [97]] = pP p := by rw [← hp]; rfl
  have hm : mayB p = true := by rw [← hp]; decide
  have hw := writeS_yes hm
  have hr := read_write p hm
  have hl := write_len p
  rw [hw] at hl
  simp only at hl
  obtain ⟨S, hS⟩ : ∃ S, sealS (bodyS p) = S := ⟨_, rfl⟩
  rw [hS] at hw hr hl
  simp (config := {maxSteps := 4000000}) only [U_top_fine, reduceIte, reduceCtorEq, Nat.reduceEqDiff, Nat.reduceAdd, Int.reduceLT, Int.reduceLE, Int.reduceNeg, Int.reduceEq, Nat.reduceLT, Nat.reduceSub, Nat.reduceMul, Nat.reduceBEq, Nat.reduceLeDiff, Int.reduceBEq, Int.reduceBNe, Int.reduceToNat, ne_eq, implies_true, bA]
  refine callI plain_spec ?_
  simp (config := {maxSteps := 4000000}) only [U_top_fine, reduceIte, reduceCtorEq, Nat.reduceEqDiff, Nat.reduceAdd, Int.reduceLT, Int.reduceLE, Int.reduceNeg, Int.reduceEq, Nat.reduceLT, Nat.reduceSub, Nat.reduceMul, Nat.reduceBEq, Nat.reduceLeDiff, Int.reduceBEq, Int.reduceBNe, Int.reduceToNat, ne_eq, implies_true, bA]
  refine callM (New_i []) ?_
  rintro r o1 ⟨N, rfl, h1, _⟩
  simp (config := {maxSteps := 4000000}) only [U_top_fine, reduceIte, reduceCtorEq, Nat.reduceEqDiff, Nat.reduceAdd, Int.reduceLT, Int.reduceLE, Int.reduceNeg, Int.reduceEq, Nat.reduceLT, Nat.reduceSub, Nat.reduceMul, Nat.reduceBEq, Nat.reduceLeDiff, Int.reduceBEq, Int.reduceBNe, Int.reduceToNat, ne_eq, implies_true, bA]
  rw [hpP]
  refine callI (write_spec p (by rw [← hp]; decide)) ?_
  rw [hw]
  simp (config := {maxSteps := 4000000}) only [U_top_fine, reduceIte, reduceCtorEq, Nat.reduceEqDiff, Nat.reduceAdd, Int.reduceLT, Int.reduceLE, Int.reduceNeg, Int.reduceEq, Nat.reduceLT, Nat.reduceSub, Nat.reduceMul, Nat.reduceBEq, Nat.reduceLeDiff, Int.reduceBEq, Int.reduceBNe, Int.reduceToNat, ne_eq, implies_true, bA]
  refine callM (Program_i (b := 0) (k := 0) h1 (by omega) bl0 (by omega) rfl rfl (by omega) (by rw [cM_nil]; simp [zeroM]) rfl) ?_
  rintro r o2 ⟨h2, _, hw2⟩
  rw [cM_nil] at h2 hw2
  have := hw2.zero; subst this
  rw [pageT_0] at h2
  simp only [zeroM, zeroK, decide_false, List.nil_append, show ((0 : Int) = 2) = False by simp, show ((0 : Int) = 1) = False by simp] at h2
  simp (config := {maxSteps := 4000000}) only [U_top_fine, reduceIte, reduceCtorEq, Nat.reduceEqDiff, Nat.reduceAdd, Int.reduceLT, Int.reduceLE, Int.reduceNeg, Int.reduceEq, Nat.reduceLT, Nat.reduceSub, Nat.reduceMul, Nat.reduceBEq, Nat.reduceLeDiff, Int.reduceBEq, Int.reduceBNe, Int.reduceToNat, ne_eq, implies_true, bA]
  refine callM (Read_i (b := 0) (k := 0) h2 (bk := ⟨[S], 0, false⟩) (by rfl) (by omega) rfl) ?_
  rintro r o3 ⟨r2, rfl, h3, _, hw3⟩
  have hw3' : WrapAt o3 0 r2 := by simpa using hw3
  have := hw3'.zero; subst this
  simp (config := {maxSteps := 4000000}) only [U_top_fine, reduceIte, reduceCtorEq, Nat.reduceEqDiff, Nat.reduceAdd, Int.reduceLT, Int.reduceLE, Int.reduceNeg, Int.reduceEq, Nat.reduceLT, Nat.reduceSub, Nat.reduceMul, Nat.reduceBEq, Nat.reduceLeDiff, Int.reduceBEq, Int.reduceBNe, Int.reduceToNat, ne_eq, implies_true, bA]
  refine callI (read_spec S (by omega)) ?_
  rw [hr, ← hp]
  have g0 : ∀ l : List AObj, (o3 ++ l)[o3.length]? = l[0]? := fun l => by rw [List.getElem?_append_right (Nat.le_refl _)]; simp
  have z0 : ∀ (l : List AObj) a, (o3 ++ l).set o3.length a = o3 ++ l.set 0 a := fun l a => by rw [List.set_append_right _ _ (Nat.le_refl _)]; simp
  simp (config := {maxSteps := 4000000}) only [U_top_fine, rowP, g0, z0, beq_self_eq_true, reduceIte, reduceCtorEq, Nat.reduceEqDiff, Nat.reduceAdd, Int.reduceLT, Int.reduceLE, Int.reduceNeg, Int.reduceEq, Nat.reduceLT, Nat.reduceSub, Nat.reduceMul, Nat.reduceBEq, Nat.reduceLeDiff, Int.reduceBEq, Int.reduceBNe, Int.reduceToNat, ne_eq, implies_true, bA]

theorem NandS.put {ob : List AObj} {N : Nat} {bl : List Bk} {ops : Int} {P : List Mis} {down : Bool} (h : NandS ob N bl ops P down) {i : Nat} {c c' : List PV} (hi : ob[i]? = some (.box c)) (h6 : c.length ≠ 6) (h48 : c.length ≠ 48) : NandS (ob.set i (.box c')) N bl ops P down := by
  obtain ⟨B, E, pl, pk, h1, h2⟩ := h
  have nN : i ≠ N := by rintro rfl; rw [h1.hN] at hi; injection hi with hi; injection hi with hi; rw [← hi] at h6; exact h6 rfl
  have nB : i ≠ B := by rintro rfl; rw [h1.hB] at hi; injection hi with hi; injection hi with hi; rw [← hi, flat_len3, h1.len] at h48; exact h48 rfl
  refine ⟨B, E, pl, pk, ⟨?_, ?_, h1.len, fun f hf => ?_, ?_, h1.inj, h1.ops0, h1.ops1, h1.pl1⟩, h2⟩
  · rw [List.getElem?_set_ne nN]; exact h1.hN
  · rw [List.getElem?_set_ne nB]; exact h1.hB
  · rcases h1.pgs f hf with y | ⟨y1, y2⟩
    · exact .inl y
    · exact .inr ⟨y1, by rw [List.getElem?_set_ne (ne_kind hi y2)]; exact y2⟩
  · rcases h1.plan with y | ⟨y1, y2⟩
    · exact .inl y
    · exact .inr ⟨y1, by rw [List.getElem?_set_ne (ne_kind hi y2)]; exact y2⟩
theorem torn_law (a b : Pg) (m : Mis) (ha : a.bo.length ≤ 9223372036854775807) (hb : b.bo.length ≤ 9223372036854775807) (hm : m.jk.length ≤ 9223372036854775807) :
    PCall Tryd.prog 3 [pP a, pP b, .agg (rowM m)] (.bool true) := by
  refine pcall_dr Tryd.func3 comp_top_TopTorn ?_
  simp (config := {maxSteps := 4000000}) only [U_top_TopTorn, rowP, rowM, reduceIte, reduceCtorEq, Nat.reduceEqDiff, Nat.reduceAdd, Int.reduceLT, Int.reduceLE, Int.reduceNeg, Int.reduceEq, Nat.reduceLT, Nat.reduceSub, Nat.reduceMul, Nat.reduceBEq, Nat.reduceLeDiff, Int.reduceBEq, Int.reduceBNe, Int.reduceToNat, ne_eq, implies_true, bA]
  refine callI (write_spec a ha) ?_
  simp (config := {maxSteps := 4000000}) only [U_top_TopTorn, rowP, rowM, reduceIte, reduceCtorEq, Nat.reduceEqDiff, Nat.reduceAdd, Int.reduceLT, Int.reduceLE, Int.reduceNeg, Int.reduceEq, Nat.reduceLT, Nat.reduceSub, Nat.reduceMul, Nat.reduceBEq, Nat.reduceLeDiff, Int.reduceBEq, Int.reduceBNe, Int.reduceToNat, ne_eq, implies_true, bA]
  refine callI (write_spec b hb) ?_
  cases hma : mayB a with
  | false =>
    rw [writeS_no hma]
    simp (config := {maxSteps := 4000000}) only [U_top_TopTorn, rowP, rowM, reduceIte, reduceCtorEq, Nat.reduceEqDiff, Nat.reduceAdd, Int.reduceLT, Int.reduceLE, Int.reduceNeg, Int.reduceEq, Nat.reduceLT, Nat.reduceSub, Nat.reduceMul, Nat.reduceBEq, Nat.reduceLeDiff, Int.reduceBEq, Int.reduceBNe, Int.reduceToNat, ne_eq, implies_true, bA]
    refine callI fine_spec ?_
    simp (config := {maxSteps := 4000000}) only [U_top_TopTorn, reduceIte, reduceCtorEq, Nat.reduceEqDiff, Nat.reduceAdd, Int.reduceLT, Int.reduceLE, Int.reduceNeg, Int.reduceEq, Nat.reduceLT, Nat.reduceSub, Nat.reduceMul, Nat.reduceBEq, Nat.reduceLeDiff, Int.reduceBEq, Int.reduceBNe, Int.reduceToNat, ne_eq, implies_true, bA]
  | true =>
    have hwa := writeS_yes hma
    have hra := read_write a hma
    have hla := write_len a
    rw [hwa] at hla ⊢
    simp only at hla
    obtain ⟨Sa, hSa⟩ : ∃ S, sealS (bodyS a) = S := ⟨_, rfl⟩
    rw [hSa] at hwa hra hla ⊢
    cases hmb : mayB b with
    | false =>
      rw [writeS_no hmb]
      simp (config := {maxSteps := 4000000}) only [U_top_TopTorn, rowP, rowM, reduceIte, reduceCtorEq, Nat.reduceEqDiff, Nat.reduceAdd, Int.reduceLT, Int.reduceLE, Int.reduceNeg, Int.reduceEq, Nat.reduceLT, Nat.reduceSub, Nat.reduceMul, Nat.reduceBEq, Nat.reduceLeDiff, Int.reduceBEq, Int.reduceBNe, Int.reduceToNat, ne_eq, implies_true, bA]
      refine callI fine_spec ?_
      simp (config := {maxSteps := 4000000}) only [U_top_TopTorn, reduceIte, reduceCtorEq, Nat.reduceEqDiff, Nat.reduceAdd, Int.reduceLT, Int.reduceLE, Int.reduceNeg, Int.reduceEq, Nat.reduceLT, Nat.reduceSub, Nat.reduceMul, Nat.reduceBEq, Nat.reduceLeDiff, Int.reduceBEq, Int.reduceBNe, Int.reduceToNat, ne_eq, implies_true, bA]
    | true =>
      have hwb := writeS_yes hmb
      have hrb := read_write b hmb
      have hlb := write_len b
      rw [hwb] at hlb ⊢
      simp only at hlb
      obtain ⟨Sb, hSb⟩ : ∃ S, sealS (bodyS b) = S := ⟨_, rfl⟩
      rw [hSb] at hwb hrb hlb ⊢
      by_cases hj : 500 < m.jk.length
      · have d : decide ((500 : Int) < (m.jk.length : Int)) = true := by simp; omega
        simp (config := {maxSteps := 4000000}) only [U_top_TopTorn, rowP, rowM, d, reduceIte, reduceCtorEq, Nat.reduceEqDiff, Nat.reduceAdd, Int.reduceLT, Int.reduceLE, Int.reduceNeg, Int.reduceEq, Nat.reduceLT, Nat.reduceSub, Nat.reduceMul, Nat.reduceBEq, Nat.reduceLeDiff, Int.reduceBEq, Int.reduceBNe, Int.reduceToNat, ne_eq, implies_true, bA]
        refine callI fine_spec ?_
        simp (config := {maxSteps := 4000000}) only [U_top_TopTorn, reduceIte, reduceCtorEq, Nat.reduceEqDiff, Nat.reduceAdd, Int.reduceLT, Int.reduceLE, Int.reduceNeg, Int.reduceEq, Nat.reduceLT, Nat.reduceSub, Nat.reduceMul, Nat.reduceBEq, Nat.reduceLeDiff, Int.reduceBEq, Int.reduceBNe, Int.reduceToNat, ne_eq, implies_true, bA]
      · have d : decide ((500 : Int) < (m.jk.length : Int)) = false := by simp; omega
        simp (config := {maxSteps := 4000000}) only [U_top_TopTorn, rowP, rowM, d, reduceIte, reduceCtorEq, Nat.reduceEqDiff, Nat.reduceAdd, Int.reduceLT, Int.reduceLE, Int.reduceNeg, Int.reduceEq, Nat.reduceLT, Nat.reduceSub, Nat.reduceMul, Nat.reduceBEq, Nat.reduceLeDiff, Int.reduceBEq, Int.reduceBNe, Int.reduceToNat, ne_eq, implies_true, bA]
        refine callI plain_spec ?_
        simp (config := {maxSteps := 4000000}) only [U_top_TopTorn, reduceIte, reduceCtorEq, Nat.reduceEqDiff, Nat.reduceAdd, Int.reduceLT, Int.reduceLE, Int.reduceNeg, Int.reduceEq, Nat.reduceLT, Nat.reduceSub, Nat.reduceMul, Nat.reduceBEq, Nat.reduceLeDiff, Int.reduceBEq, Int.reduceBNe, Int.reduceToNat, ne_eq, implies_true, bA]
        refine callM (New_i _) ?_
        rintro r o1 ⟨N, rfl, h1, K1⟩
        have a1 := K1.2 0 _ (by simp) (by simp) rfl
        have b1 := K1.2 1 _ (by simp) (by simp) rfl
        have m1 := K1.2 2 _ (by simp) (by simp) rfl
        simp (config := {maxSteps := 4000000}) only [U_top_TopTorn, a1, b1, m1, reduceIte, reduceCtorEq, Nat.reduceEqDiff, Nat.reduceAdd, Int.reduceLT, Int.reduceLE, Int.reduceNeg, Int.reduceEq, Nat.reduceLT, Nat.reduceSub, Nat.reduceMul, Nat.reduceBEq, Nat.reduceLeDiff, Int.reduceBEq, Int.reduceBNe, Int.reduceToNat, ne_eq, implies_true, bA]
        refine callM (Program_i (b := 0) (k := 0) h1 (by omega) bl0 (by omega) rfl rfl (by omega) (by rw [cM_nil]; simp [zeroM]) rfl) ?_
        rintro r o2 ⟨h2, K2, hw2⟩
        rw [cM_nil] at h2 hw2
        have := hw2.zero; subst this
        rw [pageT_0] at h2
        simp only [zeroM, zeroK, decide_false, List.nil_append, show ((0 : Int) = 2) = False by simp, show ((0 : Int) = 1) = False by simp] at h2
        have a2 := K2.2 0 _ (by simp) (by simp) a1
        have b2 := K2.2 1 _ (by simp) (by simp) b1
        have m2 := K2.2 2 _ (by simp) (by simp) m1
        have sm : ∀ c, (o2.set 2 c)[2]? = some c := fun c => set_get m2
        simp (config := {maxSteps := 4000000}) only [U_top_TopTorn, m2, sm, List.set_set, reduceIte, reduceCtorEq, Nat.reduceEqDiff, Nat.reduceAdd, Int.reduceLT, Int.reduceLE, Int.reduceNeg, Int.reduceEq, Nat.reduceLT, Nat.reduceSub, Nat.reduceMul, Nat.reduceBEq, Nat.reduceLeDiff, Int.reduceBEq, Int.reduceBNe, Int.reduceToNat, ne_eq, implies_true, bA]
        obtain ⟨m', hm'⟩ : ∃ m' : Mis, (⟨1, 1, m.kp, m.jk⟩ : Mis) = m' := ⟨_, rfl⟩
        have hrm : [[PV.int .i64 1, .int .i64 1, .int .i64 m.kp, .str m.jk]] = [m'].map rowM := by rw [← hm']; rfl
        rw [hrm]
        refine callM (Plan_i (h2.put m2 (by simp) (by simp)) [m'] (by simp) (fun x hx => by simp at hx; rw [hx, ← hm']; simp)) ?_
        rintro r o3 ⟨h3, K3⟩
        have a2' : (o2.set 2 (.box [.int .i64 1, .int .i64 1, .int .i64 m.kp, .str m.jk]))[0]? = _ := (List.getElem?_set_ne (by omega)).trans a2
        have b2' : (o2.set 2 (.box [.int .i64 1, .int .i64 1, .int .i64 m.kp, .str m.jk]))[1]? = _ := (List.getElem?_set_ne (by omega)).trans b2
        have a3 := K3.2 0 _ (by simp) (by simp) a2'
        have b3 := K3.2 1 _ (by simp) (by simp) b2'
        obtain ⟨m'', hm''⟩ : ∃ m'' : Mis, (⟨2, 1, m.kp, m.jk⟩ : Mis) = m'' := ⟨_, rfl⟩
        have hP : [m'].map (shM (0 + 1)) = [m''] := by rw [← hm', ← hm'']; rfl
        rw [hP] at h3
        have hcM : cM [m''] (0 + 1 + 1) = m'' := by rw [← hm'']; rfl
        simp (config := {maxSteps := 4000000}) only [U_top_TopTorn, reduceIte, reduceCtorEq, Nat.reduceEqDiff, Nat.reduceAdd, Int.reduceLT, Int.reduceLE, Int.reduceNeg, Int.reduceEq, Nat.reduceLT, Nat.reduceSub, Nat.reduceMul, Nat.reduceBEq, Nat.reduceLeDiff, Int.reduceBEq, Int.reduceBNe, Int.reduceToNat, ne_eq, implies_true, bA]
        refine callM (Program_i (b := 0) (k := 1) h3 (by omega) (bk := ⟨[Sa], 0, false⟩) (by rfl) (by omega) rfl rfl hlb (by rw [hcM, ← hm'']; simp only; omega) rfl) ?_
        rintro r o4 ⟨h4, K4, hw4⟩
        rw [hcM] at h4 hw4
        have e9 : errT m'' = 9 := by rw [← hm'']; rfl
        rw [e9] at hw4
        obtain ⟨y, hy⟩ : ∃ y, pageT m'' Sb = y := ⟨_, rfl⟩
        have hyl : y.length ≤ 128 := by rw [← hy, ← hm'']; simp [pageT, spoiltS]; omega
        rw [hy] at h4
        have a4 := K4.2 0 _ (by simp) (by simp) a3
        have b4 := K4.2 1 _ (by simp) (by simp) b3
        refine callR (code_r hw4) ?_
        simp (config := {maxSteps := 4000000}) only [U_top_TopTorn, reduceIte, reduceCtorEq, Nat.reduceEqDiff, Nat.reduceAdd, Int.reduceLT, Int.reduceLE, Int.reduceNeg, Int.reduceEq, Nat.reduceLT, Nat.reduceSub, Nat.reduceMul, Nat.reduceBEq, Nat.reduceLeDiff, Int.reduceBEq, Int.reduceBNe, Int.reduceToNat, ne_eq, implies_true, bA]
        refine callM (Up_i h4) ?_
        rintro r o5 ⟨h5, K5⟩
        have a5 := K5.2 0 _ (by simp) (by simp) a4
        have b5 := K5.2 1 _ (by simp) (by simp) b4
        have hbl : ((blK.set 0 ⟨[Sa], 0, false⟩).set 0 ⟨[Sa] ++ [y], 0, decide (m''.kd = 2)⟩)[0]? = some ⟨[Sa, y], 0, decide (m''.kd = 2)⟩ := by rfl
        simp (config := {maxSteps := 4000000}) only [U_top_TopTorn, reduceIte, reduceCtorEq, Nat.reduceEqDiff, Nat.reduceAdd, Int.reduceLT, Int.reduceLE, Int.reduceNeg, Int.reduceEq, Nat.reduceLT, Nat.reduceSub, Nat.reduceMul, Nat.reduceBEq, Nat.reduceLeDiff, Int.reduceBEq, Int.reduceBNe, Int.reduceToNat, ne_eq, implies_true, bA]
        refine callM (Read_i (b := 0) (k := 0) h5 hbl (by omega) rfl) ?_
        rintro r o6 ⟨r6, rfl, h6, K6, hw6⟩
        have hw6' : WrapAt o6 0 r6 := by simpa using hw6
        have := hw6'.zero; subst this
        have a6 := K6.2 0 _ (by simp) (by simp) a5
        have b6 := K6.2 1 _ (by simp) (by simp) b5
        simp only [List.getD_cons_zero]
        simp (config := {maxSteps := 4000000}) only [U_top_TopTorn, reduceIte, reduceCtorEq, Nat.reduceEqDiff, Nat.reduceAdd, Int.reduceLT, Int.reduceLE, Int.reduceNeg, Int.reduceEq, Nat.reduceLT, Nat.reduceSub, Nat.reduceMul, Nat.reduceBEq, Nat.reduceLeDiff, Int.reduceBEq, Int.reduceBNe, Int.reduceToNat, ne_eq, implies_true, bA]
        refine callI (read_spec Sa (by omega)) ?_
        rw [hra]
        have g6 : ∀ l : List AObj, (o6 ++ l)[o6.length]? = l[0]? := fun l => by rw [List.getElem?_append_right (Nat.le_refl _)]; simp
        have z6 : ∀ (l : List AObj) c, (o6 ++ l).set o6.length c = o6 ++ l.set 0 c := fun l c => by rw [List.set_append_right _ _ (Nat.le_refl _)]; simp
        have ga : ∀ l : List AObj, (o6 ++ l)[0]? = _ := fun l => apN a6 l
        simp (config := {maxSteps := 4000000}) only [U_top_TopTorn, rowP, g6, z6, ga, bne_self_eq_false, reduceIte, reduceCtorEq, Nat.reduceEqDiff, Nat.reduceAdd, Int.reduceLT, Int.reduceLE, Int.reduceNeg, Int.reduceEq, Nat.reduceLT, Nat.reduceSub, Nat.reduceMul, Nat.reduceBEq, Nat.reduceLeDiff, Int.reduceBEq, Int.reduceBNe, Int.reduceToNat, ne_eq, implies_true, bA]
        refine callM (Read_i (b := 0) (k := 1) (h6.app _) hbl (by omega) rfl) ?_
        rintro r o7 ⟨r7, rfl, h7, K7, hw7⟩
        have hw7' : WrapAt o7 0 r7 := by simpa using hw7
        have := hw7'.zero; subst this
        have b7 := K7.2 1 _ (by simp) (by simp) (apN b6 _)
        simp only [List.getD_cons_succ, List.getD_cons_zero]
        simp (config := {maxSteps := 4000000}) only [U_top_TopTorn, reduceIte, reduceCtorEq, Nat.reduceEqDiff, Nat.reduceAdd, Int.reduceLT, Int.reduceLE, Int.reduceNeg, Int.reduceEq, Nat.reduceLT, Nat.reduceSub, Nat.reduceMul, Nat.reduceBEq, Nat.reduceLeDiff, Int.reduceBEq, Int.reduceBNe, Int.reduceToNat, ne_eq, implies_true, bA]
        refine callI (read_spec y (by omega)) ?_
        obtain ⟨q, hq⟩ : ∃ q, (readS y).1 = q := ⟨_, rfl⟩
        obtain ⟨hh, hhh⟩ : ∃ h, (readS y).2 = h := ⟨_, rfl⟩
        rw [hq, hhh]
        have g7 : ∀ l : List AObj, (o7 ++ l)[o7.length]? = l[0]? := fun l => by rw [List.getElem?_append_right (Nat.le_refl _)]; simp
        have z7 : ∀ (l : List AObj) c, (o7 ++ l).set o7.length c = o7 ++ l.set 0 c := fun l c => by rw [List.set_append_right _ _ (Nat.le_refl _)]; simp
        have gb : ∀ l : List AObj, (o7 ++ l)[1]? = _ := fun l => apN b7 l
        cases hyt : (y == Sb) with
        | true =>
          have hyb : y = Sb := by simpa using hyt
          rw [hyb, hrb] at hq hhh
          simp only at hq hhh
          subst hq; subst hhh
          simp (config := {maxSteps := 4000000}) only [U_top_TopTorn, rowP, g7, z7, gb, hyt, reduceIte, reduceCtorEq, Nat.reduceEqDiff, Nat.reduceAdd, Int.reduceLT, Int.reduceLE, Int.reduceNeg, Int.reduceEq, Nat.reduceLT, Nat.reduceSub, Nat.reduceMul, Nat.reduceBEq, Nat.reduceLeDiff, Int.reduceBEq, Int.reduceBNe, Int.reduceToNat, ne_eq, implies_true, bA]
          refine callI fine_spec ?_
          simp (config := {maxSteps := 4000000}) only [U_top_TopTorn, rowP, g7, z7, gb, beq_self_eq_true, reduceIte, reduceCtorEq, Nat.reduceEqDiff, Nat.reduceAdd, Int.reduceLT, Int.reduceLE, Int.reduceNeg, Int.reduceEq, Nat.reduceLT, Nat.reduceSub, Nat.reduceMul, Nat.reduceBEq, Nat.reduceLeDiff, Int.reduceBEq, Int.reduceBNe, Int.reduceToNat, ne_eq, implies_true, bA]
        | false =>
          simp (config := {maxSteps := 4000000}) only [U_top_TopTorn, rowP, g7, z7, gb, hyt, reduceIte, reduceCtorEq, Nat.reduceEqDiff, Nat.reduceAdd, Int.reduceLT, Int.reduceLE, Int.reduceNeg, Int.reduceEq, Nat.reduceLT, Nat.reduceSub, Nat.reduceMul, Nat.reduceBEq, Nat.reduceLeDiff, Int.reduceBEq, Int.reduceBNe, Int.reduceToNat, ne_eq, implies_true, bA]
          by_cases h0 : hh = 0
          · have hwr := write_read (s := y) (by rw [hhh]; exact h0)
            rw [hq] at hwr
            have hql : q.bo.length ≤ 100 := (mayB_iff.1 hwr.1).2.2.2.2.2.2.2.2
            refine callI (write_spec q (by omega)) ?_
            rw [hwr.2]
            have d1 : (hh != 0) = false := by simp [h0]
            have d2 : (hh == 0) = true := by simp [h0]
            simp (config := {maxSteps := 4000000}) only [U_top_TopTorn, rowP, g7, z7, gb, reduceIte, reduceCtorEq, Nat.reduceEqDiff, Nat.reduceAdd, Int.reduceLT, Int.reduceLE, Int.reduceNeg, Int.reduceEq, Nat.reduceLT, Nat.reduceSub, Nat.reduceMul, Nat.reduceBEq, Nat.reduceLeDiff, Int.reduceBEq, Int.reduceBNe, Int.reduceToNat, ne_eq, implies_true, bA]
            refine callI fine_spec ?_
            simp (config := {maxSteps := 4000000}) only [U_top_TopTorn, rowP, g7, z7, gb, d1, d2, beq_self_eq_true, reduceIte, reduceCtorEq, Nat.reduceEqDiff, Nat.reduceAdd, Int.reduceLT, Int.reduceLE, Int.reduceNeg, Int.reduceEq, Nat.reduceLT, Nat.reduceSub, Nat.reduceMul, Nat.reduceBEq, Nat.reduceLeDiff, Int.reduceBEq, Int.reduceBNe, Int.reduceToNat, ne_eq, implies_true, bA]
          · have hz := read_bad (s := y) (by rw [hhh]; exact h0)
            rw [hq] at hz
            subst hz
            refine callI (write_spec zeroP (by simp [zeroP])) ?_
            have d1 : (hh != 0) = true := by simp [h0]
            simp (config := {maxSteps := 4000000}) only [U_top_TopTorn, rowP, g7, z7, gb, zeroP, reduceIte, reduceCtorEq, Nat.reduceEqDiff, Nat.reduceAdd, Int.reduceLT, Int.reduceLE, Int.reduceNeg, Int.reduceEq, Nat.reduceLT, Nat.reduceSub, Nat.reduceMul, Nat.reduceBEq, Nat.reduceLeDiff, Int.reduceBEq, Int.reduceBNe, Int.reduceToNat, ne_eq, implies_true, bA]
            refine callI fine_spec ?_
            simp (config := {maxSteps := 4000000}) only [U_top_TopTorn, rowP, g7, z7, gb, d1, beq_self_eq_true, zeroP, reduceIte, reduceCtorEq, Nat.reduceEqDiff, Nat.reduceAdd, Int.reduceLT, Int.reduceLE, Int.reduceNeg, Int.reduceEq, Nat.reduceLT, Nat.reduceSub, Nat.reduceMul, Nat.reduceBEq, Nat.reduceLeDiff, Int.reduceBEq, Int.reduceBNe, Int.reduceToNat, ne_eq, implies_true, bA]

end Go.Proofs.YtdgpiobmncohjaaDoor.Aw
