/-
  The array of pages: whether it can answer; which mishap waits.
-/
import Derived.Test.YtdgpiobmncohjaaDoorPAs2
set_option linter.unusedSimpArgs false
set_option linter.unusedVariables false
namespace Go.Proofs.YtdgpiobmncohjaaDoor.Aw
open Go.RowKit

variable {ob : List AObj} {N B : Nat} {E : List Ent} {ops : Int} {pl : PV} {pk : Nat} {P : List Mis} {down : Bool}

theorem ready_i (h : NandAt ob N B E ops pl pk P false) {g : Nat} {cap : List PV} (hm : ICall Tryd.prog g cap ob fun r ob' => r = .bool true ∧ ob' = ob) :
    ICall Tryd.prog 38 [.ref N 0, .fn (.func g) [] cap] ob fun r ob' => r = .nili ∧ ob' = ob := by
  refine icall_dr Tryd.func38 comp_nand_Nand_ready ?_
  have hN := h.hN
  simp (config := {maxSteps := 4000000}) only [U_nand_Nand_ready, hN, reduceIte, reduceCtorEq, Nat.reduceEqDiff, Nat.reduceAdd, Int.reduceLT, Int.reduceLE, Int.reduceNeg, Int.reduceEq, Nat.reduceLT, Nat.reduceSub, Nat.reduceMul, Nat.reduceBEq, Nat.reduceLeDiff, Int.reduceBEq, Int.reduceBNe, Int.reduceToNat, ne_eq, implies_true, bA]
  refine callM hm ?_
  rintro r ob' ⟨rfl, rfl⟩
  simp (config := {maxSteps := 4000000}) only [U_nand_Nand_ready, hN, reduceIte, reduceCtorEq, Nat.reduceEqDiff, Nat.reduceAdd, Int.reduceLT, Int.reduceLE, Int.reduceNeg, Int.reduceEq, Nat.reduceLT, Nat.reduceSub, Nat.reduceMul, Nat.reduceBEq, Nat.reduceLeDiff, Int.reduceBEq, Int.reduceBNe, Int.reduceToNat, ne_eq, implies_true, bA]
  exact ⟨_, rfl, rfl⟩
theorem progc_i (h : NandAt ob N B E ops pl pk P down) {c1 c2 c3 : Nat} {pg : Nat} {s : List UInt8} (h1 : ob[c1]? = some (.box [.ref N 0])) (h2 : ob[c2]? = some (.box [.int .i64 (pg : Int)])) (h3 : ob[c3]? = some (.box [.str s])) (hp : pg < 128) (hs : s.length ≤ 128) :
    ICall Tryd.prog 39 [.ref c1 0, .ref c2 0, .ref c3 0] ob fun r ob' => r = .bool true ∧ ob' = ob := by
  refine icall_dr Tryd.func39 comp_nand_Nand_program_c1 ?_
  have hr := page_r h (pg : Int)
  have e : (decide ((0 : Int) ≤ (pg : Int)) && decide ((pg : Int) < 128)) = true := by simp; omega
  rw [e] at hr
  have d : decide ((s.length : Int) ≤ 128) = true := by simp; omega
  simp (config := {maxSteps := 4000000}) only [U_nand_Nand_program_c1, h1, h2, reduceIte, reduceCtorEq, Nat.reduceEqDiff, Nat.reduceAdd, Int.reduceLT, Int.reduceLE, Int.reduceNeg, Int.reduceEq, Nat.reduceLT, Nat.reduceSub, Nat.reduceMul, Nat.reduceBEq, Nat.reduceLeDiff, Int.reduceBEq, Int.reduceBNe, Int.reduceToNat, ne_eq, implies_true, bA]
  refine callR hr ?_
  simp (config := {maxSteps := 4000000}) only [U_nand_Nand_program_c1, h3, d, reduceIte, reduceCtorEq, Nat.reduceEqDiff, Nat.reduceAdd, Int.reduceLT, Int.reduceLE, Int.reduceNeg, Int.reduceEq, Nat.reduceLT, Nat.reduceSub, Nat.reduceMul, Nat.reduceBEq, Nat.reduceLeDiff, Int.reduceBEq, Int.reduceBNe, Int.reduceToNat, ne_eq, implies_true, bA]
  exact ⟨_, rfl, rfl⟩
theorem readc_i (h : NandAt ob N B E ops pl pk P down) {c1 c2 : Nat} {pg : Nat} (h1 : ob[c1]? = some (.box [.ref N 0])) (h2 : ob[c2]? = some (.box [.int .i64 (pg : Int)])) (hp : pg < 128) :
    ICall Tryd.prog 47 [.ref c1 0, .ref c2 0] ob fun r ob' => r = .bool true ∧ ob' = ob := by
  refine icall_dr Tryd.func47 comp_nand_Nand_read_c1 ?_
  have hr := page_r h (pg : Int)
  have e : (decide ((0 : Int) ≤ (pg : Int)) && decide ((pg : Int) < 128)) = true := by simp; omega
  rw [e] at hr
  simp (config := {maxSteps := 4000000}) only [U_nand_Nand_read_c1, h1, h2, reduceIte, reduceCtorEq, Nat.reduceEqDiff, Nat.reduceAdd, Int.reduceLT, Int.reduceLE, Int.reduceNeg, Int.reduceEq, Nat.reduceLT, Nat.reduceSub, Nat.reduceMul, Nat.reduceBEq, Nat.reduceLeDiff, Int.reduceBEq, Int.reduceBNe, Int.reduceToNat, ne_eq, implies_true, bA]
  refine callR hr ?_
  exact ⟨_, rfl, rfl⟩
theorem block_r (h : NandAt ob N B E ops pl pk P down) {b : Nat} (hb : b < 16) : RCall Tryd.prog 29 [.ref N 0, .int .i64 (b : Int)] ob (.bool true) := by
  refine RCall.of (K := fun r ob' => r = .bool true ∧ ob' = ob) ?_ (fun r ob' h => ⟨h.1, [], by rw [h.2]; simp⟩) rfl
  refine icall_dr Tryd.func29 comp_nand_Nand_block ?_
  have hN := h.hN
  have d1 : decide ((0 : Int) ≤ (b : Int)) = true := by simp
  have d2 : decide ((b : Int) < 16) = true := by simp; omega
  simp (config := {maxSteps := 4000000}) only [U_nand_Nand_block, hN, d1, d2, reduceIte, reduceCtorEq, Nat.reduceEqDiff, Nat.reduceAdd, Int.reduceLT, Int.reduceLE, Int.reduceNeg, Int.reduceEq, Nat.reduceLT, Nat.reduceSub, Nat.reduceMul, Nat.reduceBEq, Nat.reduceLeDiff, Int.reduceBEq, Int.reduceBNe, Int.reduceToNat, ne_eq, implies_true, bA]
  exact ⟨_, rfl, rfl⟩
theorem erasec_i (h : NandAt ob N B E ops pl pk P down) {c1 c2 : Nat} {b : Nat} (h1 : ob[c1]? = some (.box [.ref N 0])) (h2 : ob[c2]? = some (.box [.int .i64 (b : Int)])) (hb : b < 16) :
    ICall Tryd.prog 49 [.ref c1 0, .ref c2 0] ob fun r ob' => r = .bool true ∧ ob' = ob := by
  refine icall_dr Tryd.func49 comp_nand_Nand_erase_c1 ?_
  simp (config := {maxSteps := 4000000}) only [U_nand_Nand_erase_c1, h1, h2, reduceIte, reduceCtorEq, Nat.reduceEqDiff, Nat.reduceAdd, Int.reduceLT, Int.reduceLE, Int.reduceNeg, Int.reduceEq, Nat.reduceLT, Nat.reduceSub, Nat.reduceMul, Nat.reduceBEq, Nat.reduceLeDiff, Int.reduceBEq, Int.reduceBNe, Int.reduceToNat, ne_eq, implies_true, bA]
  refine callR (block_r h hb) ?_
  exact ⟨_, rfl, rfl⟩
/-- A box of the array's. -/
def boxN (B : Nat) (ops : Int) (pl : PV) (down : Bool) : AObj := .box [.int .i64 16, .int .i64 8, .bsl B 0 16, .int .i64 ops, pl, .bool down]
theorem countc_i {c : Nat} {m : Mis} (hc : ob[c]? = some (.box [.ref N 0])) (hN : ob[N]? = some (.box [.int .i64 16, .int .i64 8, .bsl B 0 16, .int .i64 ops, pl, .bool down])) :
    ICall Tryd.prog 56 [.agg (rowM m), .ref c 0] ob fun r ob' => r = .bool (m.at_ == ops) ∧ ∃ ex, ob' = ob ++ ex := by
  refine icall_dr Tryd.func56 comp_nand_Nand_count_c1 ?_
  have hc2 : ∀ b, (ob ++ [b])[c]? = some (.box [.ref N 0]) := fun b => apN hc [b]
  have hN2 : ∀ b, (ob ++ [b])[N]? = some (.box [.int .i64 16, .int .i64 8, .bsl B 0 16, .int .i64 ops, pl, .bool down]) := fun b => apN hN [b]
  have g1 : ∀ b, (ob ++ [b])[ob.length]? = some b := fun b => by simp
  simp (config := {maxSteps := 4000000}) only [U_nand_Nand_count_c1, rowM, hc2, hN2, g1, reduceIte, reduceCtorEq, Nat.reduceEqDiff, Nat.reduceAdd, Int.reduceLT, Int.reduceLE, Int.reduceNeg, Int.reduceEq, Nat.reduceLT, Nat.reduceSub, Nat.reduceMul, Nat.reduceBEq, Nat.reduceLeDiff, Int.reduceBEq, Int.reduceBNe, Int.reduceToNat, ne_eq, implies_true, bA]
  exact ⟨_, rfl, rfl, _, rfl⟩
/-- The place of the mishap that waits for an operation: none: -1. -/
def IdxM (P : List Mis) (k : Int) (r : PV) : Prop := (∃ i m, P[i]? = some m ∧ P.find? (fun x => x.at_ == k) = some m ∧ r = .int .i64 ((i : Nat) : Int)) ∨ (P.find? (fun x => x.at_ == k) = none ∧ r = .int .i64 (-1))
theorem lt_ofM {P : List Mis} {i : Nat} {a : Mis} (h : P[i]? = some a) : i < P.length := (List.getElem?_eq_some_iff.1 h).1
theorem find_at {P : List Mis} {k : Int} {i : Nat} {m : Mis} (h : P[i]? = some m) (hm : (m.at_ == k) = true) (hn : ∀ x ∈ P.take i, (x.at_ == k) = false) : P.find? (fun x => x.at_ == k) = some m := by
  have hi := lt_ofM h
  rw [← List.take_append_drop i P, List.find?_append, List.find?_eq_none.2 (by simpa using hn), List.drop_eq_getElem_cons hi]
  have : P[i] = m := by rw [List.getElem?_eq_getElem hi] at h; exact Option.some.inj h
  simp [this, hm]
theorem idx_i {c : Nat} (hc : ob[c]? = some (.box [.ref N 0])) (hN : ob[N]? = some (.box [.int .i64 16, .int .i64 8, .bsl B 0 16, .int .i64 ops, pl, .bool down])) (hp : PlAt ob pl pk P) (hP : P.length ≤ 1000000) :
    ICall Tryd.prog 55 [pl, .fn (.func 56) [] [.ref c 0]] ob fun r ob' => IdxM P ops r ∧ ∃ ex, ob' = ob ++ ex := by
  refine icall_dr Tryd.func55 comp_slices_IndexFunc_api_Mishap ?_
  rcases hp with ⟨rfl, hp2⟩ | ⟨hpl, hp2⟩
  · rw [hp2]
    simp (config := {maxSteps := 4000000}) only [U_slices_IndexFunc_api_Mishap, reduceIte, reduceCtorEq, Nat.reduceEqDiff, Nat.reduceAdd, Int.reduceLT, Int.reduceLE, Int.reduceNeg, Int.reduceEq, Nat.reduceLT, Nat.reduceSub, Nat.reduceMul, Nat.reduceBEq, Nat.reduceLeDiff, Int.reduceBEq, Int.reduceBNe, Int.reduceToNat, ne_eq, implies_true, bA]
    refine loopF (fun _ : Unit => ⟨ofL [(0, .nils), (1, .fn (.func 56) [] [.ref c 0]), (7, .int .i64 0), (8, .int .i64 0)], ob⟩) (fun _ => True) (fun _ => 0) () ?_ trivial ?_
    · simp (config := {maxSteps := 4000000}) only [U_slices_IndexFunc_api_Mishap, reduceIte, reduceCtorEq, Nat.reduceEqDiff, Nat.reduceAdd, Int.reduceLT, Int.reduceLE, Int.reduceNeg, Int.reduceEq, Nat.reduceLT, Nat.reduceSub, Nat.reduceMul, Nat.reduceBEq, Nat.reduceLeDiff, Int.reduceBEq, Int.reduceBNe, Int.reduceToNat, ne_eq, implies_true, bA]
      all_goals rfl
    · rintro ⟨⟩ -
      simp (config := {maxSteps := 4000000}) only [U_slices_IndexFunc_api_Mishap, reduceIte, reduceCtorEq, Nat.reduceEqDiff, Nat.reduceAdd, Int.reduceLT, Int.reduceLE, Int.reduceNeg, Int.reduceEq, Nat.reduceLT, Nat.reduceSub, Nat.reduceMul, Nat.reduceBEq, Nat.reduceLeDiff, Int.reduceBEq, Int.reduceBNe, Int.reduceToNat, ne_eq, implies_true, bA]
      exact ⟨_, rfl, .inr ⟨rfl, rfl⟩, [], by simp⟩
  · rw [hpl]
    rw [hpl] at hN
    have hr : rowsO (some (lM P)) 0 P.length = some (P.map rowM) := rowsO_all (by simp)
    simp (config := {maxSteps := 4000000}) only [U_slices_IndexFunc_api_Mishap, hp2, hr, reduceIte, reduceCtorEq, Nat.reduceEqDiff, Nat.reduceAdd, Int.reduceLT, Int.reduceLE, Int.reduceNeg, Int.reduceEq, Nat.reduceLT, Nat.reduceSub, Nat.reduceMul, Nat.reduceBEq, Nat.reduceLeDiff, Int.reduceBEq, Int.reduceBNe, Int.reduceToNat, ne_eq, implies_true, bA]
    refine loopF (fun s : Nat × List AObj => ⟨ofL [(0, .osl pk 0 P.length), (1, .fn (.func 56) [] [.ref c 0]), (7, .int .i64 (P.length : Int)), (8, .int .i64 (s.1 : Int))], s.2⟩)
      (fun s => s.1 ≤ P.length ∧ (∃ ex, s.2 = ob ++ ex) ∧ ∀ x ∈ P.take s.1, (x.at_ == ops) = false) (fun s => P.length - s.1) (0, ob) ?_ ⟨Nat.zero_le _, ⟨[], by simp⟩, fun x hx => by simp at hx⟩ ?_
    · simp (config := {maxSteps := 4000000}) only [U_slices_IndexFunc_api_Mishap, reduceIte, reduceCtorEq, Nat.reduceEqDiff, Nat.reduceAdd, Int.reduceLT, Int.reduceLE, Int.reduceNeg, Int.reduceEq, Nat.reduceLT, Nat.reduceSub, Nat.reduceMul, Nat.reduceBEq, Nat.reduceLeDiff, Int.reduceBEq, Int.reduceBNe, Int.reduceToNat, ne_eq, implies_true, bA]
      all_goals rfl
    · rintro ⟨i, OB⟩ ⟨hi, ⟨ex, hex⟩, hn⟩
      simp only at hi hex hn ⊢
      subst hex
      by_cases hlt : i < P.length
      · have d : decide ((i : Int) < (P.length : Int)) = true := by simpa using hlt
        have w1 : IntKind.i64.wrap ((i : Int) + 1) = ((i + 1 : Nat) : Int) := by rw [wrapI (by omega) (by omega)]; omega
        have p2 := apN hp2 ex
        have i1 := islO_map (g := rowM) (l := P) (e := 4) (o := pk) (m := P.length) (k := .i64) rfl hlt
        have i2 := ldL_map (g := rowM) (l := P) (e := 4) (len := P.length) (off := 0) (n := 4) rfl hlt (by simp [rowM])
        have i3 : ((rowM P[i]).drop 0).take 4 = rowM P[i] := by simp [rowM]
        rw [i3] at i2
        simp (config := {maxSteps := 4000000}) only [U_slices_IndexFunc_api_Mishap, d, p2, i1, i2, reduceIte, reduceCtorEq, Nat.reduceEqDiff, Nat.reduceAdd, Int.reduceLT, Int.reduceLE, Int.reduceNeg, Int.reduceEq, Nat.reduceLT, Nat.reduceSub, Nat.reduceMul, Nat.reduceBEq, Nat.reduceLeDiff, Int.reduceBEq, Int.reduceBNe, Int.reduceToNat, ne_eq, implies_true, bA]
        refine callM (countc_i (m := P[i]) (apN hc ex) (apN hN ex)) ?_
        rintro r ob' ⟨rfl, ex2, rfl⟩
        cases hm : (P[i].at_ == ops) with
        | true =>
          simp (config := {maxSteps := 4000000}) only [U_slices_IndexFunc_api_Mishap, reduceIte, reduceCtorEq, Nat.reduceEqDiff, Nat.reduceAdd, Int.reduceLT, Int.reduceLE, Int.reduceNeg, Int.reduceEq, Nat.reduceLT, Nat.reduceSub, Nat.reduceMul, Nat.reduceBEq, Nat.reduceLeDiff, Int.reduceBEq, Int.reduceBNe, Int.reduceToNat, ne_eq, implies_true, bA]
          have hg := List.getElem?_eq_getElem hlt
          exact ⟨_, rfl, .inl ⟨i, P[i], hg, find_at hg hm hn, rfl⟩, ex ++ ex2, by simp⟩
        | false =>
          simp (config := {maxSteps := 4000000}) only [U_slices_IndexFunc_api_Mishap, w1, reduceIte, reduceCtorEq, Nat.reduceEqDiff, Nat.reduceAdd, Int.reduceLT, Int.reduceLE, Int.reduceNeg, Int.reduceEq, Nat.reduceLT, Nat.reduceSub, Nat.reduceMul, Nat.reduceBEq, Nat.reduceLeDiff, Int.reduceBEq, Int.reduceBNe, Int.reduceToNat, ne_eq, implies_true, bA]
          refine ⟨(i + 1, ob ++ (ex ++ ex2)), by simp, ⟨hlt, ⟨_, rfl⟩, fun x hx => ?_⟩, by simp only; omega⟩
          simp only at hx
          rw [List.take_succ_eq_append_getElem hlt, List.mem_append, List.mem_singleton] at hx
          rcases hx with hx | rfl
          · exact hn x hx
          · exact hm
      · have d : decide ((i : Int) < (P.length : Int)) = false := by simpa using hlt
        rw [List.take_of_length_le (by omega)] at hn
        simp (config := {maxSteps := 4000000}) only [U_slices_IndexFunc_api_Mishap, d, reduceIte, reduceCtorEq, Nat.reduceEqDiff, Nat.reduceAdd, Int.reduceLT, Int.reduceLE, Int.reduceNeg, Int.reduceEq, Nat.reduceLT, Nat.reduceSub, Nat.reduceMul, Nat.reduceBEq, Nat.reduceLeDiff, Int.reduceBEq, Int.reduceBNe, Int.reduceToNat, ne_eq, implies_true, bA]
        exact ⟨_, rfl, .inr ⟨List.find?_eq_none.2 (by simpa using hn), rfl⟩, ex, rfl⟩
/-- The mishap that waits for an operation. -/
def cM (P : List Mis) (k : Int) : Mis := (P.find? fun x => x.at_ == k).getD zeroM
theorem count_i (h : NandAt ob N B E ops pl pk P down) : ICall Tryd.prog 41 [.ref N 0] ob fun r ob' => r = .agg (rowM (cM P (ops + 1))) ∧ ∃ ex, ob' = ob.set N (boxN B (ops + 1) pl down) ++ ex := by
  refine icall_dr Tryd.func41 comp_nand_Nand_count ?_
  have hN := h.hN
  have h0 := h.ops0
  have h1 := h.ops1
  have hlt := lt_ofN hN
  have w1 : IntKind.i64.wrap (ops + 1) = ops + 1 := wrapI (by omega) (by omega)
  have hN2 : ∀ l, (ob ++ l)[N]? = some (.box [.int .i64 16, .int .i64 8, .bsl B 0 16, .int .i64 ops, pl, .bool down]) := fun l => apN hN l
  have g0 : ∀ l, (ob ++ l)[ob.length]? = l[0]? := fun l => by rw [List.getElem?_append_right (Nat.le_refl _)]; simp
  have g1 : ∀ l, (ob ++ l)[ob.length + 1]? = l[1]? := fun l => by rw [List.getElem?_append_right (by omega)]; simp
  have s1 : ∀ (l : List AObj) c, (ob ++ l).set N c = ob.set N c ++ l := fun l c => by rw [List.set_append_left _ _ hlt]
  have q0 : ∀ c l, (ob.set N c ++ l)[ob.length]? = l[0]? := fun c l => by rw [List.getElem?_append_right (by simp)]; simp
  have q1 : ∀ c l, (ob.set N c ++ l)[ob.length + 1]? = l[1]? := fun c l => by rw [List.getElem?_append_right (by simp)]; simp
  have q2 : ∀ c l, (ob.set N c ++ l)[N]? = some c := fun c l => by rw [List.getElem?_append_left (by simpa using hlt)]; exact set_get hN
  have s2 : ∀ c (l : List AObj) x, (ob.set N c ++ l).set (ob.length + 1) x = ob.set N c ++ l.set 1 x := fun c l x => by rw [List.set_append_right _ _ (by simp)]; simp
  have hpl2 : ∀ c l, PlAt (ob.set N c ++ l) pl pk P := fun c l => by
    rcases h.plan with g | ⟨g, g'⟩
    · exact .inl g
    · refine .inr ⟨g, apN ?_ l⟩
      rw [List.getElem?_set_ne]; · exact g'
      rintro rfl; rw [hN] at g'; cases g'
  simp (config := {maxSteps := 4000000}) only [U_nand_Nand_count, hN2, g0, g1, s1, w1, q0, q1, q2, reduceIte, reduceCtorEq, Nat.reduceEqDiff, Nat.reduceAdd, Int.reduceLT, Int.reduceLE, Int.reduceNeg, Int.reduceEq, Nat.reduceLT, Nat.reduceSub, Nat.reduceMul, Nat.reduceBEq, Nat.reduceLeDiff, Int.reduceBEq, Int.reduceBNe, Int.reduceToNat, ne_eq, implies_true, bA]
  refine callM (idx_i (q0 _ _) (q2 _ _) (hpl2 _ _) h.pl1) ?_
  rintro r ob' ⟨hI, ex, rfl⟩
  rcases hI with ⟨i, m, hi, hf, rfl⟩ | ⟨hf, rfl⟩
  · have d : decide (((i : Nat) : Int) < 0) = false := by simp
    have hm : cM P (ops + 1) = m := by rw [cM, hf]; rfl
    rw [hm]
    have hlt2 := lt_ofM hi
    have hPi : P[i] = m := by rw [List.getElem?_eq_getElem hlt2] at hi; exact Option.some.inj hi
    have hpl3 : pl = .osl pk 0 P.length := by
      rcases h.plan with ⟨g, _⟩ | ⟨g, _⟩
      · rw [g] at hlt2; simp at hlt2
      · exact g
    have p2 : ∀ c l, (ob.set N c ++ l)[pk]? = some (lM P) := fun c l => by
      rcases hpl2 c l with ⟨g, _⟩ | ⟨_, g⟩
      · rw [g] at hlt2; simp at hlt2
      · exact g
    have i1 := islO_map (g := rowM) (l := P) (e := 4) (o := pk) (m := P.length) (k := .i64) rfl hlt2
    have i2 := ldL_map (g := rowM) (l := P) (e := 4) (len := P.length) (off := 0) (n := 4) rfl hlt2 (by simp [rowM])
    have i3 : ((rowM P[i]).drop 0).take 4 = rowM P[i] := by simp [rowM]
    rw [i3, hPi] at i2
    simp only [List.append_assoc]
    subst hpl3
    simp (config := {maxSteps := 4000000}) only [U_nand_Nand_count, hN2, g0, g1, s1, w1, q0, q1, q2, s2, d, p2, i1, i2, rowM, reduceIte, reduceCtorEq, Nat.reduceEqDiff, Nat.reduceAdd, Int.reduceLT, Int.reduceLE, Int.reduceNeg, Int.reduceEq, Nat.reduceLT, Nat.reduceSub, Nat.reduceMul, Nat.reduceBEq, Nat.reduceLeDiff, Int.reduceBEq, Int.reduceBNe, Int.reduceToNat, ne_eq, implies_true, bA]
    exact ⟨_, rfl, rfl, _, rfl⟩
  · have hm : cM P (ops + 1) = zeroM := by rw [cM, hf]; rfl
    rw [hm]
    simp only [List.append_assoc]
    simp (config := {maxSteps := 4000000}) only [U_nand_Nand_count, hN2, g0, g1, s1, w1, q0, q1, q2, s2, rowM, zeroM, reduceIte, reduceCtorEq, Nat.reduceEqDiff, Nat.reduceAdd, Int.reduceLT, Int.reduceLE, Int.reduceNeg, Int.reduceEq, Nat.reduceLT, Nat.reduceSub, Nat.reduceMul, Nat.reduceBEq, Nat.reduceLeDiff, Int.reduceBEq, Int.reduceBNe, Int.reduceToNat, ne_eq, implies_true, bA]
    exact ⟨_, rfl, rfl, _, rfl⟩

end Go.Proofs.YtdgpiobmncohjaaDoor.Aw
