/-
  ModelCounts: what is charged is counted one by one.
-/
import Derived.Test.YthjnfjgejdlbfaaMMod5
import Derived.Test.YthjnfjgejdlbfaaMMod4
import Derived.Test.YthjnfjgejdlbfaaCodeC
set_option linter.unusedSimpArgs false
set_option linter.unusedVariables false
namespace Go.Proofs.Ythjnfjgejdlbfaa.Aw
open Go.RowKit

theorem bne_same {a : Int} : (a != a) = false := by simp
theorem ld_on {L : List Bool} {j : Nat} {b : Bool} (h : L[j]? = some b) : ldB (some (.box (L.map PV.bool))) j 1 = some [.bool b] := by
  obtain ⟨h1, h2⟩ := List.getElem?_eq_some_iff.1 h
  rw [ldB_boxI (by simp; omega)]
  congr 1
  apply List.ext_getElem?
  intro k
  rw [List.getElem?_take, List.getElem?_drop]
  cases k with
  | zero => simp [h]
  | succ k => simp
theorem st_on {O : List AObj} {o : Nat} {L : List Bool} {j : Nat} {b : Bool} (h : j < L.length) : stB O o (some (.box (L.map PV.bool))) j [.bool b] = some (.bot, O.set o (.box ((L.set j b).map PV.bool))) := by
  rw [stB_box (by simp; omega)]
  congr 4
  rw [setAt, List.map_set, List.set_eq_take_append_cons_drop, if_pos (by simpa using h)]
  simp
theorem ia_on {p j : Nat} (h : j < 40) : iarrV 1 40 (.ref p 0) (.int .i64 (j : Int)) = some (.ref p j) := by
  rw [iarrV_i (by omega) (by omega)]; simp
theorem info_do (S : List Sc) : doV 30 (oneV S) ⟨9, 1, 0, 0, []⟩ = (oneV S, ⟨0, [], 40, (S.length : Int)⟩) := rfl
theorem list_do (S : List Sc) : doV 30 (oneV S) ⟨10, 0, 0, 0, []⟩ = (oneV S, ⟨0, [], 30, (S.length : Int)⟩) := by
  show (oneV S, (⟨0, [], 30, usedV (oneV S)⟩ : Ans)) = _
  simp [oneV, usedV]
theorem do_w30 {ob fp b cap A} (h : Mod ob fp b cap A) (q : Rq) (hq : q.d.length ≤ 1000) {A' : List Spc} {e sz us : Int} {d : List UInt8} (hd : doV cap A q = (A', ⟨e, d, sz, us⟩)) :
    ICall Try.prog 12 [.ref b 0, pQ q] ob fun r ob' => ∃ ids fp', r = repP e d sz us ids ∧ Mod ob' fp' b cap A' ∧ Frame ob fp ob' fp' := by
  refine callM (do_i h q hq) ?_
  rintro r ob' ⟨ids, fp', h1, h2, h3, _, _⟩
  rw [hd] at h1 h2
  exact ⟨ids, fp', h1, h2, h3⟩
theorem Mod.sec40 {ob fp b S} (h : Mod ob fp b 30 (oneV S)) : SecOk 40 S := by
  obtain ⟨m, ck, E, h, _⟩ := h
  exact h.vol.sec ⟨1, 40, S⟩ (by simp [oneV])
theorem Mod.le30 {ob fp b S} (h : Mod ob fp b 30 (oneV S)) : (S.length : Int) ≤ 30 := by
  obtain ⟨m, ck, E, h, _⟩ := h
  have := h.vol.use
  simp [oneV, usedV] at this
  omega

set_option maxHeartbeats 4000000 in
theorem counts_law (l : List Rq) (hl : ∀ q ∈ l, q.d.length ≤ 9223372036854775807) : PCall Try.prog 3 [.slc (l.map rowQ)] (.bool true) := by
  refine pcall_dr Try.func3 comp_law17_ModelCounts ?_
  simp (config := {maxSteps := 4000000}) only [U_law17_ModelCounts, reduceIte, reduceCtorEq, Nat.reduceEqDiff, Nat.reduceAdd, Int.reduceLT, Int.reduceLE, Int.reduceNeg, Int.reduceEq, Nat.reduceLT, Nat.reduceSub, Nat.reduceMul, Nat.reduceBEq, Nat.reduceLeDiff, Int.reduceBEq, Int.reduceBNe, Int.reduceToNat, ne_eq, implies_true, bA]
  refine callM (new_i [] 30 (by omega)) ?_
  rintro r ob1 ⟨fp1, rfl, hM, hF⟩
  replace hM : Mod ob1 fp1 1 30 [] := hM
  simp (config := {maxSteps := 4000000}) only [U_law17_ModelCounts, reduceIte, reduceCtorEq, Nat.reduceEqDiff, Nat.reduceAdd, Int.reduceLT, Int.reduceLE, Int.reduceNeg, Int.reduceEq, Nat.reduceLT, Nat.reduceSub, Nat.reduceMul, Nat.reduceBEq, Nat.reduceLeDiff, Int.reduceBEq, Int.reduceBNe, Int.reduceToNat, ne_eq, implies_true, bA]
  refine callI awake_spec ?_
  simp (config := {maxSteps := 4000000}) only [U_law17_ModelCounts, reduceIte, reduceCtorEq, Nat.reduceEqDiff, Nat.reduceAdd, Int.reduceLT, Int.reduceLE, Int.reduceNeg, Int.reduceEq, Nat.reduceLT, Nat.reduceSub, Nat.reduceMul, Nat.reduceBEq, Nat.reduceLeDiff, Int.reduceBEq, Int.reduceBNe, Int.reduceToNat, ne_eq, implies_true, bA]
  refine callM (do_k hM ⟨1, 1, 0, 40, []⟩ (by simp) (A' := oneV []) (e := 0) (d := []) (sz := 0) (us := 0) (by kernel_rfl) (by simp)) ?_
  rintro r ob2 ⟨rfl, fp2, hM2, hF2⟩
  clear hM hF hF2
  obtain ⟨p, hp⟩ : ∃ p, ob2.length = p := ⟨_, rfl⟩
  have hp2 : (ob2 ++ [AObj.box ((onS []).map PV.bool)])[p]? = some (.box ((onS []).map PV.bool)) ∧ p ∉ fp2 := ⟨by rw [← hp, ap0]; rfl, by rw [← hp]; exact hM2.out (Nat.le_refl _)⟩
  simp (config := {maxSteps := 4000000}) only [U_law17_ModelCounts, hp, reduceIte, reduceCtorEq, Nat.reduceEqDiff, Nat.reduceAdd, Int.reduceLT, Int.reduceLE, Int.reduceNeg, Int.reduceEq, Nat.reduceLT, Nat.reduceSub, Nat.reduceMul, Nat.reduceBEq, Nat.reduceLeDiff, Int.reduceBEq, Int.reduceBNe, Int.reduceToNat, ne_eq, implies_true, bA]
  refine loopF (fun x : List AObj × List Nat × List Sc × Nat => ⟨ofL [(0, .slc (l.map rowQ)), (3, .ref 1 0), (4, .ref p 0), (5, .int .i64 (x.2.2.1.length : Int)), (6, .int .i64 (x.2.2.2 : Int))], x.1⟩)
    (fun x => Mod x.1 x.2.1 1 30 (oneV x.2.2.1) ∧ (x.1[p]? = some (.box ((onS x.2.2.1).map PV.bool)) ∧ p ∉ x.2.1) ∧ x.2.2.2 ≤ l.length) (fun x => l.length - x.2.2.2) (ob2 ++ [AObj.box ((onS []).map PV.bool)], fp2, [], 0) ?_ ⟨hM2.app, hp2, Nat.zero_le _⟩ ?_
  · simp (config := {maxSteps := 4000000}) only [U_law17_ModelCounts, reduceIte, reduceCtorEq, Nat.reduceEqDiff, Nat.reduceAdd, Int.reduceLT, Int.reduceLE, Int.reduceNeg, Int.reduceEq, Nat.reduceLT, Nat.reduceSub, Nat.reduceMul, Nat.reduceBEq, Nat.reduceLeDiff, Int.reduceBEq, Int.reduceBNe, Int.reduceToNat, ne_eq, implies_true, bA]
    all_goals rfl
  clear hM2 hp2 hp
  rintro ⟨ob, fp, S, i⟩ ⟨hM, hp, hi⟩
  simp only at hM hp hi
  by_cases hlt : i < l.length
  · have d1 : decide ((i : Int) < (l.length : Int)) = true := by simpa using hlt
    by_cases h60 : i < 60
    · have d2 : decide ((i : Int) < 60) = true := by simp; omega
      have e1 : IntKind.i64.wrap ((i : Int) + 1) = ((i + 1 : Nat) : Int) := by rw [wrapI (by omega) (by omega)]; omega
      have isl := fun ob fb => islV_map (ob := ob) (fb := fb) (k := .i64) (g := rowQ) (l := l) (e := 5) hlt rfl
      have hdl := hl l[i] (List.getElem_mem hlt)
      have hsec := hM.sec40
      have h30 := hM.le30
      have hpA := fun l => apL hp.1 l
      have hon : ob.length ∉ fp := hM.out (Nat.le_refl _)
      have hpl := lt_of_get hp.1
      cases hli : l[i] with
      | mk op idd fr n0 dd =>
      rw [hli] at isl hdl
      simp only [rowQ] at isl
      simp only at hdl
      have mu : ∀ (ob' : List AObj) (fp' : List Nat) (S' : List Sc), Mod ob' fp' 1 30 (oneV S') → (ob'[p]? = some (.box ((onS S').map PV.bool)) ∧ p ∉ fp') → True := fun _ _ _ _ _ => trivial
      have m1 : ∀ a : Nat, l.length - (i + 1) < l.length - i := fun _ => by omega
      by_cases hop : ¬ (op = 4 ∨ op = 5 ∨ op = 6)
      · have n4 : (op != 4) = true := by simp; omega
        have n5 : (op != 5) = true := by simp; omega
        have n6 : (op != 6) = true := by simp; omega
        have d4 : (op == 4) = false := by simp; omega
        simp (config := {maxSteps := 4000000}) only [U_law17_ModelCounts, d1, d2, isl, ap0, st0, n4, n5, n6, d4, e1, reduceIte, reduceCtorEq, Nat.reduceEqDiff, Nat.reduceAdd, Int.reduceLT, Int.reduceLE, Int.reduceNeg, Int.reduceEq, Nat.reduceLT, Nat.reduceSub, Nat.reduceMul, Nat.reduceBEq, Nat.reduceLeDiff, Int.reduceBEq, Int.reduceBNe, Int.reduceToNat, ne_eq, implies_true, bA]
        exact ⟨(ob ++ [_], fp, S, i + 1), rfl, ⟨hM.app, at_app hp, hlt⟩, m1 0⟩
      replace hop := Decidable.not_not.1 hop
      -- how many
      have hnn : ∃ nn : Int, wN ⟨op, 1, fr, n0, dd⟩ = nn := ⟨_, rfl⟩
      obtain ⟨nn, hnn⟩ := hnn
      rcases hop with rfl | rfl | rfl
      · -- op = 4
        have n4 : ((4 : Int) != 4) = false := by decide
        have n5 : ((4 : Int) != 5) = true := by decide
        have n6 : ((4 : Int) != 6) = true := by decide
        have t1 := tdivN dd.length 32
        simp only [Int.cast_ofNat_Int] at t1
        have w0 : IntKind.i64.wrap ((dd.length / 32 : Nat) : Int) = ((dd.length / 32 : Nat) : Int) := by rw [wrapI (by omega) (by omega)]
        simp only [wN, if_true] at hnn
        rw [hnn] at t1 w0
        by_cases ca : fr < 0
        · have dca : decide (fr < 0) = true := by simpa using ca
          simp (config := {maxSteps := 4000000}) only [U_law17_ModelCounts, t1, w0, d1, d2, isl, ap0, st0, e1, dca, reduceIte, reduceCtorEq, Nat.reduceEqDiff, Nat.reduceAdd, Int.reduceLT, Int.reduceLE, Int.reduceNeg, Int.reduceEq, Nat.reduceLT, Nat.reduceSub, Nat.reduceMul, Nat.reduceBEq, Nat.reduceLeDiff, Int.reduceBEq, Int.reduceBNe, Int.reduceToNat, ne_eq, implies_true, bA]
          exact ⟨(ob ++ [_], fp, S, i + 1), rfl, ⟨hM.app, at_app hp, hlt⟩, m1 0⟩
        have dca : decide (fr < 0) = false := by simpa using ca
        by_cases cb : 40 ≤ fr
        · have dcb : decide (40 ≤ fr) = true := by simpa using cb
          simp (config := {maxSteps := 4000000}) only [U_law17_ModelCounts, t1, w0, d1, d2, isl, ap0, st0, e1, dca, dcb, reduceIte, reduceCtorEq, Nat.reduceEqDiff, Nat.reduceAdd, Int.reduceLT, Int.reduceLE, Int.reduceNeg, Int.reduceEq, Nat.reduceLT, Nat.reduceSub, Nat.reduceMul, Nat.reduceBEq, Nat.reduceLeDiff, Int.reduceBEq, Int.reduceBNe, Int.reduceToNat, ne_eq, implies_true, bA]
          exact ⟨(ob ++ [_], fp, S, i + 1), rfl, ⟨hM.app, at_app hp, hlt⟩, m1 0⟩
        have dcb : decide (40 ≤ fr) = false := by simpa using cb
        by_cases cc : nn < 1
        · have dcc : decide (nn < 1) = true := by simpa using cc
          simp (config := {maxSteps := 4000000}) only [U_law17_ModelCounts, t1, w0, d1, d2, isl, ap0, st0, e1, dca, dcb, dcc, reduceIte, reduceCtorEq, Nat.reduceEqDiff, Nat.reduceAdd, Int.reduceLT, Int.reduceLE, Int.reduceNeg, Int.reduceEq, Nat.reduceLT, Nat.reduceSub, Nat.reduceMul, Nat.reduceBEq, Nat.reduceLeDiff, Int.reduceBEq, Int.reduceBNe, Int.reduceToNat, ne_eq, implies_true, bA]
          exact ⟨(ob ++ [_], fp, S, i + 1), rfl, ⟨hM.app, at_app hp, hlt⟩, m1 0⟩
        have dcc : decide (nn < 1) = false := by simpa using cc
        by_cases cd : 8 < nn
        · have dcd : decide (8 < nn) = true := by simpa using cd
          simp (config := {maxSteps := 4000000}) only [U_law17_ModelCounts, t1, w0, d1, d2, isl, ap0, st0, e1, dca, dcb, dcc, dcd, reduceIte, reduceCtorEq, Nat.reduceEqDiff, Nat.reduceAdd, Int.reduceLT, Int.reduceLE, Int.reduceNeg, Int.reduceEq, Nat.reduceLT, Nat.reduceSub, Nat.reduceMul, Nat.reduceBEq, Nat.reduceLeDiff, Int.reduceBEq, Int.reduceBNe, Int.reduceToNat, ne_eq, implies_true, bA]
          exact ⟨(ob ++ [_], fp, S, i + 1), rfl, ⟨hM.app, at_app hp, hlt⟩, m1 0⟩
        have dcd : decide (8 < nn) = false := by simpa using cd
        have w40 : IntKind.i64.wrap (40 - fr) = 40 - fr := wrapI (by omega) (by omega)
        by_cases ce : 40 - fr < nn
        · have dce : decide (40 - fr < nn) = true := by simpa using ce
          simp (config := {maxSteps := 4000000}) only [U_law17_ModelCounts, t1, w0, d1, d2, isl, ap0, st0, e1, dca, dcb, dcc, dcd, w40, dce, reduceIte, reduceCtorEq, Nat.reduceEqDiff, Nat.reduceAdd, Int.reduceLT, Int.reduceLE, Int.reduceNeg, Int.reduceEq, Nat.reduceLT, Nat.reduceSub, Nat.reduceMul, Nat.reduceBEq, Nat.reduceLeDiff, Int.reduceBEq, Int.reduceBNe, Int.reduceToNat, ne_eq, implies_true, bA]
          exact ⟨(ob ++ [_], fp, S, i + 1), rfl, ⟨hM.app, at_app hp, hlt⟩, m1 0⟩
        have dce : decide (40 - fr < nn) = false := by simpa using ce
        simp (config := {maxSteps := 4000000}) only [U_law17_ModelCounts, t1, w0, d1, d2, isl, ap0, st0, e1, dca, dcb, dcc, dcd, w40, dce, reduceIte, reduceCtorEq, Nat.reduceEqDiff, Nat.reduceAdd, Int.reduceLT, Int.reduceLE, Int.reduceNeg, Int.reduceEq, Nat.reduceLT, Nat.reduceSub, Nat.reduceMul, Nat.reduceBEq, Nat.reduceLeDiff, Int.reduceBEq, Int.reduceBNe, Int.reduceToNat, ne_eq, implies_true, bA]
        refine callI (small_spec ⟨4, 1, fr, n0, dd⟩) ?_
        by_cases cg : ¬ ((dd.length : Int) ≤ 1000)
        · have dcg : decide ((dd.length : Int) ≤ 1000) = false := by simpa using cg
          simp (config := {maxSteps := 4000000}) only [U_law17_ModelCounts, e1, dcg, reduceIte, reduceCtorEq, Nat.reduceEqDiff, Nat.reduceAdd, Int.reduceLT, Int.reduceLE, Int.reduceNeg, Int.reduceEq, Nat.reduceLT, Nat.reduceSub, Nat.reduceMul, Nat.reduceBEq, Nat.reduceLeDiff, Int.reduceBEq, Int.reduceBNe, Int.reduceToNat, ne_eq, implies_true, bA]
          exact ⟨(ob ++ [_], fp, S, i + 1), rfl, ⟨hM.app, at_app hp, hlt⟩, m1 0⟩
        replace cg := Decidable.not_not.1 cg
        have dcg : decide ((dd.length : Int) ≤ 1000) = true := by simpa using cg
        obtain ⟨f, rfl⟩ : ∃ f : Nat, fr = (f : Int) := ⟨fr.toNat, by omega⟩
        obtain ⟨n, hn⟩ : ∃ n : Nat, nn = (n : Int) := ⟨nn.toNat, by omega⟩
        subst hn
        have hfn : f + n ≤ 40 := by omega
        have hmore := on_more hsec hfn
        have r0 : ∀ x, (ob ++ [x])[ob.length]? = some x := fun x => by rw [ap0]; rfl
        simp (config := {maxSteps := 4000000}) only [U_law17_ModelCounts, dcg, reduceIte, reduceCtorEq, Nat.reduceEqDiff, Nat.reduceAdd, Int.reduceLT, Int.reduceLE, Int.reduceNeg, Int.reduceEq, Nat.reduceLT, Nat.reduceSub, Nat.reduceMul, Nat.reduceBEq, Nat.reduceLeDiff, Int.reduceBEq, Int.reduceBNe, Int.reduceToNat, ne_eq, implies_true, bA]
        refine loopF (fun k : Nat => ⟨ofL [(0, .slc (l.map rowQ)), (3, .ref 1 0), (4, .ref p 0), (5, .int .i64 (S.length : Int)), (6, .int .i64 (i : Int)), (7, .ref ob.length 0), (8, .int .i64 (n : Int)), (9, .int .i64 ((List.range k).countP (fun j => !onJ S (f + j)) : Int)), (10, .int .i64 (k : Int))], ob ++ [.box [.int .i64 4, .int .i64 1, .int .i64 (f : Int), .int .i64 n0, .str dd]]⟩) (fun k => k ≤ n) (fun k => n - k) 0 ?_ (Nat.zero_le _) ?_
        · simp (config := {maxSteps := 4000000}) only [U_law17_ModelCounts, reduceIte, reduceCtorEq, Nat.reduceEqDiff, Nat.reduceAdd, Int.reduceLT, Int.reduceLE, Int.reduceNeg, Int.reduceEq, Nat.reduceLT, Nat.reduceSub, Nat.reduceMul, Nat.reduceBEq, Nat.reduceLeDiff, Int.reduceBEq, Int.reduceBNe, Int.reduceToNat, ne_eq, implies_true, bA]
          all_goals rfl
        intro k hk
        by_cases hkn : k < n
        · have dk : decide ((k : Int) < (n : Int)) = true := by simpa using hkn
          have wk : IntKind.i64.wrap ((f : Int) + (k : Int)) = ((f + k : Nat) : Int) := by rw [wrapI (by omega) (by omega)]; omega
          have wk1 : IntKind.i64.wrap ((k : Int) + 1) = ((k + 1 : Nat) : Int) := by rw [wrapI (by omega) (by omega)]; omega
          have ia := ia_on (p := p) (j := f + k) (by omega)
          have ld := ld_on (onS_get (S := S) (j := f + k) (by omega))
          have hle : (List.range k).countP (fun j => !onJ S (f + j)) ≤ k := by have := List.countP_le_length (p := fun j => !onJ S (f + j)) (l := List.range k); simpa using this
          cases ho : onJ S (f + k) with
          | true =>
            have hc1 : (List.range (k + 1)).countP (fun j => !onJ S (f + j)) = (List.range k).countP (fun j => !onJ S (f + j)) := by rw [List.range_succ, List.countP_append]; simp [ho]
            simp (config := {maxSteps := 4000000}) only [U_law17_ModelCounts, dk, ap0, wk, ia, hpA, ld, ho, wk1, reduceIte, reduceCtorEq, Nat.reduceEqDiff, Nat.reduceAdd, Int.reduceLT, Int.reduceLE, Int.reduceNeg, Int.reduceEq, Nat.reduceLT, Nat.reduceSub, Nat.reduceMul, Nat.reduceBEq, Nat.reduceLeDiff, Int.reduceBEq, Int.reduceBNe, Int.reduceToNat, ne_eq, implies_true, bA]
            exact ⟨k + 1, by rw [hc1], hkn, by omega⟩
          | false =>
            have hc1 : (List.range (k + 1)).countP (fun j => !onJ S (f + j)) = (List.range k).countP (fun j => !onJ S (f + j)) + 1 := by rw [List.range_succ, List.countP_append]; simp [ho]
            have wc : IntKind.i64.wrap (((List.range k).countP (fun j => !onJ S (f + j)) : Int) + 1) = ((List.range (k + 1)).countP (fun j => !onJ S (f + j)) : Int) := by rw [hc1, wrapI (by omega) (by omega)]; omega
            simp (config := {maxSteps := 4000000}) only [U_law17_ModelCounts, dk, ap0, wk, ia, hpA, ld, ho, wk1, wc, reduceIte, reduceCtorEq, Nat.reduceEqDiff, Nat.reduceAdd, Int.reduceLT, Int.reduceLE, Int.reduceNeg, Int.reduceEq, Nat.reduceLT, Nat.reduceSub, Nat.reduceMul, Nat.reduceBEq, Nat.reduceLeDiff, Int.reduceBEq, Int.reduceBNe, Int.reduceToNat, ne_eq, implies_true, bA]
            exact ⟨k + 1, rfl, hkn, by omega⟩
        have dk : decide ((k : Int) < (n : Int)) = false := by simpa using hkn
        have hkn' : k = n := by omega
        subst hkn'
        obtain ⟨mo, hmo⟩ : ∃ mo : Int, ((List.range k).countP (fun j => !onJ S (f + j)) : Int) = mo := ⟨_, rfl⟩
        rw [hmo] at hmore
        have hwn : wN ⟨4, 1, (f : Int), n0, dd⟩ = (k : Int) := by rw [← hnn]; rfl
        have hcd := counts_do (S := S) ⟨4, 1, (f : Int), n0, dd⟩ rfl (by simp) (by simp) (by rw [hwn]; show (k : Int) ≤ 40 - (f : Int); omega) (by rw [hwn]; omega)
        have hkl : dd.length / 32 = k := by omega
        have t2 := tmodN dd.length 32
        simp only [Int.cast_ofNat_Int] at t2
        have wm : IntKind.i64.wrap ((k : Int) * 32) = ((k * 32 : Nat) : Int) := by rw [wrapI (by omega) (by omega)]; omega
        have w30 : IntKind.i64.wrap (30 - (S.length : Int)) = 30 - (S.length : Int) := wrapI (by omega) (by omega)
        by_cases cm : ¬ (dd.length % 32 = 0)
        · have hB : wB ⟨4, 1, (f : Int), n0, dd⟩ = false := by simp [wB, cm]
          rw [if_pos hB] at hcd
          have nm : (((k * 32 : Nat) : Int) != (dd.length : Int)) = true := by simp only [bne_iff_ne]; omega
          simp (config := {maxSteps := 4000000}) only [U_law17_ModelCounts, dk, ap0, hmo, reduceIte, reduceCtorEq, Nat.reduceEqDiff, Nat.reduceAdd, Int.reduceLT, Int.reduceLE, Int.reduceNeg, Int.reduceEq, Nat.reduceLT, Nat.reduceSub, Nat.reduceMul, Nat.reduceBEq, Nat.reduceLeDiff, Int.reduceBEq, Int.reduceBNe, Int.reduceToNat, ne_eq, implies_true, bA]
          refine callM (do_k hM.app ⟨4, 1, (f : Int), n0, dd⟩ (by simp only; omega) hcd (by simp)) ?_
          rintro r ob3 ⟨rfl, fp3, hM3, hF3⟩
          have hp3 := hF3.at (at_app hp)
          have hr3 := (hF3.at ⟨r0 _, hon⟩).1
          simp (config := {maxSteps := 4000000}) only [U_law17_ModelCounts, hr3, n6, w30, wm, nm, e1, reduceIte, reduceCtorEq, Nat.reduceEqDiff, Nat.reduceAdd, Int.reduceLT, Int.reduceLE, Int.reduceNeg, Int.reduceEq, Nat.reduceLT, Nat.reduceSub, Nat.reduceMul, Nat.reduceBEq, Nat.reduceLeDiff, Int.reduceBEq, Int.reduceBNe, Int.reduceToNat, ne_eq, implies_true, bA]
          exact ⟨(ob3, fp3, S, i + 1), rfl, ⟨hM3, hp3, hlt⟩, m1 0⟩
        replace cm := Decidable.not_not.1 cm
        have hB : wB ⟨4, 1, (f : Int), n0, dd⟩ = true := by
          simp only [wB, wN, if_true, Bool.and_eq_true, decide_eq_true_eq]
          simp; omega
        have nm : (((k * 32 : Nat) : Int) != (dd.length : Int)) = false := by simp only [bne_eq_false_iff_eq]; omega
        rw [if_neg (by rw [hB]; simp), if_neg (by simp)] at hcd
        have hDl : (dataC ⟨4, 1, (f : Int), n0, dd⟩).length = k := by
          unfold dataC
          rw [hwn]
          split <;> simp [pieces_len]
        rw [hDl] at hcd
        by_cases cf : 30 - (S.length : Int) < (k : Int) - inS S (f : Int) ((f : Int) + (k : Int))
        · rw [if_pos cf] at hcd
          have df : decide (30 - (S.length : Int) < mo) = true := by simp only [decide_eq_true_eq]; omega
          simp (config := {maxSteps := 4000000}) only [U_law17_ModelCounts, dk, ap0, hmo, reduceIte, reduceCtorEq, Nat.reduceEqDiff, Nat.reduceAdd, Int.reduceLT, Int.reduceLE, Int.reduceNeg, Int.reduceEq, Nat.reduceLT, Nat.reduceSub, Nat.reduceMul, Nat.reduceBEq, Nat.reduceLeDiff, Int.reduceBEq, Int.reduceBNe, Int.reduceToNat, ne_eq, implies_true, bA]
          refine callM (do_k hM.app ⟨4, 1, (f : Int), n0, dd⟩ (by simp only; omega) hcd (by simp)) ?_
          rintro r ob3 ⟨rfl, fp3, hM3, hF3⟩
          have hp3 := hF3.at (at_app hp)
          have hr3 := (hF3.at ⟨r0 _, hon⟩).1
          simp (config := {maxSteps := 4000000}) only [U_law17_ModelCounts, hr3, n6, w30, wm, nm, df, reduceIte, reduceCtorEq, Nat.reduceEqDiff, Nat.reduceAdd, Int.reduceLT, Int.reduceLE, Int.reduceNeg, Int.reduceEq, Nat.reduceLT, Nat.reduceSub, Nat.reduceMul, Nat.reduceBEq, Nat.reduceLeDiff, Int.reduceBEq, Int.reduceBNe, Int.reduceToNat, ne_eq, implies_true, bA]
          refine loopF (fun _ : Unit => ⟨ofL [(0, .slc (l.map rowQ)), (3, .ref 1 0), (4, .ref p 0), (5, .int .i64 (S.length : Int)), (6, .int .i64 (i : Int)), (7, .ref ob.length 0), (8, .int .i64 (k : Int)), (12, .bool true), (13, .int .i64 0)], ob3⟩) (fun _ => True) (fun _ => 0) () ?_ trivial ?_
          · simp (config := {maxSteps := 4000000}) only [U_law17_ModelCounts, reduceIte, reduceCtorEq, Nat.reduceEqDiff, Nat.reduceAdd, Int.reduceLT, Int.reduceLE, Int.reduceNeg, Int.reduceEq, Nat.reduceLT, Nat.reduceSub, Nat.reduceMul, Nat.reduceBEq, Nat.reduceLeDiff, Int.reduceBEq, Int.reduceBNe, Int.reduceToNat, ne_eq, implies_true, bA]
          intro _ _
          have dz : decide ((0 : Int) < (k : Int)) = true := by simp; omega
          simp (config := {maxSteps := 4000000}) only [U_law17_ModelCounts, dz, reduceIte, reduceCtorEq, Nat.reduceEqDiff, Nat.reduceAdd, Int.reduceLT, Int.reduceLE, Int.reduceNeg, Int.reduceEq, Nat.reduceLT, Nat.reduceSub, Nat.reduceMul, Nat.reduceBEq, Nat.reduceLeDiff, Int.reduceBEq, Int.reduceBNe, Int.reduceToNat, ne_eq, implies_true, bA]
          refine callM (do_k hM3 ⟨9, 1, 0, 0, []⟩ (by simp) (info_do _) (by simp)) ?_
          rintro r ob5 ⟨rfl, fp5, hM5, hF5⟩
          have hp5 := hF5.at hp3
          simp (config := {maxSteps := 4000000}) only [U_law17_ModelCounts, ap0, st0, bne_same, reduceIte, reduceCtorEq, Nat.reduceEqDiff, Nat.reduceAdd, Int.reduceLT, Int.reduceLE, Int.reduceNeg, Int.reduceEq, Nat.reduceLT, Nat.reduceSub, Nat.reduceMul, Nat.reduceBEq, Nat.reduceLeDiff, Int.reduceBEq, Int.reduceBNe, Int.reduceToNat, ne_eq, implies_true, bA]
          refine callM (do_w30 hM5.app ⟨10, 0, 0, 0, []⟩ (by simp) (list_do _)) ?_
          rintro r ob6 ⟨ids, fp6, rfl, hM6, hF6⟩
          simp (config := {maxSteps := 4000000}) only [U_law17_ModelCounts, bne_same, e1, reduceIte, reduceCtorEq, Nat.reduceEqDiff, Nat.reduceAdd, Int.reduceLT, Int.reduceLE, Int.reduceNeg, Int.reduceEq, Nat.reduceLT, Nat.reduceSub, Nat.reduceMul, Nat.reduceBEq, Nat.reduceLeDiff, Int.reduceBEq, Int.reduceBNe, Int.reduceToNat, ne_eq, implies_true, bA]
          exact ⟨(ob6, fp6, S, i + 1), rfl, ⟨hM6, hF6.at (at_app hp5), hlt⟩, m1 0⟩
        rw [if_neg cf] at hcd
        have df : decide (30 - (S.length : Int) < mo) = false := by simp only [decide_eq_false_iff_not]; omega
        simp (config := {maxSteps := 4000000}) only [U_law17_ModelCounts, dk, ap0, hmo, reduceIte, reduceCtorEq, Nat.reduceEqDiff, Nat.reduceAdd, Int.reduceLT, Int.reduceLE, Int.reduceNeg, Int.reduceEq, Nat.reduceLT, Nat.reduceSub, Nat.reduceMul, Nat.reduceBEq, Nat.reduceLeDiff, Int.reduceBEq, Int.reduceBNe, Int.reduceToNat, ne_eq, implies_true, bA]
        refine callM (do_k hM.app ⟨4, 1, (f : Int), n0, dd⟩ (by simp only; omega) hcd (by simp)) ?_
        rintro r ob3 ⟨rfl, fp3, hM3, hF3⟩
        have hS3 := hM3.sec40
        obtain ⟨hp3, hpn⟩ := hF3.at (at_app hp)
        have hr3 := (hF3.at ⟨r0 _, hon⟩).1
        have hpl3 := lt_of_get hp3
        have hne : ob.length ≠ p := by omega
        have g1 : ∀ x, (ob3.set p x)[p]? = some x := fun x => List.getElem?_set_self hpl3
        have g2 : ∀ x, (ob3.set p x)[ob.length]? = some (.box [.int .i64 4, .int .i64 1, .int .i64 (f : Int), .int .i64 n0, .str dd]) := fun x => by rw [List.getElem?_set_ne (Ne.symm hne)]; exact hr3
        have g3 : ∀ x y, (ob3.set p x).set p y = ob3.set p y := fun x y => List.set_set ..
        simp (config := {maxSteps := 4000000}) only [U_law17_ModelCounts, hr3, n6, w30, wm, nm, df, reduceIte, reduceCtorEq, Nat.reduceEqDiff, Nat.reduceAdd, Int.reduceLT, Int.reduceLE, Int.reduceNeg, Int.reduceEq, Nat.reduceLT, Nat.reduceSub, Nat.reduceMul, Nat.reduceBEq, Nat.reduceLeDiff, Int.reduceBEq, Int.reduceBNe, Int.reduceToNat, ne_eq, implies_true, bA]
        refine loopF (fun j : Nat => ⟨ofL [(0, .slc (l.map rowQ)), (3, .ref 1 0), (4, .ref p 0), (5, .int .i64 ((runR (onS S) f true j).countP id : Int)), (6, .int .i64 (i : Int)), (7, .ref ob.length 0), (8, .int .i64 (k : Int)), (12, .bool false), (13, .int .i64 (j : Int))], ob3.set p (.box ((runR (onS S) f true j).map PV.bool))⟩) (fun j => j ≤ k) (fun j => k - j) 0 ?_ (Nat.zero_le _) ?_
        · simp (config := {maxSteps := 4000000}) only [U_law17_ModelCounts, reduceIte, reduceCtorEq, Nat.reduceEqDiff, Nat.reduceAdd, Int.reduceLT, Int.reduceLE, Int.reduceNeg, Int.reduceEq, Nat.reduceLT, Nat.reduceSub, Nat.reduceMul, Nat.reduceBEq, Nat.reduceLeDiff, Int.reduceBEq, Int.reduceBNe, Int.reduceToNat, ne_eq, implies_true, bA]
          rw [show runR (onS S) f true 0 = onS S from rfl, setId hp3, ← on_count hsec]
        intro j hj
        have hrl := runR_len (onS S) f true j
        rw [onS_len] at hrl
        have hcl : (runR (onS S) f true j).countP id ≤ 40 := by have := List.countP_le_length (p := id) (l := runR (onS S) f true j); omega
        by_cases hjk : j < k
        · have dj : decide ((j : Int) < (k : Int)) = true := by simpa using hjk
          have wj : IntKind.i64.wrap ((f : Int) + (j : Int)) = ((f + j : Nat) : Int) := by rw [wrapI (by omega) (by omega)]; omega
          have wj1 : IntKind.i64.wrap ((j : Int) + 1) = ((j + 1 : Nat) : Int) := by rw [wrapI (by omega) (by omega)]; omega
          have ia := ia_on (p := p) (j := f + j) (by omega)
          have hjl : f + j < (runR (onS S) f true j).length := by omega
          have st := fun O => st_on (O := O) (o := p) (L := runR (onS S) f true j) (j := f + j) (b := true) hjl
          have ld2 := ld_on (L := (runR (onS S) f true j).set (f + j) true) (j := f + j) (b := true) (by rw [List.getElem?_set_self hjl])
          have cs := cnt_set (v := true) hjl
          have hrun : (runR (onS S) f true j).set (f + j) true = runR (onS S) f true (j + 1) := rfl
          rw [hrun] at cs ld2 st
          cases hb : (runR (onS S) f true j)[f + j] with
          | true =>
            have ld := ld_on (L := runR (onS S) f true j) (j := f + j) (b := true) (by rw [List.getElem?_eq_getElem hjl, hb])
            have hpos : 0 < (runR (onS S) f true j).countP id := List.countP_pos_iff.2 ⟨_, List.getElem_mem hjl, by rw [hb]; rfl⟩
            rw [hb] at cs
            have wa : IntKind.i64.wrap (((runR (onS S) f true j).countP id : Int) - 1) = ((runR (onS S) f true j).countP id : Int) - 1 := wrapI (by omega) (by omega)
            have wb : IntKind.i64.wrap (((runR (onS S) f true j).countP id : Int) - 1 + 1) = ((runR (onS S) f true (j + 1)).countP id : Int) := by rw [wrapI (by omega) (by omega), cs]; simp
            simp (config := {maxSteps := 4000000}) only [U_law17_ModelCounts, dj, wj, ia, g1, g2, g3, ld, n6, st, ld2, wa, wb, wj1, reduceIte, reduceCtorEq, Nat.reduceEqDiff, Nat.reduceAdd, Int.reduceLT, Int.reduceLE, Int.reduceNeg, Int.reduceEq, Nat.reduceLT, Nat.reduceSub, Nat.reduceMul, Nat.reduceBEq, Nat.reduceLeDiff, Int.reduceBEq, Int.reduceBNe, Int.reduceToNat, ne_eq, implies_true, bA]
            exact ⟨j + 1, rfl, hjk, by omega⟩
          | false =>
            have ld := ld_on (L := runR (onS S) f true j) (j := f + j) (b := false) (by rw [List.getElem?_eq_getElem hjl, hb])
            rw [hb] at cs
            have wb : IntKind.i64.wrap (((runR (onS S) f true j).countP id : Int) + 1) = ((runR (onS S) f true (j + 1)).countP id : Int) := by rw [wrapI (by omega) (by omega), cs]; simp
            simp (config := {maxSteps := 4000000}) only [U_law17_ModelCounts, dj, wj, ia, g1, g2, g3, ld, n6, st, ld2, wb, wj1, reduceIte, reduceCtorEq, Nat.reduceEqDiff, Nat.reduceAdd, Int.reduceLT, Int.reduceLE, Int.reduceNeg, Int.reduceEq, Nat.reduceLT, Nat.reduceSub, Nat.reduceMul, Nat.reduceBEq, Nat.reduceLeDiff, Int.reduceBEq, Int.reduceBNe, Int.reduceToNat, ne_eq, implies_true, bA]
            exact ⟨j + 1, rfl, hjk, by omega⟩
        have dj : decide ((j : Int) < (k : Int)) = false := by simpa using hjk
        have hjk' : j = k := by omega
        subst hjk'
        have hrun := runR_lay (S := S) (f := f) (n := j) (D := dataC ⟨4, 1, (f : Int), n0, dd⟩) hDl hfn
        have hcnt : ((runR (onS S) f true j).countP id : Int) = ((layS S (f : Int) (dataC ⟨4, 1, (f : Int), n0, dd⟩)).length : Int) := by rw [hrun, ← on_count hS3]
        rw [hrun]
        have hM4 : Mod (ob3.set p (.box ((onS (layS S (f : Int) (dataC ⟨4, 1, (f : Int), n0, dd⟩))).map PV.bool))) fp3 1 30 (oneV (layS S (f : Int) (dataC ⟨4, 1, (f : Int), n0, dd⟩))) := hM3.keep fun x hx => by rw [List.getElem?_set_ne]; rintro rfl; exact hpn hx
        rw [← hrun, hcnt]
        simp (config := {maxSteps := 4000000}) only [U_law17_ModelCounts, dj, reduceIte, reduceCtorEq, Nat.reduceEqDiff, Nat.reduceAdd, Int.reduceLT, Int.reduceLE, Int.reduceNeg, Int.reduceEq, Nat.reduceLT, Nat.reduceSub, Nat.reduceMul, Nat.reduceBEq, Nat.reduceLeDiff, Int.reduceBEq, Int.reduceBNe, Int.reduceToNat, ne_eq, implies_true, bA]
        rw [hrun]
        refine callM (do_k hM4 ⟨9, 1, 0, 0, []⟩ (by simp) (info_do _) (by simp)) ?_
        rintro r ob5 ⟨rfl, fp5, hM5, hF5⟩
        have hp5 := hF5.at ⟨List.getElem?_set_self hpl3, hpn⟩
        simp (config := {maxSteps := 4000000}) only [U_law17_ModelCounts, ap0, st0, bne_same, hcnt, reduceIte, reduceCtorEq, Nat.reduceEqDiff, Nat.reduceAdd, Int.reduceLT, Int.reduceLE, Int.reduceNeg, Int.reduceEq, Nat.reduceLT, Nat.reduceSub, Nat.reduceMul, Nat.reduceBEq, Nat.reduceLeDiff, Int.reduceBEq, Int.reduceBNe, Int.reduceToNat, ne_eq, implies_true, bA]
        refine callM (do_w30 hM5.app ⟨10, 0, 0, 0, []⟩ (by simp) (list_do _)) ?_
        rintro r ob6 ⟨ids, fp6, rfl, hM6, hF6⟩
        simp (config := {maxSteps := 4000000}) only [U_law17_ModelCounts, bne_same, hcnt, e1, reduceIte, reduceCtorEq, Nat.reduceEqDiff, Nat.reduceAdd, Int.reduceLT, Int.reduceLE, Int.reduceNeg, Int.reduceEq, Nat.reduceLT, Nat.reduceSub, Nat.reduceMul, Nat.reduceBEq, Nat.reduceLeDiff, Int.reduceBEq, Int.reduceBNe, Int.reduceToNat, ne_eq, implies_true, bA]
        exact ⟨(ob6, fp6, layS S (f : Int) (dataC ⟨4, 1, (f : Int), n0, dd⟩), i + 1), rfl, ⟨hM6, hF6.at (at_app hp5), hlt⟩, m1 0⟩
      · -- op = 5
        have n4 : ((5 : Int) != 4) = true := by decide
        have n5 : ((5 : Int) != 5) = false := by decide
        have n6 : ((5 : Int) != 6) = true := by decide
        simp only [wN] at hnn
        rw [if_neg (by omega)] at hnn
        subst hnn
        by_cases ca : fr < 0
        · have dca : decide (fr < 0) = true := by simpa using ca
          simp (config := {maxSteps := 4000000}) only [U_law17_ModelCounts, d1, d2, isl, ap0, st0, e1, dca, reduceIte, reduceCtorEq, Nat.reduceEqDiff, Nat.reduceAdd, Int.reduceLT, Int.reduceLE, Int.reduceNeg, Int.reduceEq, Nat.reduceLT, Nat.reduceSub, Nat.reduceMul, Nat.reduceBEq, Nat.reduceLeDiff, Int.reduceBEq, Int.reduceBNe, Int.reduceToNat, ne_eq, implies_true, bA]
          exact ⟨(ob ++ [_], fp, S, i + 1), rfl, ⟨hM.app, at_app hp, hlt⟩, m1 0⟩
        have dca : decide (fr < 0) = false := by simpa using ca
        by_cases cb : 40 ≤ fr
        · have dcb : decide (40 ≤ fr) = true := by simpa using cb
          simp (config := {maxSteps := 4000000}) only [U_law17_ModelCounts, d1, d2, isl, ap0, st0, e1, dca, dcb, reduceIte, reduceCtorEq, Nat.reduceEqDiff, Nat.reduceAdd, Int.reduceLT, Int.reduceLE, Int.reduceNeg, Int.reduceEq, Nat.reduceLT, Nat.reduceSub, Nat.reduceMul, Nat.reduceBEq, Nat.reduceLeDiff, Int.reduceBEq, Int.reduceBNe, Int.reduceToNat, ne_eq, implies_true, bA]
          exact ⟨(ob ++ [_], fp, S, i + 1), rfl, ⟨hM.app, at_app hp, hlt⟩, m1 0⟩
        have dcb : decide (40 ≤ fr) = false := by simpa using cb
        by_cases cc : n0 < 1
        · have dcc : decide (n0 < 1) = true := by simpa using cc
          simp (config := {maxSteps := 4000000}) only [U_law17_ModelCounts, d1, d2, isl, ap0, st0, e1, dca, dcb, dcc, reduceIte, reduceCtorEq, Nat.reduceEqDiff, Nat.reduceAdd, Int.reduceLT, Int.reduceLE, Int.reduceNeg, Int.reduceEq, Nat.reduceLT, Nat.reduceSub, Nat.reduceMul, Nat.reduceBEq, Nat.reduceLeDiff, Int.reduceBEq, Int.reduceBNe, Int.reduceToNat, ne_eq, implies_true, bA]
          exact ⟨(ob ++ [_], fp, S, i + 1), rfl, ⟨hM.app, at_app hp, hlt⟩, m1 0⟩
        have dcc : decide (n0 < 1) = false := by simpa using cc
        by_cases cd : 8 < n0
        · have dcd : decide (8 < n0) = true := by simpa using cd
          simp (config := {maxSteps := 4000000}) only [U_law17_ModelCounts, d1, d2, isl, ap0, st0, e1, dca, dcb, dcc, dcd, reduceIte, reduceCtorEq, Nat.reduceEqDiff, Nat.reduceAdd, Int.reduceLT, Int.reduceLE, Int.reduceNeg, Int.reduceEq, Nat.reduceLT, Nat.reduceSub, Nat.reduceMul, Nat.reduceBEq, Nat.reduceLeDiff, Int.reduceBEq, Int.reduceBNe, Int.reduceToNat, ne_eq, implies_true, bA]
          exact ⟨(ob ++ [_], fp, S, i + 1), rfl, ⟨hM.app, at_app hp, hlt⟩, m1 0⟩
        have dcd : decide (8 < n0) = false := by simpa using cd
        have w40 : IntKind.i64.wrap (40 - fr) = 40 - fr := wrapI (by omega) (by omega)
        by_cases ce : 40 - fr < n0
        · have dce : decide (40 - fr < n0) = true := by simpa using ce
          simp (config := {maxSteps := 4000000}) only [U_law17_ModelCounts, d1, d2, isl, ap0, st0, e1, dca, dcb, dcc, dcd, w40, dce, reduceIte, reduceCtorEq, Nat.reduceEqDiff, Nat.reduceAdd, Int.reduceLT, Int.reduceLE, Int.reduceNeg, Int.reduceEq, Nat.reduceLT, Nat.reduceSub, Nat.reduceMul, Nat.reduceBEq, Nat.reduceLeDiff, Int.reduceBEq, Int.reduceBNe, Int.reduceToNat, ne_eq, implies_true, bA]
          exact ⟨(ob ++ [_], fp, S, i + 1), rfl, ⟨hM.app, at_app hp, hlt⟩, m1 0⟩
        have dce : decide (40 - fr < n0) = false := by simpa using ce
        simp (config := {maxSteps := 4000000}) only [U_law17_ModelCounts, d1, d2, isl, ap0, st0, e1, dca, dcb, dcc, dcd, w40, dce, reduceIte, reduceCtorEq, Nat.reduceEqDiff, Nat.reduceAdd, Int.reduceLT, Int.reduceLE, Int.reduceNeg, Int.reduceEq, Nat.reduceLT, Nat.reduceSub, Nat.reduceMul, Nat.reduceBEq, Nat.reduceLeDiff, Int.reduceBEq, Int.reduceBNe, Int.reduceToNat, ne_eq, implies_true, bA]
        refine callI (small_spec ⟨5, 1, fr, n0, dd⟩) ?_
        by_cases cg : ¬ ((dd.length : Int) ≤ 1000)
        · have dcg : decide ((dd.length : Int) ≤ 1000) = false := by simpa using cg
          simp (config := {maxSteps := 4000000}) only [U_law17_ModelCounts, e1, dcg, reduceIte, reduceCtorEq, Nat.reduceEqDiff, Nat.reduceAdd, Int.reduceLT, Int.reduceLE, Int.reduceNeg, Int.reduceEq, Nat.reduceLT, Nat.reduceSub, Nat.reduceMul, Nat.reduceBEq, Nat.reduceLeDiff, Int.reduceBEq, Int.reduceBNe, Int.reduceToNat, ne_eq, implies_true, bA]
          exact ⟨(ob ++ [_], fp, S, i + 1), rfl, ⟨hM.app, at_app hp, hlt⟩, m1 0⟩
        replace cg := Decidable.not_not.1 cg
        have dcg : decide ((dd.length : Int) ≤ 1000) = true := by simpa using cg
        obtain ⟨f, rfl⟩ : ∃ f : Nat, fr = (f : Int) := ⟨fr.toNat, by omega⟩
        obtain ⟨n, hn⟩ : ∃ n : Nat, n0 = (n : Int) := ⟨n0.toNat, by omega⟩
        subst hn
        have hfn : f + n ≤ 40 := by omega
        have hmore := on_more hsec hfn
        have r0 : ∀ x, (ob ++ [x])[ob.length]? = some x := fun x => by rw [ap0]; rfl
        simp (config := {maxSteps := 4000000}) only [U_law17_ModelCounts, dcg, reduceIte, reduceCtorEq, Nat.reduceEqDiff, Nat.reduceAdd, Int.reduceLT, Int.reduceLE, Int.reduceNeg, Int.reduceEq, Nat.reduceLT, Nat.reduceSub, Nat.reduceMul, Nat.reduceBEq, Nat.reduceLeDiff, Int.reduceBEq, Int.reduceBNe, Int.reduceToNat, ne_eq, implies_true, bA]
        refine loopF (fun k : Nat => ⟨ofL [(0, .slc (l.map rowQ)), (3, .ref 1 0), (4, .ref p 0), (5, .int .i64 (S.length : Int)), (6, .int .i64 (i : Int)), (7, .ref ob.length 0), (8, .int .i64 (n : Int)), (9, .int .i64 ((List.range k).countP (fun j => !onJ S (f + j)) : Int)), (10, .int .i64 (k : Int))], ob ++ [.box [.int .i64 5, .int .i64 1, .int .i64 (f : Int), .int .i64 (n : Int), .str dd]]⟩) (fun k => k ≤ n) (fun k => n - k) 0 ?_ (Nat.zero_le _) ?_
        · simp (config := {maxSteps := 4000000}) only [U_law17_ModelCounts, reduceIte, reduceCtorEq, Nat.reduceEqDiff, Nat.reduceAdd, Int.reduceLT, Int.reduceLE, Int.reduceNeg, Int.reduceEq, Nat.reduceLT, Nat.reduceSub, Nat.reduceMul, Nat.reduceBEq, Nat.reduceLeDiff, Int.reduceBEq, Int.reduceBNe, Int.reduceToNat, ne_eq, implies_true, bA]
          all_goals rfl
        intro k hk
        by_cases hkn : k < n
        · have dk : decide ((k : Int) < (n : Int)) = true := by simpa using hkn
          have wk : IntKind.i64.wrap ((f : Int) + (k : Int)) = ((f + k : Nat) : Int) := by rw [wrapI (by omega) (by omega)]; omega
          have wk1 : IntKind.i64.wrap ((k : Int) + 1) = ((k + 1 : Nat) : Int) := by rw [wrapI (by omega) (by omega)]; omega
          have ia := ia_on (p := p) (j := f + k) (by omega)
          have ld := ld_on (onS_get (S := S) (j := f + k) (by omega))
          have hle : (List.range k).countP (fun j => !onJ S (f + j)) ≤ k := by have := List.countP_le_length (p := fun j => !onJ S (f + j)) (l := List.range k); simpa using this
          cases ho : onJ S (f + k) with
          | true =>
            have hc1 : (List.range (k + 1)).countP (fun j => !onJ S (f + j)) = (List.range k).countP (fun j => !onJ S (f + j)) := by rw [List.range_succ, List.countP_append]; simp [ho]
            simp (config := {maxSteps := 4000000}) only [U_law17_ModelCounts, dk, ap0, wk, ia, hpA, ld, ho, wk1, reduceIte, reduceCtorEq, Nat.reduceEqDiff, Nat.reduceAdd, Int.reduceLT, Int.reduceLE, Int.reduceNeg, Int.reduceEq, Nat.reduceLT, Nat.reduceSub, Nat.reduceMul, Nat.reduceBEq, Nat.reduceLeDiff, Int.reduceBEq, Int.reduceBNe, Int.reduceToNat, ne_eq, implies_true, bA]
            exact ⟨k + 1, by rw [hc1], hkn, by omega⟩
          | false =>
            have hc1 : (List.range (k + 1)).countP (fun j => !onJ S (f + j)) = (List.range k).countP (fun j => !onJ S (f + j)) + 1 := by rw [List.range_succ, List.countP_append]; simp [ho]
            have wc : IntKind.i64.wrap (((List.range k).countP (fun j => !onJ S (f + j)) : Int) + 1) = ((List.range (k + 1)).countP (fun j => !onJ S (f + j)) : Int) := by rw [hc1, wrapI (by omega) (by omega)]; omega
            simp (config := {maxSteps := 4000000}) only [U_law17_ModelCounts, dk, ap0, wk, ia, hpA, ld, ho, wk1, wc, reduceIte, reduceCtorEq, Nat.reduceEqDiff, Nat.reduceAdd, Int.reduceLT, Int.reduceLE, Int.reduceNeg, Int.reduceEq, Nat.reduceLT, Nat.reduceSub, Nat.reduceMul, Nat.reduceBEq, Nat.reduceLeDiff, Int.reduceBEq, Int.reduceBNe, Int.reduceToNat, ne_eq, implies_true, bA]
            exact ⟨k + 1, rfl, hkn, by omega⟩
        have dk : decide ((k : Int) < (n : Int)) = false := by simpa using hkn
        have hkn' : k = n := by omega
        subst hkn'
        obtain ⟨mo, hmo⟩ : ∃ mo : Int, ((List.range k).countP (fun j => !onJ S (f + j)) : Int) = mo := ⟨_, rfl⟩
        rw [hmo] at hmore
        have hwn : wN ⟨5, 1, (f : Int), (k : Int), dd⟩ = (k : Int) := by simp [wN]
        have hcd := counts_do (S := S) ⟨5, 1, (f : Int), (k : Int), dd⟩ rfl (by simp) (by simp) (by rw [hwn]; show (k : Int) ≤ 40 - (f : Int); omega) (by rw [hwn]; omega)
        have w30 : IntKind.i64.wrap (30 - (S.length : Int)) = 30 - (S.length : Int) := wrapI (by omega) (by omega)
        have hB : wB ⟨5, 1, (f : Int), (k : Int), dd⟩ = true := by
          simp only [wB, wN]; simp; omega
        rw [if_neg (by rw [hB]; simp), if_neg (by simp)] at hcd
        have hDl : (dataC ⟨5, 1, (f : Int), (k : Int), dd⟩).length = k := by
          unfold dataC
          rw [hwn]
          split <;> simp [pieces_len]
        rw [hDl] at hcd
        by_cases cf : 30 - (S.length : Int) < (k : Int) - inS S (f : Int) ((f : Int) + (k : Int))
        · rw [if_pos cf] at hcd
          have df : decide (30 - (S.length : Int) < mo) = true := by simp only [decide_eq_true_eq]; omega
          simp (config := {maxSteps := 4000000}) only [U_law17_ModelCounts, dk, ap0, hmo, reduceIte, reduceCtorEq, Nat.reduceEqDiff, Nat.reduceAdd, Int.reduceLT, Int.reduceLE, Int.reduceNeg, Int.reduceEq, Nat.reduceLT, Nat.reduceSub, Nat.reduceMul, Nat.reduceBEq, Nat.reduceLeDiff, Int.reduceBEq, Int.reduceBNe, Int.reduceToNat, ne_eq, implies_true, bA]
          refine callM (do_k hM.app ⟨5, 1, (f : Int), (k : Int), dd⟩ (by simp only; omega) hcd (by simp)) ?_
          rintro r ob3 ⟨rfl, fp3, hM3, hF3⟩
          have hp3 := hF3.at (at_app hp)
          have hr3 := (hF3.at ⟨r0 _, hon⟩).1
          simp (config := {maxSteps := 4000000}) only [U_law17_ModelCounts, hr3, n6, w30, df, reduceIte, reduceCtorEq, Nat.reduceEqDiff, Nat.reduceAdd, Int.reduceLT, Int.reduceLE, Int.reduceNeg, Int.reduceEq, Nat.reduceLT, Nat.reduceSub, Nat.reduceMul, Nat.reduceBEq, Nat.reduceLeDiff, Int.reduceBEq, Int.reduceBNe, Int.reduceToNat, ne_eq, implies_true, bA]
          refine loopF (fun _ : Unit => ⟨ofL [(0, .slc (l.map rowQ)), (3, .ref 1 0), (4, .ref p 0), (5, .int .i64 (S.length : Int)), (6, .int .i64 (i : Int)), (7, .ref ob.length 0), (8, .int .i64 (k : Int)), (12, .bool true), (13, .int .i64 0)], ob3⟩) (fun _ => True) (fun _ => 0) () ?_ trivial ?_
          · simp (config := {maxSteps := 4000000}) only [U_law17_ModelCounts, reduceIte, reduceCtorEq, Nat.reduceEqDiff, Nat.reduceAdd, Int.reduceLT, Int.reduceLE, Int.reduceNeg, Int.reduceEq, Nat.reduceLT, Nat.reduceSub, Nat.reduceMul, Nat.reduceBEq, Nat.reduceLeDiff, Int.reduceBEq, Int.reduceBNe, Int.reduceToNat, ne_eq, implies_true, bA]
          intro _ _
          have dz : decide ((0 : Int) < (k : Int)) = true := by simp; omega
          simp (config := {maxSteps := 4000000}) only [U_law17_ModelCounts, dz, reduceIte, reduceCtorEq, Nat.reduceEqDiff, Nat.reduceAdd, Int.reduceLT, Int.reduceLE, Int.reduceNeg, Int.reduceEq, Nat.reduceLT, Nat.reduceSub, Nat.reduceMul, Nat.reduceBEq, Nat.reduceLeDiff, Int.reduceBEq, Int.reduceBNe, Int.reduceToNat, ne_eq, implies_true, bA]
          refine callM (do_k hM3 ⟨9, 1, 0, 0, []⟩ (by simp) (info_do _) (by simp)) ?_
          rintro r ob5 ⟨rfl, fp5, hM5, hF5⟩
          have hp5 := hF5.at hp3
          simp (config := {maxSteps := 4000000}) only [U_law17_ModelCounts, ap0, st0, bne_same, reduceIte, reduceCtorEq, Nat.reduceEqDiff, Nat.reduceAdd, Int.reduceLT, Int.reduceLE, Int.reduceNeg, Int.reduceEq, Nat.reduceLT, Nat.reduceSub, Nat.reduceMul, Nat.reduceBEq, Nat.reduceLeDiff, Int.reduceBEq, Int.reduceBNe, Int.reduceToNat, ne_eq, implies_true, bA]
          refine callM (do_w30 hM5.app ⟨10, 0, 0, 0, []⟩ (by simp) (list_do _)) ?_
          rintro r ob6 ⟨ids, fp6, rfl, hM6, hF6⟩
          simp (config := {maxSteps := 4000000}) only [U_law17_ModelCounts, bne_same, e1, reduceIte, reduceCtorEq, Nat.reduceEqDiff, Nat.reduceAdd, Int.reduceLT, Int.reduceLE, Int.reduceNeg, Int.reduceEq, Nat.reduceLT, Nat.reduceSub, Nat.reduceMul, Nat.reduceBEq, Nat.reduceLeDiff, Int.reduceBEq, Int.reduceBNe, Int.reduceToNat, ne_eq, implies_true, bA]
          exact ⟨(ob6, fp6, S, i + 1), rfl, ⟨hM6, hF6.at (at_app hp5), hlt⟩, m1 0⟩
        rw [if_neg cf] at hcd
        have df : decide (30 - (S.length : Int) < mo) = false := by simp only [decide_eq_false_iff_not]; omega
        simp (config := {maxSteps := 4000000}) only [U_law17_ModelCounts, dk, ap0, hmo, reduceIte, reduceCtorEq, Nat.reduceEqDiff, Nat.reduceAdd, Int.reduceLT, Int.reduceLE, Int.reduceNeg, Int.reduceEq, Nat.reduceLT, Nat.reduceSub, Nat.reduceMul, Nat.reduceBEq, Nat.reduceLeDiff, Int.reduceBEq, Int.reduceBNe, Int.reduceToNat, ne_eq, implies_true, bA]
        refine callM (do_k hM.app ⟨5, 1, (f : Int), (k : Int), dd⟩ (by simp only; omega) hcd (by simp)) ?_
        rintro r ob3 ⟨rfl, fp3, hM3, hF3⟩
        have hS3 := hM3.sec40
        obtain ⟨hp3, hpn⟩ := hF3.at (at_app hp)
        have hr3 := (hF3.at ⟨r0 _, hon⟩).1
        have hpl3 := lt_of_get hp3
        have hne : ob.length ≠ p := by omega
        have g1 : ∀ x, (ob3.set p x)[p]? = some x := fun x => List.getElem?_set_self hpl3
        have g2 : ∀ x, (ob3.set p x)[ob.length]? = some (.box [.int .i64 5, .int .i64 1, .int .i64 (f : Int), .int .i64 (k : Int), .str dd]) := fun x => by rw [List.getElem?_set_ne (Ne.symm hne)]; exact hr3
        have g3 : ∀ x y, (ob3.set p x).set p y = ob3.set p y := fun x y => List.set_set ..
        simp (config := {maxSteps := 4000000}) only [U_law17_ModelCounts, hr3, n6, w30, df, reduceIte, reduceCtorEq, Nat.reduceEqDiff, Nat.reduceAdd, Int.reduceLT, Int.reduceLE, Int.reduceNeg, Int.reduceEq, Nat.reduceLT, Nat.reduceSub, Nat.reduceMul, Nat.reduceBEq, Nat.reduceLeDiff, Int.reduceBEq, Int.reduceBNe, Int.reduceToNat, ne_eq, implies_true, bA]
        refine loopF (fun j : Nat => ⟨ofL [(0, .slc (l.map rowQ)), (3, .ref 1 0), (4, .ref p 0), (5, .int .i64 ((runR (onS S) f true j).countP id : Int)), (6, .int .i64 (i : Int)), (7, .ref ob.length 0), (8, .int .i64 (k : Int)), (12, .bool false), (13, .int .i64 (j : Int))], ob3.set p (.box ((runR (onS S) f true j).map PV.bool))⟩) (fun j => j ≤ k) (fun j => k - j) 0 ?_ (Nat.zero_le _) ?_
        · simp (config := {maxSteps := 4000000}) only [U_law17_ModelCounts, reduceIte, reduceCtorEq, Nat.reduceEqDiff, Nat.reduceAdd, Int.reduceLT, Int.reduceLE, Int.reduceNeg, Int.reduceEq, Nat.reduceLT, Nat.reduceSub, Nat.reduceMul, Nat.reduceBEq, Nat.reduceLeDiff, Int.reduceBEq, Int.reduceBNe, Int.reduceToNat, ne_eq, implies_true, bA]
          rw [show runR (onS S) f true 0 = onS S from rfl, setId hp3, ← on_count hsec]
        intro j hj
        have hrl := runR_len (onS S) f true j
        rw [onS_len] at hrl
        have hcl : (runR (onS S) f true j).countP id ≤ 40 := by have := List.countP_le_length (p := id) (l := runR (onS S) f true j); omega
        by_cases hjk : j < k
        · have dj : decide ((j : Int) < (k : Int)) = true := by simpa using hjk
          have wj : IntKind.i64.wrap ((f : Int) + (j : Int)) = ((f + j : Nat) : Int) := by rw [wrapI (by omega) (by omega)]; omega
          have wj1 : IntKind.i64.wrap ((j : Int) + 1) = ((j + 1 : Nat) : Int) := by rw [wrapI (by omega) (by omega)]; omega
          have ia := ia_on (p := p) (j := f + j) (by omega)
          have hjl : f + j < (runR (onS S) f true j).length := by omega
          have st := fun O => st_on (O := O) (o := p) (L := runR (onS S) f true j) (j := f + j) (b := true) hjl
          have ld2 := ld_on (L := (runR (onS S) f true j).set (f + j) true) (j := f + j) (b := true) (by rw [List.getElem?_set_self hjl])
          have cs := cnt_set (v := true) hjl
          have hrun : (runR (onS S) f true j).set (f + j) true = runR (onS S) f true (j + 1) := rfl
          rw [hrun] at cs ld2 st
          cases hb : (runR (onS S) f true j)[f + j] with
          | true =>
            have ld := ld_on (L := runR (onS S) f true j) (j := f + j) (b := true) (by rw [List.getElem?_eq_getElem hjl, hb])
            have hpos : 0 < (runR (onS S) f true j).countP id := List.countP_pos_iff.2 ⟨_, List.getElem_mem hjl, by rw [hb]; rfl⟩
            rw [hb] at cs
            have wa : IntKind.i64.wrap (((runR (onS S) f true j).countP id : Int) - 1) = ((runR (onS S) f true j).countP id : Int) - 1 := wrapI (by omega) (by omega)
            have wb : IntKind.i64.wrap (((runR (onS S) f true j).countP id : Int) - 1 + 1) = ((runR (onS S) f true (j + 1)).countP id : Int) := by rw [wrapI (by omega) (by omega), cs]; simp
            simp (config := {maxSteps := 4000000}) only [U_law17_ModelCounts, dj, wj, ia, g1, g2, g3, ld, n6, st, ld2, wa, wb, wj1, reduceIte, reduceCtorEq, Nat.reduceEqDiff, Nat.reduceAdd, Int.reduceLT, Int.reduceLE, Int.reduceNeg, Int.reduceEq, Nat.reduceLT, Nat.reduceSub, Nat.reduceMul, Nat.reduceBEq, Nat.reduceLeDiff, Int.reduceBEq, Int.reduceBNe, Int.reduceToNat, ne_eq, implies_true, bA]
            exact ⟨j + 1, rfl, hjk, by omega⟩
          | false =>
            have ld := ld_on (L := runR (onS S) f true j) (j := f + j) (b := false) (by rw [List.getElem?_eq_getElem hjl, hb])
            rw [hb] at cs
            have wb : IntKind.i64.wrap (((runR (onS S) f true j).countP id : Int) + 1) = ((runR (onS S) f true (j + 1)).countP id : Int) := by rw [wrapI (by omega) (by omega), cs]; simp
            simp (config := {maxSteps := 4000000}) only [U_law17_ModelCounts, dj, wj, ia, g1, g2, g3, ld, n6, st, ld2, wb, wj1, reduceIte, reduceCtorEq, Nat.reduceEqDiff, Nat.reduceAdd, Int.reduceLT, Int.reduceLE, Int.reduceNeg, Int.reduceEq, Nat.reduceLT, Nat.reduceSub, Nat.reduceMul, Nat.reduceBEq, Nat.reduceLeDiff, Int.reduceBEq, Int.reduceBNe, Int.reduceToNat, ne_eq, implies_true, bA]
            exact ⟨j + 1, rfl, hjk, by omega⟩
        have dj : decide ((j : Int) < (k : Int)) = false := by simpa using hjk
        have hjk' : j = k := by omega
        subst hjk'
        have hrun := runR_lay (S := S) (f := f) (n := j) (D := dataC ⟨5, 1, (f : Int), (j : Int), dd⟩) hDl hfn
        have hcnt : ((runR (onS S) f true j).countP id : Int) = ((layS S (f : Int) (dataC ⟨5, 1, (f : Int), (j : Int), dd⟩)).length : Int) := by rw [hrun, ← on_count hS3]
        rw [hrun]
        have hM4 : Mod (ob3.set p (.box ((onS (layS S (f : Int) (dataC ⟨5, 1, (f : Int), (j : Int), dd⟩))).map PV.bool))) fp3 1 30 (oneV (layS S (f : Int) (dataC ⟨5, 1, (f : Int), (j : Int), dd⟩))) := hM3.keep fun x hx => by rw [List.getElem?_set_ne]; rintro rfl; exact hpn hx
        rw [← hrun, hcnt]
        simp (config := {maxSteps := 4000000}) only [U_law17_ModelCounts, dj, reduceIte, reduceCtorEq, Nat.reduceEqDiff, Nat.reduceAdd, Int.reduceLT, Int.reduceLE, Int.reduceNeg, Int.reduceEq, Nat.reduceLT, Nat.reduceSub, Nat.reduceMul, Nat.reduceBEq, Nat.reduceLeDiff, Int.reduceBEq, Int.reduceBNe, Int.reduceToNat, ne_eq, implies_true, bA]
        rw [hrun]
        refine callM (do_k hM4 ⟨9, 1, 0, 0, []⟩ (by simp) (info_do _) (by simp)) ?_
        rintro r ob5 ⟨rfl, fp5, hM5, hF5⟩
        have hp5 := hF5.at ⟨List.getElem?_set_self hpl3, hpn⟩
        simp (config := {maxSteps := 4000000}) only [U_law17_ModelCounts, ap0, st0, bne_same, hcnt, reduceIte, reduceCtorEq, Nat.reduceEqDiff, Nat.reduceAdd, Int.reduceLT, Int.reduceLE, Int.reduceNeg, Int.reduceEq, Nat.reduceLT, Nat.reduceSub, Nat.reduceMul, Nat.reduceBEq, Nat.reduceLeDiff, Int.reduceBEq, Int.reduceBNe, Int.reduceToNat, ne_eq, implies_true, bA]
        refine callM (do_w30 hM5.app ⟨10, 0, 0, 0, []⟩ (by simp) (list_do _)) ?_
        rintro r ob6 ⟨ids, fp6, rfl, hM6, hF6⟩
        simp (config := {maxSteps := 4000000}) only [U_law17_ModelCounts, bne_same, hcnt, e1, reduceIte, reduceCtorEq, Nat.reduceEqDiff, Nat.reduceAdd, Int.reduceLT, Int.reduceLE, Int.reduceNeg, Int.reduceEq, Nat.reduceLT, Nat.reduceSub, Nat.reduceMul, Nat.reduceBEq, Nat.reduceLeDiff, Int.reduceBEq, Int.reduceBNe, Int.reduceToNat, ne_eq, implies_true, bA]
        exact ⟨(ob6, fp6, layS S (f : Int) (dataC ⟨5, 1, (f : Int), (j : Int), dd⟩), i + 1), rfl, ⟨hM6, hF6.at (at_app hp5), hlt⟩, m1 0⟩
      · -- op = 6
        have n4 : ((6 : Int) != 4) = true := by decide
        have n5 : ((6 : Int) != 5) = true := by decide
        have n6 : ((6 : Int) != 6) = false := by decide
        simp only [wN] at hnn
        rw [if_neg (by omega)] at hnn
        subst hnn
        by_cases ca : fr < 0
        · have dca : decide (fr < 0) = true := by simpa using ca
          simp (config := {maxSteps := 4000000}) only [U_law17_ModelCounts, d1, d2, isl, ap0, st0, e1, dca, reduceIte, reduceCtorEq, Nat.reduceEqDiff, Nat.reduceAdd, Int.reduceLT, Int.reduceLE, Int.reduceNeg, Int.reduceEq, Nat.reduceLT, Nat.reduceSub, Nat.reduceMul, Nat.reduceBEq, Nat.reduceLeDiff, Int.reduceBEq, Int.reduceBNe, Int.reduceToNat, ne_eq, implies_true, bA]
          exact ⟨(ob ++ [_], fp, S, i + 1), rfl, ⟨hM.app, at_app hp, hlt⟩, m1 0⟩
        have dca : decide (fr < 0) = false := by simpa using ca
        by_cases cb : 40 ≤ fr
        · have dcb : decide (40 ≤ fr) = true := by simpa using cb
          simp (config := {maxSteps := 4000000}) only [U_law17_ModelCounts, d1, d2, isl, ap0, st0, e1, dca, dcb, reduceIte, reduceCtorEq, Nat.reduceEqDiff, Nat.reduceAdd, Int.reduceLT, Int.reduceLE, Int.reduceNeg, Int.reduceEq, Nat.reduceLT, Nat.reduceSub, Nat.reduceMul, Nat.reduceBEq, Nat.reduceLeDiff, Int.reduceBEq, Int.reduceBNe, Int.reduceToNat, ne_eq, implies_true, bA]
          exact ⟨(ob ++ [_], fp, S, i + 1), rfl, ⟨hM.app, at_app hp, hlt⟩, m1 0⟩
        have dcb : decide (40 ≤ fr) = false := by simpa using cb
        by_cases cc : n0 < 1
        · have dcc : decide (n0 < 1) = true := by simpa using cc
          simp (config := {maxSteps := 4000000}) only [U_law17_ModelCounts, d1, d2, isl, ap0, st0, e1, dca, dcb, dcc, reduceIte, reduceCtorEq, Nat.reduceEqDiff, Nat.reduceAdd, Int.reduceLT, Int.reduceLE, Int.reduceNeg, Int.reduceEq, Nat.reduceLT, Nat.reduceSub, Nat.reduceMul, Nat.reduceBEq, Nat.reduceLeDiff, Int.reduceBEq, Int.reduceBNe, Int.reduceToNat, ne_eq, implies_true, bA]
          exact ⟨(ob ++ [_], fp, S, i + 1), rfl, ⟨hM.app, at_app hp, hlt⟩, m1 0⟩
        have dcc : decide (n0 < 1) = false := by simpa using cc
        by_cases cd : 8 < n0
        · have dcd : decide (8 < n0) = true := by simpa using cd
          simp (config := {maxSteps := 4000000}) only [U_law17_ModelCounts, d1, d2, isl, ap0, st0, e1, dca, dcb, dcc, dcd, reduceIte, reduceCtorEq, Nat.reduceEqDiff, Nat.reduceAdd, Int.reduceLT, Int.reduceLE, Int.reduceNeg, Int.reduceEq, Nat.reduceLT, Nat.reduceSub, Nat.reduceMul, Nat.reduceBEq, Nat.reduceLeDiff, Int.reduceBEq, Int.reduceBNe, Int.reduceToNat, ne_eq, implies_true, bA]
          exact ⟨(ob ++ [_], fp, S, i + 1), rfl, ⟨hM.app, at_app hp, hlt⟩, m1 0⟩
        have dcd : decide (8 < n0) = false := by simpa using cd
        have w40 : IntKind.i64.wrap (40 - fr) = 40 - fr := wrapI (by omega) (by omega)
        by_cases ce : 40 - fr < n0
        · have dce : decide (40 - fr < n0) = true := by simpa using ce
          simp (config := {maxSteps := 4000000}) only [U_law17_ModelCounts, d1, d2, isl, ap0, st0, e1, dca, dcb, dcc, dcd, w40, dce, reduceIte, reduceCtorEq, Nat.reduceEqDiff, Nat.reduceAdd, Int.reduceLT, Int.reduceLE, Int.reduceNeg, Int.reduceEq, Nat.reduceLT, Nat.reduceSub, Nat.reduceMul, Nat.reduceBEq, Nat.reduceLeDiff, Int.reduceBEq, Int.reduceBNe, Int.reduceToNat, ne_eq, implies_true, bA]
          exact ⟨(ob ++ [_], fp, S, i + 1), rfl, ⟨hM.app, at_app hp, hlt⟩, m1 0⟩
        have dce : decide (40 - fr < n0) = false := by simpa using ce
        simp (config := {maxSteps := 4000000}) only [U_law17_ModelCounts, d1, d2, isl, ap0, st0, e1, dca, dcb, dcc, dcd, w40, dce, reduceIte, reduceCtorEq, Nat.reduceEqDiff, Nat.reduceAdd, Int.reduceLT, Int.reduceLE, Int.reduceNeg, Int.reduceEq, Nat.reduceLT, Nat.reduceSub, Nat.reduceMul, Nat.reduceBEq, Nat.reduceLeDiff, Int.reduceBEq, Int.reduceBNe, Int.reduceToNat, ne_eq, implies_true, bA]
        refine callI (small_spec ⟨6, 1, fr, n0, dd⟩) ?_
        by_cases cg : ¬ ((dd.length : Int) ≤ 1000)
        · have dcg : decide ((dd.length : Int) ≤ 1000) = false := by simpa using cg
          simp (config := {maxSteps := 4000000}) only [U_law17_ModelCounts, e1, dcg, reduceIte, reduceCtorEq, Nat.reduceEqDiff, Nat.reduceAdd, Int.reduceLT, Int.reduceLE, Int.reduceNeg, Int.reduceEq, Nat.reduceLT, Nat.reduceSub, Nat.reduceMul, Nat.reduceBEq, Nat.reduceLeDiff, Int.reduceBEq, Int.reduceBNe, Int.reduceToNat, ne_eq, implies_true, bA]
          exact ⟨(ob ++ [_], fp, S, i + 1), rfl, ⟨hM.app, at_app hp, hlt⟩, m1 0⟩
        replace cg := Decidable.not_not.1 cg
        have dcg : decide ((dd.length : Int) ≤ 1000) = true := by simpa using cg
        obtain ⟨f, rfl⟩ : ∃ f : Nat, fr = (f : Int) := ⟨fr.toNat, by omega⟩
        obtain ⟨n, hn⟩ : ∃ n : Nat, n0 = (n : Int) := ⟨n0.toNat, by omega⟩
        subst hn
        have hfn : f + n ≤ 40 := by omega
        have hmore := on_more hsec hfn
        have r0 : ∀ x, (ob ++ [x])[ob.length]? = some x := fun x => by rw [ap0]; rfl
        simp (config := {maxSteps := 4000000}) only [U_law17_ModelCounts, dcg, reduceIte, reduceCtorEq, Nat.reduceEqDiff, Nat.reduceAdd, Int.reduceLT, Int.reduceLE, Int.reduceNeg, Int.reduceEq, Nat.reduceLT, Nat.reduceSub, Nat.reduceMul, Nat.reduceBEq, Nat.reduceLeDiff, Int.reduceBEq, Int.reduceBNe, Int.reduceToNat, ne_eq, implies_true, bA]
        refine loopF (fun k : Nat => ⟨ofL [(0, .slc (l.map rowQ)), (3, .ref 1 0), (4, .ref p 0), (5, .int .i64 (S.length : Int)), (6, .int .i64 (i : Int)), (7, .ref ob.length 0), (8, .int .i64 (n : Int)), (9, .int .i64 ((List.range k).countP (fun j => !onJ S (f + j)) : Int)), (10, .int .i64 (k : Int))], ob ++ [.box [.int .i64 6, .int .i64 1, .int .i64 (f : Int), .int .i64 (n : Int), .str dd]]⟩) (fun k => k ≤ n) (fun k => n - k) 0 ?_ (Nat.zero_le _) ?_
        · simp (config := {maxSteps := 4000000}) only [U_law17_ModelCounts, reduceIte, reduceCtorEq, Nat.reduceEqDiff, Nat.reduceAdd, Int.reduceLT, Int.reduceLE, Int.reduceNeg, Int.reduceEq, Nat.reduceLT, Nat.reduceSub, Nat.reduceMul, Nat.reduceBEq, Nat.reduceLeDiff, Int.reduceBEq, Int.reduceBNe, Int.reduceToNat, ne_eq, implies_true, bA]
          all_goals rfl
        intro k hk
        by_cases hkn : k < n
        · have dk : decide ((k : Int) < (n : Int)) = true := by simpa using hkn
          have wk : IntKind.i64.wrap ((f : Int) + (k : Int)) = ((f + k : Nat) : Int) := by rw [wrapI (by omega) (by omega)]; omega
          have wk1 : IntKind.i64.wrap ((k : Int) + 1) = ((k + 1 : Nat) : Int) := by rw [wrapI (by omega) (by omega)]; omega
          have ia := ia_on (p := p) (j := f + k) (by omega)
          have ld := ld_on (onS_get (S := S) (j := f + k) (by omega))
          have hle : (List.range k).countP (fun j => !onJ S (f + j)) ≤ k := by have := List.countP_le_length (p := fun j => !onJ S (f + j)) (l := List.range k); simpa using this
          cases ho : onJ S (f + k) with
          | true =>
            have hc1 : (List.range (k + 1)).countP (fun j => !onJ S (f + j)) = (List.range k).countP (fun j => !onJ S (f + j)) := by rw [List.range_succ, List.countP_append]; simp [ho]
            simp (config := {maxSteps := 4000000}) only [U_law17_ModelCounts, dk, ap0, wk, ia, hpA, ld, ho, wk1, reduceIte, reduceCtorEq, Nat.reduceEqDiff, Nat.reduceAdd, Int.reduceLT, Int.reduceLE, Int.reduceNeg, Int.reduceEq, Nat.reduceLT, Nat.reduceSub, Nat.reduceMul, Nat.reduceBEq, Nat.reduceLeDiff, Int.reduceBEq, Int.reduceBNe, Int.reduceToNat, ne_eq, implies_true, bA]
            exact ⟨k + 1, by rw [hc1], hkn, by omega⟩
          | false =>
            have hc1 : (List.range (k + 1)).countP (fun j => !onJ S (f + j)) = (List.range k).countP (fun j => !onJ S (f + j)) + 1 := by rw [List.range_succ, List.countP_append]; simp [ho]
            have wc : IntKind.i64.wrap (((List.range k).countP (fun j => !onJ S (f + j)) : Int) + 1) = ((List.range (k + 1)).countP (fun j => !onJ S (f + j)) : Int) := by rw [hc1, wrapI (by omega) (by omega)]; omega
            simp (config := {maxSteps := 4000000}) only [U_law17_ModelCounts, dk, ap0, wk, ia, hpA, ld, ho, wk1, wc, reduceIte, reduceCtorEq, Nat.reduceEqDiff, Nat.reduceAdd, Int.reduceLT, Int.reduceLE, Int.reduceNeg, Int.reduceEq, Nat.reduceLT, Nat.reduceSub, Nat.reduceMul, Nat.reduceBEq, Nat.reduceLeDiff, Int.reduceBEq, Int.reduceBNe, Int.reduceToNat, ne_eq, implies_true, bA]
            exact ⟨k + 1, rfl, hkn, by omega⟩
        have dk : decide ((k : Int) < (n : Int)) = false := by simpa using hkn
        have hkn' : k = n := by omega
        subst hkn'
        obtain ⟨mo, hmo⟩ : ∃ mo : Int, ((List.range k).countP (fun j => !onJ S (f + j)) : Int) = mo := ⟨_, rfl⟩
        rw [hmo] at hmore
        have hwn : wN ⟨6, 1, (f : Int), (k : Int), dd⟩ = (k : Int) := by simp [wN]
        have hcd := counts_do (S := S) ⟨6, 1, (f : Int), (k : Int), dd⟩ rfl (by simp) (by simp) (by rw [hwn]; show (k : Int) ≤ 40 - (f : Int); omega) (by rw [hwn]; omega)
        have hB : wB ⟨6, 1, (f : Int), (k : Int), dd⟩ = true := by
          simp only [wB, wN]; simp; omega
        rw [if_neg (by rw [hB]; simp), if_pos rfl, hwn] at hcd
        simp (config := {maxSteps := 4000000}) only [U_law17_ModelCounts, dk, ap0, hmo, reduceIte, reduceCtorEq, Nat.reduceEqDiff, Nat.reduceAdd, Int.reduceLT, Int.reduceLE, Int.reduceNeg, Int.reduceEq, Nat.reduceLT, Nat.reduceSub, Nat.reduceMul, Nat.reduceBEq, Nat.reduceLeDiff, Int.reduceBEq, Int.reduceBNe, Int.reduceToNat, ne_eq, implies_true, bA]
        refine callM (do_k hM.app ⟨6, 1, (f : Int), (k : Int), dd⟩ (by simp only; omega) hcd (by simp)) ?_
        rintro r ob3 ⟨rfl, fp3, hM3, hF3⟩
        have hS3 := hM3.sec40
        obtain ⟨hp3, hpn⟩ := hF3.at (at_app hp)
        have hr3 := (hF3.at ⟨r0 _, hon⟩).1
        have hpl3 := lt_of_get hp3
        have hne : ob.length ≠ p := by omega
        have g1 : ∀ x, (ob3.set p x)[p]? = some x := fun x => List.getElem?_set_self hpl3
        have g2 : ∀ x, (ob3.set p x)[ob.length]? = some (.box [.int .i64 6, .int .i64 1, .int .i64 (f : Int), .int .i64 (k : Int), .str dd]) := fun x => by rw [List.getElem?_set_ne (Ne.symm hne)]; exact hr3
        have g3 : ∀ x y, (ob3.set p x).set p y = ob3.set p y := fun x y => List.set_set ..
        simp (config := {maxSteps := 4000000}) only [U_law17_ModelCounts, hr3, n6, reduceIte, reduceCtorEq, Nat.reduceEqDiff, Nat.reduceAdd, Int.reduceLT, Int.reduceLE, Int.reduceNeg, Int.reduceEq, Nat.reduceLT, Nat.reduceSub, Nat.reduceMul, Nat.reduceBEq, Nat.reduceLeDiff, Int.reduceBEq, Int.reduceBNe, Int.reduceToNat, ne_eq, implies_true, bA]
        refine loopF (fun j : Nat => ⟨ofL [(0, .slc (l.map rowQ)), (3, .ref 1 0), (4, .ref p 0), (5, .int .i64 ((runR (onS S) f false j).countP id : Int)), (6, .int .i64 (i : Int)), (7, .ref ob.length 0), (8, .int .i64 (k : Int)), (12, .bool false), (13, .int .i64 (j : Int))], ob3.set p (.box ((runR (onS S) f false j).map PV.bool))⟩) (fun j => j ≤ k) (fun j => k - j) 0 ?_ (Nat.zero_le _) ?_
        · simp (config := {maxSteps := 4000000}) only [U_law17_ModelCounts, reduceIte, reduceCtorEq, Nat.reduceEqDiff, Nat.reduceAdd, Int.reduceLT, Int.reduceLE, Int.reduceNeg, Int.reduceEq, Nat.reduceLT, Nat.reduceSub, Nat.reduceMul, Nat.reduceBEq, Nat.reduceLeDiff, Int.reduceBEq, Int.reduceBNe, Int.reduceToNat, ne_eq, implies_true, bA]
          rw [show runR (onS S) f false 0 = onS S from rfl, setId hp3, ← on_count hsec]
        intro j hj
        have hrl := runR_len (onS S) f false j
        rw [onS_len] at hrl
        have hcl : (runR (onS S) f false j).countP id ≤ 40 := by have := List.countP_le_length (p := id) (l := runR (onS S) f false j); omega
        by_cases hjk : j < k
        · have dj : decide ((j : Int) < (k : Int)) = true := by simpa using hjk
          have wj : IntKind.i64.wrap ((f : Int) + (j : Int)) = ((f + j : Nat) : Int) := by rw [wrapI (by omega) (by omega)]; omega
          have wj1 : IntKind.i64.wrap ((j : Int) + 1) = ((j + 1 : Nat) : Int) := by rw [wrapI (by omega) (by omega)]; omega
          have ia := ia_on (p := p) (j := f + j) (by omega)
          have hjl : f + j < (runR (onS S) f false j).length := by omega
          have st := fun O => st_on (O := O) (o := p) (L := runR (onS S) f false j) (j := f + j) (b := false) hjl
          have ld2 := ld_on (L := (runR (onS S) f false j).set (f + j) false) (j := f + j) (b := false) (by rw [List.getElem?_set_self hjl])
          have cs := cnt_set (v := false) hjl
          have hrun : (runR (onS S) f false j).set (f + j) false = runR (onS S) f false (j + 1) := rfl
          rw [hrun] at cs ld2 st
          cases hb : (runR (onS S) f false j)[f + j] with
          | true =>
            have ld := ld_on (L := runR (onS S) f false j) (j := f + j) (b := true) (by rw [List.getElem?_eq_getElem hjl, hb])
            have hpos : 0 < (runR (onS S) f false j).countP id := List.countP_pos_iff.2 ⟨_, List.getElem_mem hjl, by rw [hb]; rfl⟩
            rw [hb] at cs
            have wa : IntKind.i64.wrap (((runR (onS S) f false j).countP id : Int) - 1) = ((runR (onS S) f false (j + 1)).countP id : Int) := by rw [wrapI (by omega) (by omega), cs]; simp
            have wb := trivial
            simp (config := {maxSteps := 4000000}) only [U_law17_ModelCounts, dj, wj, ia, g1, g2, g3, ld, n6, st, ld2, wa, wj1, reduceIte, reduceCtorEq, Nat.reduceEqDiff, Nat.reduceAdd, Int.reduceLT, Int.reduceLE, Int.reduceNeg, Int.reduceEq, Nat.reduceLT, Nat.reduceSub, Nat.reduceMul, Nat.reduceBEq, Nat.reduceLeDiff, Int.reduceBEq, Int.reduceBNe, Int.reduceToNat, ne_eq, implies_true, bA]
            exact ⟨j + 1, rfl, hjk, by omega⟩
          | false =>
            have ld := ld_on (L := runR (onS S) f false j) (j := f + j) (b := false) (by rw [List.getElem?_eq_getElem hjl, hb])
            rw [hb] at cs
            have wb : ((runR (onS S) f false j).countP id : Int) = ((runR (onS S) f false (j + 1)).countP id : Int) := by rw [cs]; simp
            simp (config := {maxSteps := 4000000}) only [U_law17_ModelCounts, dj, wj, ia, g1, g2, g3, ld, n6, st, ld2, wj1, reduceIte, reduceCtorEq, Nat.reduceEqDiff, Nat.reduceAdd, Int.reduceLT, Int.reduceLE, Int.reduceNeg, Int.reduceEq, Nat.reduceLT, Nat.reduceSub, Nat.reduceMul, Nat.reduceBEq, Nat.reduceLeDiff, Int.reduceBEq, Int.reduceBNe, Int.reduceToNat, ne_eq, implies_true, bA]
            exact ⟨j + 1, by rw [wb], hjk, by omega⟩
        have dj : decide ((j : Int) < (k : Int)) = false := by simpa using hjk
        have hjk' : j = k := by omega
        subst hjk'
        have hrun := runR_cut (S := S) (f := f) (n := j) hfn
        have hcnt : ((runR (onS S) f false j).countP id : Int) = ((cutS S (f : Int) ((f : Int) + (j : Int))).length : Int) := by rw [hrun, ← on_count hS3]
        rw [hrun]
        have hM4 : Mod (ob3.set p (.box ((onS (cutS S (f : Int) ((f : Int) + (j : Int)))).map PV.bool))) fp3 1 30 (oneV (cutS S (f : Int) ((f : Int) + (j : Int)))) := hM3.keep fun x hx => by rw [List.getElem?_set_ne]; rintro rfl; exact hpn hx
        rw [← hrun, hcnt]
        simp (config := {maxSteps := 4000000}) only [U_law17_ModelCounts, dj, reduceIte, reduceCtorEq, Nat.reduceEqDiff, Nat.reduceAdd, Int.reduceLT, Int.reduceLE, Int.reduceNeg, Int.reduceEq, Nat.reduceLT, Nat.reduceSub, Nat.reduceMul, Nat.reduceBEq, Nat.reduceLeDiff, Int.reduceBEq, Int.reduceBNe, Int.reduceToNat, ne_eq, implies_true, bA]
        rw [hrun]
        refine callM (do_k hM4 ⟨9, 1, 0, 0, []⟩ (by simp) (info_do _) (by simp)) ?_
        rintro r ob5 ⟨rfl, fp5, hM5, hF5⟩
        have hp5 := hF5.at ⟨List.getElem?_set_self hpl3, hpn⟩
        simp (config := {maxSteps := 4000000}) only [U_law17_ModelCounts, ap0, st0, bne_same, hcnt, reduceIte, reduceCtorEq, Nat.reduceEqDiff, Nat.reduceAdd, Int.reduceLT, Int.reduceLE, Int.reduceNeg, Int.reduceEq, Nat.reduceLT, Nat.reduceSub, Nat.reduceMul, Nat.reduceBEq, Nat.reduceLeDiff, Int.reduceBEq, Int.reduceBNe, Int.reduceToNat, ne_eq, implies_true, bA]
        refine callM (do_w30 hM5.app ⟨10, 0, 0, 0, []⟩ (by simp) (list_do _)) ?_
        rintro r ob6 ⟨ids, fp6, rfl, hM6, hF6⟩
        simp (config := {maxSteps := 4000000}) only [U_law17_ModelCounts, bne_same, hcnt, e1, reduceIte, reduceCtorEq, Nat.reduceEqDiff, Nat.reduceAdd, Int.reduceLT, Int.reduceLE, Int.reduceNeg, Int.reduceEq, Nat.reduceLT, Nat.reduceSub, Nat.reduceMul, Nat.reduceBEq, Nat.reduceLeDiff, Int.reduceBEq, Int.reduceBNe, Int.reduceToNat, ne_eq, implies_true, bA]
        exact ⟨(ob6, fp6, cutS S (f : Int) ((f : Int) + (j : Int)), i + 1), rfl, ⟨hM6, hF6.at (at_app hp5), hlt⟩, m1 0⟩
    · have d2 : decide ((i : Int) < 60) = false := by simp; omega
      simp (config := {maxSteps := 4000000}) only [U_law17_ModelCounts, d1, d2, reduceIte, reduceCtorEq, Nat.reduceEqDiff, Nat.reduceAdd, Int.reduceLT, Int.reduceLE, Int.reduceNeg, Int.reduceEq, Nat.reduceLT, Nat.reduceSub, Nat.reduceMul, Nat.reduceBEq, Nat.reduceLeDiff, Int.reduceBEq, Int.reduceBNe, Int.reduceToNat, ne_eq, implies_true, bA]
  · have d1 : decide ((i : Int) < (l.length : Int)) = false := by simpa using hlt
    simp (config := {maxSteps := 4000000}) only [U_law17_ModelCounts, d1, reduceIte, reduceCtorEq, Nat.reduceEqDiff, Nat.reduceAdd, Int.reduceLT, Int.reduceLE, Int.reduceNeg, Int.reduceEq, Nat.reduceLT, Nat.reduceSub, Nat.reduceMul, Nat.reduceBEq, Nat.reduceLeDiff, Int.reduceBEq, Int.reduceBNe, Int.reduceToNat, ne_eq, implies_true, bA]
end Go.Proofs.Ythjnfjgejdlbfaa.Aw
