/-
  The array of pages: a plan is laid; its methods as a caller has them.
-/
import Derived.Test.YtdgpiobmncohjaaDoorPNand4
set_option linter.unusedSimpArgs false
set_option linter.unusedVariables false
namespace Go.Proofs.YtdgpiobmncohjaaDoor.Aw
open Go.RowKit

variable {ob : List AObj} {N B : Nat} {E : List Ent} {ops : Int} {pl : PV} {pk : Nat} {P : List Mis} {down : Bool}

abbrev boxP (B : Nat) (ops : Int) (pl : PV) (down : Bool) : AObj := .box [.int .i64 16, .int .i64 8, .bsl B 0 16, .int .i64 ops, pl, .bool down]
theorem NandAt.plan1 (h : NandAt ob N B E ops pl pk P down) (bm : AObj) (m : Mis) :
    NandAt ((ob ++ [bm, lM [m]]).set N (boxP B ops (.osl (ob.length + 1) 0 1) down)) N B E ops (.osl (ob.length + 1) 0 1) (ob.length + 1) [m] down ∧ KeepL ob ((ob ++ [bm, lM [m]]).set N (boxP B ops (.osl (ob.length + 1) 0 1) down)) := by
  have hN := apN h.hN [bm, lM [m]]
  have lN := lt_ofN h.hN
  refine ⟨⟨set_get hN, ?_, h.len, fun f hf => ?_, .inr ⟨rfl, ?_⟩, h.inj, h.ops0, h.ops1, by simp⟩, (KeepL.app _ _).trans (KeepL.box hN)⟩
  · rw [List.getElem?_set_ne (ne_NB h)]; exact apN h.hB _
  · rcases h.pgs f hf with y | ⟨y1, y2⟩
    · exact .inl y
    · exact .inr ⟨y1, by rw [List.getElem?_set_ne (ne_kind h.hN y2)]; exact apN y2 _⟩
  · rw [List.getElem?_set_ne (by omega), List.getElem?_append_right (by omega)]; simp
theorem NandAt.plan2 (h : NandAt ob N B E ops (.osl pk 0 P.length) pk P down) (hk : ob[pk]? = some (lM P)) (x : List AObj) (m : Mis) (hl : P.length < 1000000) :
    NandAt (((ob ++ x).set pk (lM (P ++ [m]))).set N (boxP B ops (.osl pk 0 (P.length + 1)) down)) N B E ops (.osl pk 0 (P.length + 1)) pk (P ++ [m]) down ∧ KeepL ob (((ob ++ x).set pk (lM (P ++ [m]))).set N (boxP B ops (.osl pk 0 (P.length + 1)) down)) := by
  have hN := apN h.hN x
  have kN := ne_kind h.hN hk
  have kB := ne_kind h.hB hk
  have hN2 : ((ob ++ x).set pk (lM (P ++ [m])))[N]? = some (boxP B ops (.osl pk 0 P.length) down) := by rw [List.getElem?_set_ne (fun e => kN e.symm)]; exact hN
  refine ⟨⟨set_get hN2, ?_, h.len, fun f hf => ?_, .inr ⟨by simp, ?_⟩, h.inj, h.ops0, h.ops1, by simp; omega⟩, ((KeepL.app _ _).trans (KeepL.lm (apN hk x))).trans (KeepL.box hN2)⟩
  · rw [List.getElem?_set_ne (ne_NB h), List.getElem?_set_ne (fun e => kB e.symm)]; exact apN h.hB _
  · rcases h.pgs f hf with y | ⟨y1, y2⟩
    · exact .inl y
    · exact .inr ⟨y1, by rw [List.getElem?_set_ne (ne_kind h.hN y2), List.getElem?_set_ne (fun e => ne_13 y2 hk e.symm)]; exact apN y2 _⟩
  · rw [List.getElem?_set_ne kN]; exact set_get (apN hk x)
def shM (ops : Int) (m : Mis) : Mis := { m with at_ := m.at_ + ops }
theorem plan_i (h : NandAt ob N B E ops pl pk P false) (l : List Mis) (hl : l.length ≤ 1000) (hat : ∀ m ∈ l, 1 ≤ m.at_ ∧ m.at_ ≤ 1000) :
    ICall Tryd.prog 10 [.ref N 0, .slc (l.map rowM)] ob fun r ob' => (∃ pl' pk', NandAt ob' N B E ops pl' pk' (l.map (shM ops)) false) ∧ KeepL ob ob' := by
  refine icall_dr Tryd.func10 comp_nand_Nand_Plan ?_
  have hN := h.hN
  simp (config := {maxSteps := 4000000}) only [U_nand_Nand_Plan, hN, reduceIte, reduceCtorEq, Nat.reduceEqDiff, Nat.reduceAdd, Int.reduceLT, Int.reduceLE, Int.reduceNeg, Int.reduceEq, Nat.reduceLT, Nat.reduceSub, Nat.reduceMul, Nat.reduceBEq, Nat.reduceLeDiff, Int.reduceBEq, Int.reduceBNe, Int.reduceToNat, ne_eq, implies_true, bA]
  refine loopF (fun s : Nat × List AObj × PV × Nat => ⟨ofL [(0, .ref N 0), (11, .slc (l.map rowM)), (12, .int .i64 (l.length : Int)), (13, .int .i64 (s.1 : Int))], s.2.1⟩)
    (fun s => s.1 ≤ l.length ∧ NandAt s.2.1 N B E ops s.2.2.1 s.2.2.2 ((l.take s.1).map (shM ops)) false ∧ KeepL ob s.2.1) (fun s => l.length - s.1) (0, ob.set N (boxP B ops .nils false), .nils, 0) ?_ ⟨Nat.zero_le _, ?_, KeepL.box hN⟩ ?_
  · simp (config := {maxSteps := 4000000}) only [U_nand_Nand_Plan, reduceIte, reduceCtorEq, Nat.reduceEqDiff, Nat.reduceAdd, Int.reduceLT, Int.reduceLE, Int.reduceNeg, Int.reduceEq, Nat.reduceLT, Nat.reduceSub, Nat.reduceMul, Nat.reduceBEq, Nat.reduceLeDiff, Int.reduceBEq, Int.reduceBNe, Int.reduceToNat, ne_eq, implies_true, bA]
    all_goals rfl
  · refine ⟨set_get hN, ?_, h.len, fun f hf => ?_, .inl ⟨rfl, rfl⟩, h.inj, h.ops0, h.ops1, by simp⟩
    · rw [List.getElem?_set_ne (ne_NB h)]; exact h.hB
    · rcases h.pgs f hf with y | ⟨y1, y2⟩
      · exact .inl y
      · exact .inr ⟨y1, by rw [List.getElem?_set_ne (ne_kind hN y2)]; exact y2⟩
  · rintro ⟨i, X, pv, pk'⟩ ⟨hi, hX, hK⟩
    simp only at hi hX hK ⊢
    by_cases hlt : i < l.length
    · have d : decide ((i : Int) < (l.length : Int)) = true := by simpa using hlt
      obtain ⟨m, hm⟩ : ∃ m, l[i] = m := ⟨_, rfl⟩
      have hmm : m ∈ l := by rw [← hm]; exact List.getElem_mem hlt
      have ha := hat m hmm
      have hr : i < (l.map rowM).length := by simpa using hlt
      have i1 : ∀ OB : List AObj, islV OB [] 4 (.slc (l.map rowM)) (.int .i64 (i : Int)) = some (.fptr (rowM m)) := fun OB => by
        rw [islV_slc (k := .i64) hr (by simp [rowM])]; simp [hm]
      have d1 : decide ((1 : Int) ≤ m.at_) = true := by simpa using ha.1
      have d2 : decide (m.at_ ≤ 1099511627776) = true := by simp; omega
      have h0 := hX.ops0
      have h1 := hX.ops1
      have w1 : IntKind.i64.wrap (m.at_ + ops) = m.at_ + ops := wrapI (by omega) (by omega)
      have w2 : IntKind.i64.wrap ((i : Int) + 1) = ((i + 1 : Nat) : Int) := by rw [wrapI (by omega) (by omega)]; omega
      have xN := hX.hN
      have gN := fun (l : List AObj) => apN xN l
      have lN := lt_ofN xN
      have y0 : ∀ l : List AObj, (X ++ l)[X.length]? = l[0]? := fun l => by rw [List.getElem?_append_right (Nat.le_refl _)]; simp
      have y1 : ∀ l : List AObj, (X ++ l)[X.length + 1]? = l[1]? := fun l => by rw [List.getElem?_append_right (by omega)]; simp
      have z0 : ∀ (l : List AObj) a, (X ++ l).set X.length a = X ++ l.set 0 a := fun l a => by rw [List.set_append_right _ _ (Nat.le_refl _)]; simp
      have z1 : ∀ (l : List AObj) a, (X ++ l).set (X.length + 1) a = X ++ l.set 1 a := fun l a => by rw [List.set_append_right _ _ (by omega)]; simp
      have q0 : (X.length == X.length + 1) = false := by simp
      have qN : (N == X.length + 1) = false := by simp; omega
      have htk : (l.take (i + 1)).map (shM ops) = (l.take i).map (shM ops) ++ [shM ops m] := by rw [List.take_succ_eq_append_getElem hlt, List.map_append, hm]; rfl
      obtain ⟨Q, hQ⟩ : ∃ Q, (l.take i).map (shM ops) = Q := ⟨_, rfl⟩
      have hQl : Q.length ≤ 1000 := by rw [← hQ]; simp; omega
      rw [hQ] at hX htk
      rcases hX.plan with ⟨g1, g2⟩ | ⟨g1, g2⟩
      · subst g2
        have ap : ∀ (l : List AObj) fb, l[1]? = some .none → appO (X ++ l) fb (some (X.length + 1)) 4 .nils (some [[.int .i64 (m.at_ + ops), .int .i64 m.kd, .int .i64 m.kp, .str m.jk]]) = some (.osl (X.length + 1) 0 1, X ++ l.set 1 (lM [shM ops m])) := fun l fb hl => by
          rw [appO_nilsA (by rw [y1, hl]) (by simp [rowsOk]) (by simp), z1]; rfl
        have fin := hX.plan1 (.box (rowM (shM ops m))) (shM ops m)
        simp (config := {maxSteps := 4000000}) only [U_nand_Nand_Plan, d, i1, d1, d2, w1, w2, rowM, gN, y0, y1, z0, z1, q0, qN, ap, reduceIte, reduceCtorEq, Nat.reduceEqDiff, Nat.reduceAdd, Int.reduceLT, Int.reduceLE, Int.reduceNeg, Int.reduceEq, Nat.reduceLT, Nat.reduceSub, Nat.reduceMul, Nat.reduceBEq, Nat.reduceLeDiff, Int.reduceBEq, Int.reduceBNe, Int.reduceToNat, ne_eq, implies_true, bA]
        refine ⟨(i + 1, _, .osl (X.length + 1) 0 1, X.length + 1), rfl, ⟨hlt, ?_, hK.trans fin.2⟩, by simp only; omega⟩
        simp only [htk, g1, List.nil_append]
        exact fin.1
      · subst g1
        have gk := fun (l : List AObj) => apN g2 l
        have lk := lt_ofN g2
        have qk : (pk' == X.length + 1) = false := by simp; omega
        have kN := ne_kind xN g2
        have ap : ∀ (l : List AObj) fb nw, fb.contains pk' = false → appO (X ++ l) fb nw 4 (.osl pk' 0 Q.length) (some [[.int .i64 (m.at_ + ops), .int .i64 m.kd, .int .i64 m.kp, .str m.jk]]) = some (.osl pk' 0 (Q.length + 1), (X ++ l).set pk' (lM (Q ++ [shM ops m]))) := fun l fb nw hf => by
          rw [appO_osl hf (gk l) (by simp) (by simp; omega) (by simp [rowsOk]) (by simp)]; simp [lM, rowM, shM]
        have xeN : ∀ (l : List AObj) a, ((X ++ l).set pk' a)[N]? = some (.box [.int .i64 16, .int .i64 8, .bsl B 0 16, .int .i64 ops, .osl pk' 0 Q.length, .bool false]) := fun l a => by rw [List.getElem?_set_ne (fun e => kN e.symm)]; exact gN l
        have fin := hX.plan2 g2 [.box (rowM (shM ops m)), .none] (shM ops m) (by omega)
        simp (config := {maxSteps := 4000000}) only [U_nand_Nand_Plan, d, i1, d1, d2, w1, w2, rowM, gN, y0, y1, z0, z1, q0, qN, ap, gk, qk, xeN, reduceIte, reduceCtorEq, Nat.reduceEqDiff, Nat.reduceAdd, Int.reduceLT, Int.reduceLE, Int.reduceNeg, Int.reduceEq, Nat.reduceLT, Nat.reduceSub, Nat.reduceMul, Nat.reduceBEq, Nat.reduceLeDiff, Int.reduceBEq, Int.reduceBNe, Int.reduceToNat, ne_eq, implies_true, bA]
        refine ⟨(i + 1, _, .osl pk' 0 (Q.length + 1), pk'), rfl, ⟨hlt, ?_, hK.trans fin.2⟩, by simp only; omega⟩
        simp only [htk]
        exact fin.1
    · have d : decide ((i : Int) < (l.length : Int)) = false := by simpa using hlt
      rw [List.take_of_length_le (by omega)] at hX
      simp (config := {maxSteps := 4000000}) only [U_nand_Nand_Plan, d, reduceIte, reduceCtorEq, Nat.reduceEqDiff, Nat.reduceAdd, Int.reduceLT, Int.reduceLE, Int.reduceNeg, Int.reduceEq, Nat.reduceLT, Nat.reduceSub, Nat.reduceMul, Nat.reduceBEq, Nat.reduceLeDiff, Int.reduceBEq, Int.reduceBNe, Int.reduceToNat, ne_eq, implies_true, bA]
      exact ⟨_, rfl, ⟨_, _, hX⟩, hK⟩

/-- An array, as a caller has it. -/
def NandS (ob : List AObj) (N : Nat) (bl : List Bk) (ops : Int) (P : List Mis) (down : Bool) : Prop := ∃ B E pl pk, NandAt ob N B E ops pl pk P down ∧ E.map (·.b) = bl
theorem NandS.app {bl : List Bk} (h : NandS ob N bl ops P down) (l : List AObj) : NandS (ob ++ l) N bl ops P down := by
  obtain ⟨B, E, pl, pk, h1, h2⟩ := h
  exact ⟨B, E, pl, pk, h1.app l, h2⟩
theorem get_map {E : List Ent} {bl : List Bk} (h : E.map (·.b) = bl) {b : Nat} {k : Bk} (hb : bl[b]? = some k) : ∃ e, E[b]? = some e ∧ e.b = k := by
  rw [← h, List.getElem?_map] at hb
  obtain ⟨e, h1, h2⟩ := Option.map_eq_some_iff.1 hb
  exact ⟨e, h1, h2⟩
theorem Program_i {bl : List Bk} {b k : Nat} {bk : Bk} {s : List UInt8} (h : NandS ob N bl ops P false) (hops : ops < 1000000) (he : bl[b]? = some bk) (hk : k < 8) (hbad : bk.bad = false) (hlen : bk.pg.length = k) (hs : s.length ≤ 128) (hj : (cM P (ops + 1)).jk.length ≤ 1000) {pg : Int} (hpg : pg = ((8 * b + k : Nat) : Int)) :
    ICall Tryd.prog 9 [.ref N 0, .int .i64 pg, .str s] ob fun r ob' => NandS ob' N (bl.set b ⟨bk.pg ++ [pageT (cM P (ops + 1)) s], bk.wn, decide ((cM P (ops + 1)).kd = 2)⟩) (ops + 1) P (decide ((cM P (ops + 1)).kd = 1)) ∧ KeepL ob ob' ∧ WrapAt ob' (errT (cM P (ops + 1))) r := by
  obtain ⟨B, E, pl, pk, h1, h2⟩ := h
  obtain ⟨e, h3, rfl⟩ := get_map h2 he
  refine icall_dr Tryd.func9 comp_nand_Nand_Program ?_
  simp (config := {maxSteps := 4000000}) only [U_nand_Nand_Program, reduceIte, reduceCtorEq, Nat.reduceEqDiff, Nat.reduceAdd, Int.reduceLT, Int.reduceLE, Int.reduceNeg, Int.reduceEq, Nat.reduceLT, Nat.reduceSub, Nat.reduceMul, Nat.reduceBEq, Nat.reduceLeDiff, Int.reduceBEq, Int.reduceBNe, Int.reduceToNat, ne_eq, implies_true, bA]
  refine callM (prog_i h1 hops h3 hk hbad hlen hs hj hpg) ?_
  rintro r ob' ⟨E', hE, hK, rfl, hM⟩
  simp (config := {maxSteps := 4000000}) only [U_nand_Nand_Program, reduceIte, reduceCtorEq, Nat.reduceEqDiff, Nat.reduceAdd, Int.reduceLT, Int.reduceLE, Int.reduceNeg, Int.reduceEq, Nat.reduceLT, Nat.reduceSub, Nat.reduceMul, Nat.reduceBEq, Nat.reduceLeDiff, Int.reduceBEq, Int.reduceBNe, Int.reduceToNat, ne_eq, implies_true, bA]
  refine callM (wrap_i ob' _ _ _) ?_
  rintro r ob2 ⟨⟨ex, rfl⟩, hw⟩
  simp (config := {maxSteps := 4000000}) only [U_nand_Nand_Program, reduceIte, reduceCtorEq, Nat.reduceEqDiff, Nat.reduceAdd, Int.reduceLT, Int.reduceLE, Int.reduceNeg, Int.reduceEq, Nat.reduceLT, Nat.reduceSub, Nat.reduceMul, Nat.reduceBEq, Nat.reduceLeDiff, Int.reduceBEq, Int.reduceBNe, Int.reduceToNat, ne_eq, implies_true, bA]
  exact ⟨_, rfl, ⟨B, E', pl, pk, hE.app ex, by rw [hM, h2]⟩, hK.trans (KeepL.app _ _), hw⟩
theorem Read_i {bl : List Bk} {b k : Nat} {bk : Bk} (h : NandS ob N bl ops P false) (he : bl[b]? = some bk) (hk : k < 8) {pg : Int} (hpg : pg = ((8 * b + k : Nat) : Int)) :
    ICall Tryd.prog 13 [.ref N 0, .int .i64 pg] ob fun r ob' => ∃ r2, r = .tup [.str (bk.pg.getD k []), r2] ∧ NandS ob' N bl ops P false ∧ KeepL ob ob' ∧ WrapAt ob' (if k < bk.pg.length then 0 else 42) r2 := by
  have hS := h
  obtain ⟨B, E, pl, pk, h1, h2⟩ := h
  obtain ⟨e, h3, rfl⟩ := get_map h2 he
  refine icall_dr Tryd.func13 comp_nand_Nand_Read ?_
  simp (config := {maxSteps := 4000000}) only [U_nand_Nand_Read, reduceIte, reduceCtorEq, Nat.reduceEqDiff, Nat.reduceAdd, Int.reduceLT, Int.reduceLE, Int.reduceNeg, Int.reduceEq, Nat.reduceLT, Nat.reduceSub, Nat.reduceMul, Nat.reduceBEq, Nat.reduceLeDiff, Int.reduceBEq, Int.reduceBNe, Int.reduceToNat, ne_eq, implies_true, bA]
  refine callM (read_i h1 h3 hk hpg) ?_
  rintro r ob' ⟨⟨ex, rfl⟩, rfl⟩
  simp (config := {maxSteps := 4000000}) only [U_nand_Nand_Read, reduceIte, reduceCtorEq, Nat.reduceEqDiff, Nat.reduceAdd, Int.reduceLT, Int.reduceLE, Int.reduceNeg, Int.reduceEq, Nat.reduceLT, Nat.reduceSub, Nat.reduceMul, Nat.reduceBEq, Nat.reduceLeDiff, Int.reduceBEq, Int.reduceBNe, Int.reduceToNat, ne_eq, implies_true, bA]
  refine callM (wrap_i _ _ _ _) ?_
  rintro r ob2 ⟨⟨ex2, rfl⟩, hw⟩
  simp (config := {maxSteps := 4000000}) only [U_nand_Nand_Read, reduceIte, reduceCtorEq, Nat.reduceEqDiff, Nat.reduceAdd, Int.reduceLT, Int.reduceLE, Int.reduceNeg, Int.reduceEq, Nat.reduceLT, Nat.reduceSub, Nat.reduceMul, Nat.reduceBEq, Nat.reduceLeDiff, Int.reduceBEq, Int.reduceBNe, Int.reduceToNat, ne_eq, implies_true, bA]
  rw [List.append_assoc] at hw
  exact ⟨_, rfl, _, rfl, hS.app _, KeepL.app _ _, hw⟩
theorem Erase_i {bl : List Bk} {b : Nat} {bk : Bk} (h : NandS ob N bl ops P false) (hops : ops < 1000000) (he : bl[b]? = some bk) (hbad : bk.bad = false) (hw0 : 0 ≤ bk.wn) (hw1 : bk.wn ≤ 1000000) (hm1 : (cM P (ops + 1)).kd ≠ 1) :
    ICall Tryd.prog 15 [.ref N 0, .int .i64 (b : Int)] ob fun r ob' => NandS ob' N (bl.set b (if (cM P (ops + 1)).kd = 3 then ⟨bk.pg, bk.wn, true⟩ else ⟨[], bk.wn + 1, false⟩)) (ops + 1) P false ∧ KeepL ob ob' ∧ WrapAt ob' (if (cM P (ops + 1)).kd = 3 then 41 else 0) r := by
  obtain ⟨B, E, pl, pk, h1, h2⟩ := h
  obtain ⟨e, h3, rfl⟩ := get_map h2 he
  refine icall_dr Tryd.func15 comp_nand_Nand_Erase ?_
  simp (config := {maxSteps := 4000000}) only [U_nand_Nand_Erase, reduceIte, reduceCtorEq, Nat.reduceEqDiff, Nat.reduceAdd, Int.reduceLT, Int.reduceLE, Int.reduceNeg, Int.reduceEq, Nat.reduceLT, Nat.reduceSub, Nat.reduceMul, Nat.reduceBEq, Nat.reduceLeDiff, Int.reduceBEq, Int.reduceBNe, Int.reduceToNat, ne_eq, implies_true, bA]
  refine callM (erase_i h1 hops h3 hbad hw0 hw1 hm1) ?_
  rintro r ob' ⟨E', hE, hK, rfl, hM⟩
  simp (config := {maxSteps := 4000000}) only [U_nand_Nand_Erase, reduceIte, reduceCtorEq, Nat.reduceEqDiff, Nat.reduceAdd, Int.reduceLT, Int.reduceLE, Int.reduceNeg, Int.reduceEq, Nat.reduceLT, Nat.reduceSub, Nat.reduceMul, Nat.reduceBEq, Nat.reduceLeDiff, Int.reduceBEq, Int.reduceBNe, Int.reduceToNat, ne_eq, implies_true, bA]
  refine callM (wrap_i ob' _ _ _) ?_
  rintro r ob2 ⟨⟨ex, rfl⟩, hw⟩
  simp (config := {maxSteps := 4000000}) only [U_nand_Nand_Erase, reduceIte, reduceCtorEq, Nat.reduceEqDiff, Nat.reduceAdd, Int.reduceLT, Int.reduceLE, Int.reduceNeg, Int.reduceEq, Nat.reduceLT, Nat.reduceSub, Nat.reduceMul, Nat.reduceBEq, Nat.reduceLeDiff, Int.reduceBEq, Int.reduceBNe, Int.reduceToNat, ne_eq, implies_true, bA]
  exact ⟨_, rfl, ⟨B, E', pl, pk, hE.app ex, by rw [hM, h2]⟩, hK.trans (KeepL.app _ _), hw⟩
theorem Plan_i {bl : List Bk} (h : NandS ob N bl ops P false) (l : List Mis) (hl : l.length ≤ 1000) (hat : ∀ m ∈ l, 1 ≤ m.at_ ∧ m.at_ ≤ 1000) :
    ICall Tryd.prog 10 [.ref N 0, .slc (l.map rowM)] ob fun r ob' => NandS ob' N bl ops (l.map (shM ops)) false ∧ KeepL ob ob' := by
  obtain ⟨B, E, pl, pk, h1, h2⟩ := h
  refine callM (plan_i h1 l hl hat) ?_
  rintro r ob' ⟨⟨pl', pk', h3⟩, h4⟩
  exact ⟨⟨B, E, pl', pk', h3, h2⟩, h4⟩
theorem Up_i {bl : List Bk} (h : NandS ob N bl ops P down) : ICall Tryd.prog 12 [.ref N 0] ob fun r ob' => NandS ob' N bl ops [] false ∧ KeepL ob ob' := by
  obtain ⟨B, E, pl, pk, h1, h2⟩ := h
  refine callM (up_i h1) ?_
  rintro r ob' ⟨h3, h4⟩
  exact ⟨⟨B, E, .nils, 0, h3, h2⟩, h4⟩
theorem Bad_r {bl : List Bk} {b : Nat} {bk : Bk} (h : NandS ob N bl ops P down) (he : bl[b]? = some bk) : RCall Tryd.prog 16 [.ref N 0, .int .i64 (b : Int)] ob (.bool bk.bad) := by
  obtain ⟨B, E, pl, pk, h1, h2⟩ := h
  obtain ⟨e, h3, rfl⟩ := get_map h2 he
  exact bad_r h1 h3
def blK : List Bk := List.replicate 16 zeroK
theorem New_i (ob : List AObj) : ICall Tryd.prog 7 [.agg [.int .i64 16, .int .i64 8]] ob fun r ob' => ∃ N, r = .tup [.ref N 0, .nili] ∧ NandS ob' N blK 0 [] false ∧ KeepL ob ob' := by
  refine callM (new_i ob) ?_
  rintro r ob' ⟨⟨N, B, rfl, h⟩, hK⟩
  exact ⟨N, rfl, ⟨B, _, _, _, h, by simp [bls0, blK]⟩, hK⟩

end Go.Proofs.YtdgpiobmncohjaaDoor.Aw
