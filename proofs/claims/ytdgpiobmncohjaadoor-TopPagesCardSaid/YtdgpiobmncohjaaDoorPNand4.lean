/-
  The array of pages: its other methods.
-/
import Derived.Test.YtdgpiobmncohjaaDoorPNand3
set_option linter.unusedSimpArgs false
set_option linter.unusedVariables false
namespace Go.Proofs.YtdgpiobmncohjaaDoor.Aw
open Go.RowKit

variable {ob : List AObj} {N B : Nat} {E : List Ent} {ops : Int} {pl : PV} {pk : Nat} {P : List Mis} {down : Bool}

theorem read_i {b k : Nat} {e : Ent} (h : NandAt ob N B E ops pl pk P false) (he : E[b]? = some e) (hk : k < 8) {pg : Int} (hpg : pg = ((8 * b + k : Nat) : Int)) :
    ICall Tryd.prog 25 [.ref N 0, .int .i64 pg] ob fun r ob' => (∃ ex, ob' = ob ++ ex) ∧ r = .tup [.str (e.b.pg.getD k []), errV (if k < e.b.pg.length then 0 else 42)] := by
  subst hpg
  refine icall_dr Tryd.func25 comp_nand_Nand_read ?_
  have hb : b < 16 := by have := (List.getElem?_eq_some_iff.1 he).1; rw [h.len] at this; exact this
  obtain ⟨W, hW⟩ : ∃ W, ob ++ [AObj.box [.ref N 0], AObj.box [.int .i64 ((8 * b + k : Nat) : Int)]] = W := ⟨_, rfl⟩
  have hA : NandAt W N B E ops pl pk P false := by rw [← hW]; exact h.app _
  have c0 : W[ob.length]? = some (.box [.ref N 0]) := by rw [← hW, List.getElem?_append_right (Nat.le_refl _)]; simp
  have c1 : W[ob.length + 1]? = some (.box [.int .i64 ((8 * b + k : Nat) : Int)]) := by rw [← hW, List.getElem?_append_right (by omega)]; simp
  simp (config := {maxSteps := 4000000}) only [U_nand_Nand_read, hW, c0, reduceIte, reduceCtorEq, Nat.reduceEqDiff, Nat.reduceAdd, Int.reduceLT, Int.reduceLE, Int.reduceNeg, Int.reduceEq, Nat.reduceLT, Nat.reduceSub, Nat.reduceMul, Nat.reduceBEq, Nat.reduceLeDiff, Int.reduceBEq, Int.reduceBNe, Int.reduceToNat, ne_eq, implies_true, bA]
  refine callM (ready_i hA (readc_i hA c0 c1 (by omega))) ?_
  rintro r ob' ⟨rfl, e9⟩
  rw [e9]
  clear e9 ob'
  have hN := hA.hN
  have hB := hA.hB
  have d1 : IntKind.i64.wrap (((8 * b + k : Nat) : Int).tdiv 8) = (b : Int) := by
    have : ((8 * b + k : Nat) : Int).tdiv 8 = (b : Int) := by rw [Int.tdiv_eq_ediv_of_nonneg (by omega)]; omega
    rw [this, wrapI (by omega) (by omega)]
  have d2 : ((8 * b + k : Nat) : Int).tmod 8 = (k : Int) := by rw [Int.tmod_eq_emod_of_nonneg (by omega)]; omega
  have i1 : ∀ o : List AObj, islV o [] 3 (.bsl B 0 16) (.int .i64 (b : Int)) = some (.ref B (3 * b)) := fun o => by
    rw [islV_bsl (by simp; omega)]; simp; omega
  have l0 := ldE (j := 0) (v := e.pv) he rfl
  simp only [Nat.add_zero] at l0
  rcases hA.pgs e (List.mem_of_getElem? he) with ⟨g1, g2⟩ | ⟨g1, g2⟩
  · rw [g2] at l0
    have d : decide ((0 : Int) ≤ (k : Int)) = true := by simp
    simp (config := {maxSteps := 4000000}) only [U_nand_Nand_read, c0, c1, hN, hB, d1, d2, i1, l0, d, reduceIte, reduceCtorEq, Nat.reduceEqDiff, Nat.reduceAdd, Int.reduceLT, Int.reduceLE, Int.reduceNeg, Int.reduceEq, Nat.reduceLT, Nat.reduceSub, Nat.reduceMul, Nat.reduceBEq, Nat.reduceLeDiff, Int.reduceBEq, Int.reduceBNe, Int.reduceToNat, ne_eq, implies_true, bA]
    refine ⟨_, rfl, ⟨_, hW.symm⟩, ?_⟩
    rw [g1]; simp [errV]
  · rw [g1] at l0
    have hr : rowsO (some (lS e.b.pg)) 0 e.b.pg.length = some (rowsS e.b.pg) := rowsO_all (by simp)
    by_cases hlt : k < e.b.pg.length
    · have d : decide ((e.b.pg.length : Int) ≤ (k : Int)) = false := by simp; omega
      have i2 := islO_map (g := fun s : List UInt8 => [PV.str s]) (l := e.b.pg) (e := 1) (o := e.k) (m := e.b.pg.length) (k := .i64) rfl hlt
      have i3 := ldL_map (g := fun s : List UInt8 => [PV.str s]) (l := e.b.pg) (e := 1) (len := e.b.pg.length) (off := 0) (n := 1) rfl hlt (by simp)
      simp (config := {maxSteps := 4000000}) only [U_nand_Nand_read, c0, c1, hN, hB, d1, d2, i1, l0, g2, hr, d, i2, i3, reduceIte, reduceCtorEq, Nat.reduceEqDiff, Nat.reduceAdd, Int.reduceLT, Int.reduceLE, Int.reduceNeg, Int.reduceEq, Nat.reduceLT, Nat.reduceSub, Nat.reduceMul, Nat.reduceBEq, Nat.reduceLeDiff, Int.reduceBEq, Int.reduceBNe, Int.reduceToNat, ne_eq, implies_true, bA]
      refine ⟨_, rfl, ⟨_, hW.symm⟩, ?_⟩
      simp [errV, hlt, List.getD_eq_getElem?_getD]
    · have d : decide ((e.b.pg.length : Int) ≤ (k : Int)) = true := by simp; omega
      simp (config := {maxSteps := 4000000}) only [U_nand_Nand_read, c0, c1, hN, hB, d1, d2, i1, l0, g2, hr, d, reduceIte, reduceCtorEq, Nat.reduceEqDiff, Nat.reduceAdd, Int.reduceLT, Int.reduceLE, Int.reduceNeg, Int.reduceEq, Nat.reduceLT, Nat.reduceSub, Nat.reduceMul, Nat.reduceBEq, Nat.reduceLeDiff, Int.reduceBEq, Int.reduceBNe, Int.reduceToNat, ne_eq, implies_true, bA]
      refine ⟨_, rfl, ⟨_, hW.symm⟩, ?_⟩
      simp [errV, hlt, List.getD_eq_getElem?_getD, List.getElem?_eq_none (Nat.le_of_not_lt hlt)]
theorem bad_r {b : Nat} {e : Ent} (h : NandAt ob N B E ops pl pk P down) (he : E[b]? = some e) : RCall Tryd.prog 16 [.ref N 0, .int .i64 (b : Int)] ob (.bool e.b.bad) := by
  have hb : b < 16 := by have := (List.getElem?_eq_some_iff.1 he).1; rw [h.len] at this; exact this
  refine RCall.of (K := fun r ob' => r = .bool e.b.bad ∧ ob' = ob) ?_ (fun r ob' h => ⟨h.1, [], by rw [h.2]; simp⟩) rfl
  refine icall_dr Tryd.func16 comp_nand_Nand_Bad ?_
  have hN := h.hN
  have hB := h.hB
  have i1 : ∀ o : List AObj, islV o [] 3 (.bsl B 0 16) (.int .i64 (b : Int)) = some (.ref B (3 * b)) := fun o => by
    rw [islV_bsl (by simp; omega)]; simp; omega
  have l2 := ldE (j := 2) (v := .bool e.b.bad) he (by simp [cellsE])
  simp (config := {maxSteps := 4000000}) only [U_nand_Nand_Bad, reduceIte, reduceCtorEq, Nat.reduceEqDiff, Nat.reduceAdd, Int.reduceLT, Int.reduceLE, Int.reduceNeg, Int.reduceEq, Nat.reduceLT, Nat.reduceSub, Nat.reduceMul, Nat.reduceBEq, Nat.reduceLeDiff, Int.reduceBEq, Int.reduceBNe, Int.reduceToNat, ne_eq, implies_true, bA]
  refine callR (block_r h hb) ?_
  simp (config := {maxSteps := 4000000}) only [U_nand_Nand_Bad, hN, hB, i1, l2, reduceIte, reduceCtorEq, Nat.reduceEqDiff, Nat.reduceAdd, Int.reduceLT, Int.reduceLE, Int.reduceNeg, Int.reduceEq, Nat.reduceLT, Nat.reduceSub, Nat.reduceMul, Nat.reduceBEq, Nat.reduceLeDiff, Int.reduceBEq, Int.reduceBNe, Int.reduceToNat, ne_eq, implies_true, bA]
  exact ⟨_, rfl, rfl⟩
theorem up_i (h : NandAt ob N B E ops pl pk P down) : ICall Tryd.prog 12 [.ref N 0] ob fun r ob' => NandAt ob' N B E ops .nils 0 [] false ∧ KeepL ob ob' := by
  refine icall_dr Tryd.func12 comp_nand_Nand_Up ?_
  have hN := h.hN
  have sN : ∀ c, (ob.set N c)[N]? = some c := fun c => set_get hN
  simp (config := {maxSteps := 4000000}) only [U_nand_Nand_Up, hN, sN, List.set_set, reduceIte, reduceCtorEq, Nat.reduceEqDiff, Nat.reduceAdd, Int.reduceLT, Int.reduceLE, Int.reduceNeg, Int.reduceEq, Nat.reduceLT, Nat.reduceSub, Nat.reduceMul, Nat.reduceBEq, Nat.reduceLeDiff, Int.reduceBEq, Int.reduceBNe, Int.reduceToNat, ne_eq, implies_true, bA]
  refine ⟨_, rfl, ⟨sN _, ?_, h.len, fun f hf => ?_, .inl ⟨rfl, rfl⟩, h.inj, h.ops0, h.ops1, by simp⟩, KeepL.box hN⟩
  · rw [List.getElem?_set_ne (ne_NB h)]; exact h.hB
  · rcases h.pgs f hf with y | ⟨y1, y2⟩
    · exact .inl y
    · exact .inr ⟨y1, by rw [List.getElem?_set_ne (ne_kind hN y2)]; exact y2⟩
theorem known_bsl {o i n} : PV.known (.bsl o i n) = true := rfl
theorem cellsOf_bsl {o i n} : PV.cellsOf (.bsl o i n) = [.bsl o i n] := rfl
theorem cell_bsl {o i n} : PV.cell? (.bsl o i n) = true := rfl
def bls0 : List Ent := List.replicate 16 ⟨.nils, 0, zeroK⟩
theorem new_i (ob : List AObj) : ICall Tryd.prog 7 [.agg [.int .i64 16, .int .i64 8]] ob fun r ob' => (∃ N B, r = .tup [.ref N 0, .nili] ∧ NandAt ob' N B bls0 0 .nils 0 [] false) ∧ KeepL ob ob' := by
  refine icall_dr Tryd.func7 comp_nand_New ?_
  have g0 : ∀ l : List AObj, (ob ++ l)[ob.length]? = l[0]? := fun l => by rw [List.getElem?_append_right (Nat.le_refl _)]; simp
  have g1 : ∀ l : List AObj, (ob ++ l)[ob.length + 1]? = l[1]? := fun l => by rw [List.getElem?_append_right (by omega)]; simp
  have g2 : ∀ l : List AObj, (ob ++ l)[ob.length + 2]? = l[2]? := fun l => by rw [List.getElem?_append_right (by omega)]; simp
  have z1 : ∀ (l : List AObj) a, (ob ++ l).set (ob.length + 1) a = ob ++ l.set 1 a := fun l a => by rw [List.set_append_right _ _ (by omega)]; simp
  have z2 : ∀ (l : List AObj) a, (ob ++ l).set (ob.length + 2) a = ob ++ l.set 2 a := fun l a => by rw [List.set_append_right _ _ (by omega)]; simp
  have n1 : (ob.length == ob.length + 1) = false := by simp
  have n2 : (ob.length == ob.length + 1 + 1) = false := by simp; omega
  have hz : ∀ ks, mksO [.nils, .int .i64 0, .bool false] (.int .i64 16) (.int .i64 16) ks = ks 16 := fun ks => by rw [mksO_int (by omega) (by omega) (by simp [PV.scal]) (by simp [ownL, PV.own?])]; rfl
  have hin : (decide ((16 : Int) ≤ 16) && decide ((16 : Int) ≤ 64)) = true := by decide
  have hin2 : (decide ((8 : Int) ≤ 8) && decide ((8 : Int) ≤ 32)) = true := by decide
  simp (config := {maxSteps := 4000000}) only [U_nand_New, g0, g1, reduceIte, reduceCtorEq, Nat.reduceEqDiff, Nat.reduceAdd, Int.reduceLT, Int.reduceLE, Int.reduceNeg, Int.reduceEq, Nat.reduceLT, Nat.reduceSub, Nat.reduceMul, Nat.reduceBEq, Nat.reduceLeDiff, Int.reduceBEq, Int.reduceBNe, Int.reduceToNat, ne_eq, implies_true, bA]
  refine callI (nin_spec 16 16 64) ?_
  rw [hin]
  simp (config := {maxSteps := 4000000}) only [U_nand_New, g0, g1, reduceIte, reduceCtorEq, Nat.reduceEqDiff, Nat.reduceAdd, Int.reduceLT, Int.reduceLE, Int.reduceNeg, Int.reduceEq, Nat.reduceLT, Nat.reduceSub, Nat.reduceMul, Nat.reduceBEq, Nat.reduceLeDiff, Int.reduceBEq, Int.reduceBNe, Int.reduceToNat, ne_eq, implies_true, bA]
  refine callI (nin_spec 8 8 32) ?_
  rw [hin2]
  simp (config := {maxSteps := 4000000}) only [U_nand_New, g0, g1, g2, z1, z2, n1, n2, hz, known_bsl, cellsOf_bsl, cell_bsl, reduceIte, reduceCtorEq, Nat.reduceEqDiff, Nat.reduceAdd, Int.reduceLT, Int.reduceLE, Int.reduceNeg, Int.reduceEq, Nat.reduceLT, Nat.reduceSub, Nat.reduceMul, Nat.reduceBEq, Nat.reduceLeDiff, Int.reduceBEq, Int.reduceBNe, Int.reduceToNat, ne_eq, implies_true, bA]
  refine ⟨_, rfl, ⟨_, ob.length + 1, rfl, ⟨g2 _, g1 _, rfl, fun e he => ?_, .inl ⟨rfl, rfl⟩, fun i j a b ha _ na _ _ => ?_, by omega, by omega, by simp⟩⟩, KeepL.app _ _⟩
  · rw [List.eq_of_mem_replicate he]; exact .inl ⟨rfl, rfl⟩
  · rw [List.eq_of_mem_replicate (List.mem_of_getElem? ha)] at na; exact absurd rfl na

theorem erase_i {b : Nat} {e : Ent} (h : NandAt ob N B E ops pl pk P false) (hops : ops < 1000000) (he : E[b]? = some e) (hbad : e.b.bad = false) (hw0 : 0 ≤ e.b.wn) (hw1 : e.b.wn ≤ 1000000) (hm1 : (cM P (ops + 1)).kd ≠ 1) :
    ICall Tryd.prog 28 [.ref N 0, .int .i64 (b : Int)] ob fun r ob' => ∃ E', NandAt ob' N B E' (ops + 1) pl pk P false ∧ KeepL ob ob' ∧ r = errV (if (cM P (ops + 1)).kd = 3 then 41 else 0) ∧
      E'.map (·.b) = (E.map (·.b)).set b (if (cM P (ops + 1)).kd = 3 then ⟨e.b.pg, e.b.wn, true⟩ else ⟨[], e.b.wn + 1, false⟩) := by
  refine icall_dr Tryd.func28 comp_nand_Nand_erase ?_
  have hb : b < 16 := by have := (List.getElem?_eq_some_iff.1 he).1; rw [h.len] at this; exact this
  obtain ⟨W, hW⟩ : ∃ W, ob ++ [AObj.box [.ref N 0], AObj.box [.int .i64 (b : Int)]] = W := ⟨_, rfl⟩
  have hA : NandAt W N B E ops pl pk P false := by rw [← hW]; exact h.app _
  have c0 : W[ob.length]? = some (.box [.ref N 0]) := by rw [← hW, List.getElem?_append_right (Nat.le_refl _)]; simp
  have c1 : W[ob.length + 1]? = some (.box [.int .i64 (b : Int)]) := by rw [← hW, List.getElem?_append_right (by omega)]; simp
  have kW : KeepL ob W := by rw [← hW]; exact KeepL.app _ _
  simp (config := {maxSteps := 4000000}) only [U_nand_Nand_erase, hW, c0, reduceIte, reduceCtorEq, Nat.reduceEqDiff, Nat.reduceAdd, Int.reduceLT, Int.reduceLE, Int.reduceNeg, Int.reduceEq, Nat.reduceLT, Nat.reduceSub, Nat.reduceMul, Nat.reduceBEq, Nat.reduceLeDiff, Int.reduceBEq, Int.reduceBNe, Int.reduceToNat, ne_eq, implies_true, bA]
  refine callM (ready_i hA (erasec_i hA c0 c1 hb)) ?_
  rintro r ob' ⟨rfl, e9⟩
  rw [e9]
  clear e9 ob'
  have hN := hA.hN
  have hB := hA.hB
  have i1 : ∀ o : List AObj, islV o [] 3 (.bsl B 0 16) (.int .i64 (b : Int)) = some (.ref B (3 * b)) := fun o => by
    rw [islV_bsl (by simp; omega)]; simp; omega
  have l2 := ldE (j := 2) (v := .bool false) he (by simp [cellsE, hbad])
  have l1 := ldE (j := 1) (v := .int .i64 e.b.wn) he rfl
  simp (config := {maxSteps := 4000000}) only [U_nand_Nand_erase, c0, c1, hN, hB, i1, l2, reduceIte, reduceCtorEq, Nat.reduceEqDiff, Nat.reduceAdd, Int.reduceLT, Int.reduceLE, Int.reduceNeg, Int.reduceEq, Nat.reduceLT, Nat.reduceSub, Nat.reduceMul, Nat.reduceBEq, Nat.reduceLeDiff, Int.reduceBEq, Int.reduceBNe, Int.reduceToNat, ne_eq, implies_true, bA]
  refine callM (count_i hA) ?_
  rintro r ob' ⟨rfl, ex, hob'⟩
  rw [hob']
  obtain ⟨m, hm⟩ : ∃ m, cM P (ops + 1) = m := ⟨_, rfl⟩
  rw [hm] at hm1 ⊢
  obtain ⟨X, hX⟩ : ∃ X, W.set N (boxN B (ops + 1) pl false) ++ ex = X := ⟨_, rfl⟩
  rw [hX]
  have nNB := ne_NB hA
  have sx : ∀ i a, W[i]? = some a → i ≠ N → X[i]? = some a := fun i a h1 h2 => by rw [← hX]; exact apN (by rw [List.getElem?_set_ne (fun e => h2 e.symm)]; exact h1) ex
  have xN : X[N]? = some (.box [.int .i64 16, .int .i64 8, .bsl B 0 16, .int .i64 (ops + 1), pl, .bool false]) := by rw [← hX]; exact apN (set_get hN) ex
  have xB := sx B _ hB (fun e => nNB e.symm)
  have kX : KeepL W X := by rw [← hX]; exact (KeepL.box hN).trans (KeepL.app _ _)
  have hXA : NandAt X N B E (ops + 1) pl pk P false := by
    refine ⟨xN, xB, h.len, fun f hf => ?_, ?_, hA.inj, by have := h.ops0; omega, by omega, h.pl1⟩
    · rcases hA.pgs f hf with y | ⟨y1, y2⟩
      · exact .inl y
      · exact .inr ⟨y1, sx _ _ y2 (fun e => ne_kind hN y2 e.symm)⟩
    · rcases hA.plan with y | ⟨y1, y2⟩
      · exact .inl y
      · exact .inr ⟨y1, sx _ _ y2 (fun e => ne_kind hN y2 e.symm)⟩
  clear hob' hX
  have gN := fun (l : List AObj) => apN xN l
  have gB := fun (l : List AObj) => apN xB l
  have y0 : ∀ l : List AObj, (X ++ l)[X.length]? = l[0]? := fun l => by rw [List.getElem?_append_right (Nat.le_refl _)]; simp
  have z0 : ∀ (l : List AObj) a, (X ++ l).set X.length a = X ++ l.set 0 a := fun l a => by rw [List.set_append_right _ _ (Nat.le_refl _)]; simp
  have dm1 : (m.kd == 1) = false := by simp [hm1]
  have w1 : IntKind.i64.wrap (e.b.wn + 1) = e.b.wn + 1 := wrapI (by omega) (by omega)
  have keep : ∀ (l : List AObj) c (i z : Nat) (r : List (List PV)), X[i]? = some (.list z r) → ((X ++ l).set B c)[i]? = some (.list z r) := fun l c i z r hi => by
    rw [List.getElem?_set_ne (ne_kind xB hi)]; exact apN hi _
  have hupd : ∀ (l : List AObj) (e' : Ent), (e'.pv = .nils ∧ e'.b.pg = [] ∨ e'.pv = e.pv ∧ e'.k = e.k ∧ e'.b.pg = e.b.pg) → NandAt ((X ++ l).set B (.box ((E.set b e').flatMap cellsE))) N B (E.set b e') (ops + 1) pl pk P false ∧ KeepL X ((X ++ l).set B (.box ((E.set b e').flatMap cellsE))) := fun l e' he' => by
    refine ⟨hXA.upd e' ?_ (set_get (gB l)) ?_ (fun j f hf _ => ?_) ?_ (fun nv j f hf hj nf hk => ?_) hXA.ops0 hXA.ops1, (KeepL.app _ _).trans (KeepL.box (gB l) (.inr (by rw [flat_len3, h.len])))⟩
    · rw [List.getElem?_set_ne (fun e => nNB e.symm)]; exact gN l
    · rcases he' with ⟨k1, k2⟩ | ⟨k1, k2, k3⟩
      · exact .inl ⟨k2, k1⟩
      · rcases hXA.pgs e (List.mem_of_getElem? he) with y | ⟨y1, y2⟩
        · exact .inl ⟨by rw [k3]; exact y.1, by rw [k1]; exact y.2⟩
        · exact .inr ⟨by rw [k1, k2, k3]; exact y1, by rw [k2, k3]; exact keep l _ _ _ _ y2⟩
    · rcases hXA.pgs f (List.mem_of_getElem? hf) with y | ⟨y1, y2⟩
      · exact .inl y
      · exact .inr ⟨y1, keep l _ _ _ _ y2⟩
    · rcases hXA.plan with y | ⟨y1, y2⟩
      · exact .inl y
      · exact .inr ⟨y1, keep l _ _ _ _ y2⟩
    · rcases he' with ⟨k1, _⟩ | ⟨k1, k2, _⟩
      · exact nv k1
      · exact hj (hXA.inj j b f e hf he nf (by rw [← k1]; exact nv) (by rw [hk, k2]))
  by_cases m3 : m.kd = 3
  · have dm3 : (m.kd == 3) = true := by simp [m3]
    obtain ⟨e', he'⟩ : ∃ e' : Ent, (⟨e.pv, e.k, ⟨e.b.pg, e.b.wn, true⟩⟩ : Ent) = e' := ⟨_, rfl⟩
    have sB := fun (o : List AObj) => stE (ob := o) (B := B) (b := b) (j := 2) (e' := e') (v := .bool true) he (by omega) (by rw [← he']; simp [cellsE])
    simp (config := {maxSteps := 4000000}) only [U_nand_Nand_erase, rowM, gN, gB, y0, z0, i1, dm1, dm3, sB, reduceIte, reduceCtorEq, Nat.reduceEqDiff, Nat.reduceAdd, Int.reduceLT, Int.reduceLE, Int.reduceNeg, Int.reduceEq, Nat.reduceLT, Nat.reduceSub, Nat.reduceMul, Nat.reduceBEq, Nat.reduceLeDiff, Int.reduceBEq, Int.reduceBNe, Int.reduceToNat, ne_eq, implies_true, bA]
    have fin := hupd [.box [.int .i64 m.at_, .int .i64 m.kd, .int .i64 m.kp, .str m.jk]] e' (.inr (by rw [← he']; exact ⟨rfl, rfl, rfl⟩))
    refine ⟨_, rfl, E.set b e', fin.1, kW.trans (kX.trans fin.2), by simp [errV, m3], ?_⟩
    rw [map_set, ← he']; simp [m3]
  · have dm3 : (m.kd == 3) = false := by simp [m3]
    obtain ⟨e1, he1⟩ : ∃ e1 : Ent, (⟨.nils, e.k, ⟨[], e.b.wn, false⟩⟩ : Ent) = e1 := ⟨_, rfl⟩
    obtain ⟨e', he'⟩ : ∃ e' : Ent, (⟨.nils, e.k, ⟨[], e.b.wn + 1, false⟩⟩ : Ent) = e' := ⟨_, rfl⟩
    have sB := fun (o : List AObj) => stE (ob := o) (B := B) (b := b) (j := 0) (e' := e1) (v := .nils) he (by omega) (by rw [← he1]; simp [cellsE, hbad])
    have he1b : (E.set b e1)[b]? = some e1 := by rw [List.getElem?_set_self (List.getElem?_eq_some_iff.1 he).1]
    have l1' := ldE (j := 1) (v := .int .i64 e.b.wn) he1b (by rw [← he1]; rfl)
    have sB2 := fun (o : List AObj) => stE (ob := o) (B := B) (b := b) (j := 1) (e' := e') (v := .int .i64 (e.b.wn + 1)) he1b (by omega) (by rw [← he1, ← he']; simp [cellsE])
    rw [List.set_set] at sB2
    have u2 : ∀ (l : List AObj) c, ((X ++ l).set B c)[B]? = some c := fun l c => set_get (gB l)
    simp only [Nat.add_zero] at sB
    simp (config := {maxSteps := 4000000}) only [U_nand_Nand_erase, rowM, gN, gB, y0, z0, i1, dm1, dm3, sB, sB2, l1', u2, w1, List.set_set, reduceIte, reduceCtorEq, Nat.reduceEqDiff, Nat.reduceAdd, Int.reduceLT, Int.reduceLE, Int.reduceNeg, Int.reduceEq, Nat.reduceLT, Nat.reduceSub, Nat.reduceMul, Nat.reduceBEq, Nat.reduceLeDiff, Int.reduceBEq, Int.reduceBNe, Int.reduceToNat, ne_eq, implies_true, bA]
    have fin := hupd [.box [.int .i64 m.at_, .int .i64 m.kd, .int .i64 m.kp, .str m.jk]] e' (.inl (by rw [← he']; exact ⟨rfl, rfl⟩))
    refine ⟨_, rfl, E.set b e', fin.1, kW.trans (kX.trans fin.2), by simp [errV, m3], ?_⟩
    rw [map_set, ← he']; simp [m3]

end Go.Proofs.YtdgpiobmncohjaaDoor.Aw
