/-
  The array of pages: a page is programmed. Written by a program (mkprog.py).; The array of pages: its other methods.; The array of pages: a plan is laid; its methods as a caller has them.; The array of pages: what its other methods tell; an array whose pages stand one behind the other.
-/
import Derived.Test.YtdgpiobmncohjaaGreatDoorNda
set_option linter.unusedSimpArgs false
set_option linter.unusedVariables false
namespace Go.Proofs.YtdgpiobmncohjaaGreatDoor.Aw
open Go.RowKit

theorem flat_at {E : List Ent} {b : Nat} {e : Ent} (h : E[b]? = some e) : ∃ E1 E2, E = E1 ++ e :: E2 ∧ E1.length = b ∧ (E1.flatMap cellsE).length = 3 * b := by
  have hb : b < E.length := (List.getElem?_eq_some_iff.1 h).1
  have he : E[b] = e := by rw [List.getElem?_eq_getElem hb] at h; exact Option.some.inj h
  refine ⟨E.take b, E.drop (b + 1), ?_, by simp; omega, ?_⟩
  · rw [← he, ← List.drop_eq_getElem_cons hb, List.take_append_drop]
  · have : ∀ l : List Ent, (l.flatMap cellsE).length = 3 * l.length := fun l => by
      induction l with
      | nil => rfl
      | cons x l ih => rw [List.flatMap_cons, List.length_append, ih]; simp [cellsE]; omega
    rw [this]; simp; omega
theorem flat_len3 : ∀ l : List Ent, (l.flatMap cellsE).length = 3 * l.length
  | [] => rfl
  | x :: l => by rw [List.flatMap_cons, List.length_append, flat_len3 l]; simp [cellsE]; omega
theorem ldE {E : List Ent} {b j : Nat} {e : Ent} {v : PV} (h : E[b]? = some e) (hj : (cellsE e)[j]? = some v) : ldB (some (.box (E.flatMap cellsE))) (3 * b + j) 1 = some [v] := by
  obtain ⟨E1, E2, rfl, h1, h2⟩ := flat_at h
  have h3 : j < 3 := by have := (List.getElem?_eq_some_iff.1 hj).1; simpa [cellsE] using this
  rw [List.flatMap_append, List.flatMap_cons]
  have e1 : (List.flatMap cellsE E1 ++ (cellsE e ++ List.flatMap cellsE E2)).drop (3 * b + j) = (cellsE e).drop j ++ List.flatMap cellsE E2 := by
    rw [← List.drop_drop, List.drop_left' h2, List.drop_append_of_le_length (by simp [cellsE]; omega)]
  simp only [ldB]
  rw [if_pos (by simp [cellsE] at h2 ⊢; omega), e1]
  rcases j with _ | _ | _ | j
  · simp [cellsE] at hj ⊢; exact hj
  · simp [cellsE] at hj ⊢; exact hj
  · simp [cellsE] at hj ⊢; exact hj
  · omega
theorem stE {ob : List AObj} {B : Nat} {E : List Ent} {b j : Nat} {e e' : Ent} {v : PV} (h : E[b]? = some e) (hj : j < 3) (he : cellsE e' = (cellsE e).set j v) : stB ob B (some (.box (E.flatMap cellsE))) (3 * b + j) [v] = some (.bot, ob.set B (.box ((E.set b e').flatMap cellsE))) := by
  obtain ⟨E1, E2, rfl, h1, h2⟩ := flat_at h
  have e2 : (E1 ++ e :: E2).set b e' = E1 ++ e' :: E2 := by subst h1; simp
  rw [e2, List.flatMap_append, List.flatMap_cons, List.flatMap_append, List.flatMap_cons, he]
  simp only [stB]
  rw [if_pos (by simp [cellsE] at h2 ⊢; omega)]
  generalize hF : List.flatMap cellsE E1 = F at *
  generalize List.flatMap cellsE E2 = G
  have e3 : setAt (F ++ (cellsE e ++ G)) (3 * b + j) [v] = F ++ ((cellsE e).set j v ++ G) := by
    rw [setAt, ← h2, List.take_append, List.drop_append, List.length_singleton]
    have t1 : ∀ n, F.take (F.length + n) = F := fun n => List.take_of_length_le (by omega)
    have t2 : ∀ n, F.drop (F.length + n) = [] := fun n => List.drop_of_length_le (by omega)
    rcases j with _ | _ | _ | j
    · simp [cellsE, t2]
    · simp [cellsE, Nat.add_assoc, t1, t2]
    · simp [cellsE, Nat.add_assoc, t1, t2]
    · omega
  rw [e3]
theorem ne_kind {ob : List AObj} {i j : Nat} {c : List PV} {z : Nat} {r : List (List PV)} (h : ob[i]? = some (.box c)) (h' : ob[j]? = some (.list z r)) : i ≠ j := by rintro rfl; rw [h] at h'; cases h'
theorem ne_NB {ob : List AObj} {N B : Nat} {E : List Ent} {ops : Int} {pl : PV} {pk : Nat} {P : List Mis} {down : Bool} (h : NandAt ob N B E ops pl pk P down) : N ≠ B := by
  intro e
  have h1 := h.hN
  rw [e, h.hB] at h1
  injection h1 with h1; injection h1 with h1
  have h2 := congrArg List.length h1
  have h3 : ∀ l : List Ent, (l.flatMap cellsE).length = 3 * l.length := fun l => by
    induction l with
    | nil => rfl
    | cons x l ih => rw [List.flatMap_cons, List.length_append, ih]; simp [cellsE]; omega
  rw [h3, h.len] at h2
  simp at h2
theorem ne_kb {ob : List AObj} {i j : Nat} {a b : List PV} (h : ob[i]? = some (.box a)) (h' : ob[j]? = some (.box b)) (e : j = i) (hl : a.length = 1 := by rfl) (hb : b.length ≠ 1 := by assumption) : False := by subst e; rw [h] at h'; injection h' with h'; injection h' with h'; rw [h'] at hl; exact hb hl
theorem ne_13 {ob : List AObj} {i j : Nat} {l : List (List UInt8)} {m : List Mis} (h : ob[i]? = some (lS l)) (h' : ob[j]? = some (lM m)) : i ≠ j := by rintro rfl; rw [h] at h'; injection h' with h'; injection h' with h'; omega
/-- One block is another one now. -/
theorem NandAt.upd {ob ob' : List AObj} {N B : Nat} {E : List Ent} {ops ops' : Int} {pl : PV} {pk : Nat} {P : List Mis} {down down' : Bool} {b : Nat} (h : NandAt ob N B E ops pl pk P down) (e' : Ent)
    (hN : ob'[N]? = some (.box [.int .i64 16, .int .i64 8, .bsl B 0 16, .int .i64 ops', pl, .bool down'])) (hB : ob'[B]? = some (.box ((E.set b e').flatMap cellsE))) (hpg : PgAt ob' e')
    (hoth : ∀ (j : Nat) (f : Ent), E[j]? = some f → j ≠ b → PgAt ob' f) (hpl : PlAt ob' pl pk P) (hdis : e'.pv ≠ .nils → ∀ (j : Nat) (f : Ent), E[j]? = some f → j ≠ b → f.pv ≠ .nils → f.k ≠ e'.k) (h0 : 0 ≤ ops') (h1 : ops' ≤ 1000000) :
    NandAt ob' N B (E.set b e') ops' pl pk P down' where
  hN := hN
  hB := hB
  len := by rw [List.length_set]; exact h.len
  pgs x hx := by
    obtain ⟨j, hj⟩ := List.mem_iff_getElem?.1 hx
    by_cases hjb : j = b
    · subst hjb
      rw [List.getElem?_set_self' ] at hj
      cases hh : E[j]? with
      | none => rw [hh] at hj; cases hj
      | some y => rw [hh] at hj; cases hj; exact hpg
    · rw [List.getElem?_set_ne (fun e => hjb e.symm)] at hj
      exact hoth j x hj hjb
  plan := hpl
  inj i j x y hx hy nx ny hk := by
    by_cases hi : i = b
    · by_cases hj : j = b
      · rw [hi, hj]
      · subst hi
        rw [List.getElem?_set_self'] at hx
        rw [List.getElem?_set_ne (fun e => hj e.symm)] at hy
        cases hh : E[i]? with
        | none => rw [hh] at hx; cases hx
        | some z => rw [hh] at hx; cases hx; exact absurd hk.symm (hdis nx j y hy hj ny)
    · rw [List.getElem?_set_ne (fun e => hi e.symm)] at hx
      by_cases hj : j = b
      · subst hj
        rw [List.getElem?_set_self'] at hy
        cases hh : E[j]? with
        | none => rw [hh] at hy; cases hy
        | some z => rw [hh] at hy; cases hy; exact absurd hk (hdis ny i x hx hi nx)
      · rw [List.getElem?_set_ne (fun e => hj e.symm)] at hy
        exact h.inj i j x y hx hy nx ny hk
  ops0 := h0
  ops1 := h1
  pl1 := h.pl1
theorem NandAt.turn {ob : List AObj} {N B : Nat} {E : List Ent} {ops : Int} {pl : PV} {pk : Nat} {P : List Mis} {down : Bool} (h : NandAt ob N B E ops pl pk P down) (d : Bool) :
    NandAt (ob.set N (.box [.int .i64 16, .int .i64 8, .bsl B 0 16, .int .i64 ops, pl, .bool d])) N B E ops pl pk P d ∧ KeepL ob (ob.set N (.box [.int .i64 16, .int .i64 8, .bsl B 0 16, .int .i64 ops, pl, .bool d])) := by
  refine ⟨⟨set_get h.hN, ?_, h.len, fun f hf => ?_, ?_, h.inj, h.ops0, h.ops1, h.pl1⟩, KeepL.box h.hN⟩
  · rw [List.getElem?_set_ne (ne_NB h)]; exact h.hB
  · rcases h.pgs f hf with y | ⟨y1, y2⟩
    · exact .inl y
    · exact .inr ⟨y1, by rw [List.getElem?_set_ne (ne_kind h.hN y2)]; exact y2⟩
  · rcases h.plan with y | ⟨y1, y2⟩
    · exact .inl y
    · exact .inr ⟨y1, by rw [List.getElem?_set_ne (ne_kind h.hN y2)]; exact y2⟩
theorem NandAt.new {X : List AObj} {N B : Nat} {E : List Ent} {ops : Int} {pl : PV} {pk : Nat} {P : List Mis} {down : Bool} {b : Nat} (h : NandAt X N B E ops pl pk P down) (bm : AObj) (t : List UInt8) (e' : Ent) (h1 : e'.pv = .osl (X.length + 1) 0 1) (h2 : e'.k = X.length + 1) (h3 : e'.b.pg = [t]) :
    NandAt ((X ++ [bm, lS [t]]).set B (.box ((E.set b e').flatMap cellsE))) N B (E.set b e') ops pl pk P down ∧ KeepL X ((X ++ [bm, lS [t]]).set B (.box ((E.set b e').flatMap cellsE))) := by
  have hB := apN h.hB [bm, lS [t]]
  have keep : ∀ (i z : Nat) (r : List (List PV)), X[i]? = some (.list z r) → ((X ++ [bm, lS [t]]).set B (.box ((E.set b e').flatMap cellsE)))[i]? = some (.list z r) := fun i z r hi => by
    rw [List.getElem?_set_ne (ne_kind h.hB hi)]; exact apN hi _
  refine ⟨h.upd e' ?_ (set_get hB) ?_ (fun j f hf _ => ?_) ?_ (fun _ j f hf _ nf hk => ?_) h.ops0 h.ops1, (KeepL.app _ _).trans (KeepL.box hB (.inr (by rw [flat_len3, h.len])))⟩
  · rw [List.getElem?_set_ne (fun e => ne_NB h e.symm)]; exact apN h.hN _
  · refine .inr ⟨by rw [h1, h2, h3]; rfl, ?_⟩
    have := lt_ofN h.hB
    rw [h2, h3, List.getElem?_set_ne (by omega), List.getElem?_append_right (by omega)]; simp
  · rcases h.pgs f (List.mem_of_getElem? hf) with y | ⟨y1, y2⟩
    · exact .inl y
    · exact .inr ⟨y1, keep _ _ _ y2⟩
  · rcases h.plan with y | ⟨y1, y2⟩
    · exact .inl y
    · exact .inr ⟨y1, keep _ _ _ y2⟩
  · rcases h.pgs f (List.mem_of_getElem? hf) with y | ⟨y1, y2⟩
    · exact nf y.2
    · have := lt_ofN y2; omega
theorem NandAt.more {X : List AObj} {N B : Nat} {E : List Ent} {ops : Int} {pl : PV} {pk : Nat} {P : List Mis} {down : Bool} {b : Nat} {e : Ent} (h : NandAt X N B E ops pl pk P down) (he : E[b]? = some e) (x : List AObj) (t : List UInt8) (e' : Ent) (g1 : e.pv = .osl e.k 0 e.b.pg.length) (g2 : X[e.k]? = some (lS e.b.pg))
    (h1 : e'.pv = .osl e.k 0 (e.b.pg.length + 1)) (h2 : e'.k = e.k) (h3 : e'.b.pg = e.b.pg ++ [t]) :
    NandAt (((X ++ x).set e.k (lS (e.b.pg ++ [t]))).set B (.box ((E.set b e').flatMap cellsE))) N B (E.set b e') ops pl pk P down ∧ KeepL X (((X ++ x).set e.k (lS (e.b.pg ++ [t]))).set B (.box ((E.set b e').flatMap cellsE))) := by
  have hB := apN h.hB x
  have hk := apN g2 x
  have nB := ne_kind h.hB g2
  have nN := ne_kind h.hN g2
  have keep : ∀ (i z : Nat) (r : List (List PV)), i ≠ e.k → X[i]? = some (.list z r) → (((X ++ x).set e.k (lS (e.b.pg ++ [t]))).set B (.box ((E.set b e').flatMap cellsE)))[i]? = some (.list z r) := fun i z r hne hi => by
    rw [List.getElem?_set_ne (ne_kind h.hB hi), List.getElem?_set_ne (fun e => hne e.symm)]; exact apN hi _
  refine ⟨h.upd e' ?_ (set_get (by rw [List.getElem?_set_ne (fun e => nB e.symm)]; exact hB)) ?_ (fun j f hf hj => ?_) ?_ (fun _ j f hf hj nf hk2 => ?_) h.ops0 h.ops1, ((KeepL.app _ _).trans (KeepL.ls hk)).trans (KeepL.box (by rw [List.getElem?_set_ne (fun e => nB e.symm)]; exact hB) (.inr (by rw [flat_len3, h.len])))⟩
  · rw [List.getElem?_set_ne (fun e => ne_NB h e.symm), List.getElem?_set_ne (fun e => nN e.symm)]; exact apN h.hN _
  · refine .inr ⟨by rw [h1, h2, h3]; simp, ?_⟩
    rw [h2, h3, List.getElem?_set_ne nB]; exact set_get hk
  · rcases h.pgs f (List.mem_of_getElem? hf) with y | ⟨y1, y2⟩
    · exact .inl y
    · refine .inr ⟨y1, keep _ _ _ (fun ek => hj ?_) y2⟩
      exact h.inj j b f e hf he (by rw [y1]; simp) (by rw [g1]; simp) ek
  · rcases h.plan with y | ⟨y1, y2⟩
    · exact .inl y
    · exact .inr ⟨y1, keep _ _ _ (fun ek => by rw [ek] at y2; exact ne_13 g2 y2 rfl) y2⟩
  · rcases h.pgs f (List.mem_of_getElem? hf) with y | ⟨y1, y2⟩
    · exact nf y.2
    · exact hj (h.inj j b f e hf he nf (by rw [g1]; simp) (by rw [hk2, h2]))
/-- What a programmed page is; what the array does then. -/
def pageT (m : Mis) (s : List UInt8) : List UInt8 := if m.kd = 1 ∨ m.kd = 2 then spoiltS m s else s
def errT (m : Mis) : Int := if m.kd = 1 then 9 else if m.kd = 2 then 41 else 0
abbrev ProgK (ob : List AObj) (N B b : Nat) (E : List Ent) (ops : Int) (pl : PV) (pk : Nat) (P : List Mis) (bk : Bk) (down : Bool) (err : Int) : PV → List AObj → Prop := fun r ob' =>
  ∃ E', NandAt ob' N B E' (ops + 1) pl pk P down ∧ KeepL ob ob' ∧ r = errV err ∧ E'.map (·.b) = (E.map (·.b)).set b bk
theorem map_set (E : List Ent) (b : Nat) (e : Ent) : (E.set b e).map (·.b) = (E.map (·.b)).set b e.b := by rw [List.map_set]
theorem prog_i {ob : List AObj} {N B : Nat} {E : List Ent} {ops : Int} {pl : PV} {pk : Nat} {P : List Mis} {b k : Nat} {e : Ent} {s : List UInt8} (h : NandAt ob N B E ops pl pk P false) (hops : ops < 1000000) (he : E[b]? = some e) (hk : k < 8) (hbad : e.b.bad = false) (hlen : e.b.pg.length = k) (hs : s.length ≤ 128)
    (hj : (cM P (ops + 1)).jk.length ≤ 1000) {pg : Int} (hpg : pg = ((8 * b + k : Nat) : Int)) :
    ICall Tryz.prog 66 [.ref N 0, .int .i64 pg, .str s] ob (ProgK ob N B b E ops pl pk P ⟨e.b.pg ++ [pageT (cM P (ops + 1)) s], e.b.wn, decide ((cM P (ops + 1)).kd = 2)⟩ (decide ((cM P (ops + 1)).kd = 1)) (errT (cM P (ops + 1)))) := by
  subst hpg
  refine icall_dr Tryz.func66 comp_nand_Nand_program ?_
  have hb : b < 16 := by have := (List.getElem?_eq_some_iff.1 he).1; rw [h.len] at this; exact this
  obtain ⟨W, hW⟩ : ∃ W, ob ++ [AObj.box [.ref N 0], AObj.box [.int .i64 ((8 * b + k : Nat) : Int)], AObj.box [.str s]] = W := ⟨_, rfl⟩
  have hA : NandAt W N B E ops pl pk P false := by rw [← hW]; exact h.app _
  have c0 : W[ob.length]? = some (.box [.ref N 0]) := by rw [← hW, List.getElem?_append_right (Nat.le_refl _)]; simp
  have c1 : W[ob.length + 1]? = some (.box [.int .i64 ((8 * b + k : Nat) : Int)]) := by rw [← hW, List.getElem?_append_right (by omega)]; simp
  have c2 : W[ob.length + 2]? = some (.box [.str s]) := by rw [← hW, List.getElem?_append_right (by omega)]; simp
  have kW : KeepL ob W := by rw [← hW]; exact KeepL.app _ _
  simp (config := {maxSteps := 4000000}) only [U_nand_Nand_program, hW, c0, reduceIte, reduceCtorEq, Nat.reduceEqDiff, Nat.reduceAdd, Int.reduceLT, Int.reduceLE, Int.reduceNeg, Int.reduceEq, Nat.reduceLT, Nat.reduceSub, Nat.reduceMul, Nat.reduceBEq, Nat.reduceLeDiff, Int.reduceBEq, Int.reduceBNe, Int.reduceToNat, ne_eq, implies_true, bA]
  refine callM (ready_i hA (progc_i hA c0 c1 c2 (by omega) hs)) ?_
  rintro r ob' ⟨rfl, e9⟩
  rw [e9]
  clear e9 ob'
  have hN := hA.hN
  have hB := hA.hB
  have d1 : IntKind.i64.wrap (((8 * b + k : Nat) : Int).tdiv 8) = (b : Int) := by
    have : ((8 * b + k : Nat) : Int).tdiv 8 = (b : Int) := by rw [Int.tdiv_eq_ediv_of_nonneg (by omega)]; omega
    rw [this, wrapI (by omega) (by omega)]
  have d2 : ((8 * b + k : Nat) : Int).tmod 8 = (k : Int) := by rw [Int.tmod_eq_emod_of_nonneg (by omega)]; omega
  have i1 : ∀ o : List AObj, islV o [] 3 (.bsl B 0 16) (.int .i64 (b : Int)) = some (.ref B (3 * b)) := fun o => by
    rw [islV_bsl (by simp; omega)]; simp; omega
  have l0 := ldE (j := 0) (v := e.pv) he rfl
  have l2 := ldE (j := 2) (v := .bool false) he (by simp [cellsE, hbad])
  simp only [Nat.add_zero] at l0
  have hpgs := hA.pgs e (List.mem_of_getElem? he)
  have dn : ((k : Int) != (k : Int)) = false := by simp
  rcases hpgs with ⟨g1, g2⟩ | ⟨g1, g2⟩
  · have k0 : k = 0 := by rw [g1] at hlen; simpa using hlen.symm
    rw [g2] at l0
    have dn : ((k : Int) != 0) = false := by simp [k0]
    simp (config := {maxSteps := 4000000}) only [U_nand_Nand_program, c0, c1, hN, hB, d1, d2, i1, l0, l2, dn, reduceIte, reduceCtorEq, Nat.reduceEqDiff, Nat.reduceAdd, Int.reduceLT, Int.reduceLE, Int.reduceNeg, Int.reduceEq, Nat.reduceLT, Nat.reduceSub, Nat.reduceMul, Nat.reduceBEq, Nat.reduceLeDiff, Int.reduceBEq, Int.reduceBNe, Int.reduceToNat, ne_eq, implies_true, bA]
    refine callM (count_i hA) ?_
    rintro r ob' ⟨rfl, ex, hob'⟩
    rw [hob']
    obtain ⟨m, hm⟩ : ∃ m, cM P (ops + 1) = m := ⟨_, rfl⟩
    rw [hm] at hj ⊢
    obtain ⟨X, hX⟩ : ∃ X, W.set N (boxN B (ops + 1) pl false) ++ ex = X := ⟨_, rfl⟩
    rw [hX]
    have nNB := ne_NB hA
    have sx : ∀ i a, W[i]? = some a → i ≠ N → X[i]? = some a := fun i a h1 h2 => by rw [← hX]; exact apN (by rw [List.getElem?_set_ne (fun e => h2 e.symm)]; exact h1) ex
    have xN : X[N]? = some (.box [.int .i64 16, .int .i64 8, .bsl B 0 16, .int .i64 (ops + 1), pl, .bool false]) := by rw [← hX]; exact apN (set_get hN) ex
    have xB := sx B _ hB (fun e => nNB e.symm)
    have n0 : ob.length ≠ N := by have := lt_ofN h.hN; omega
    have n2 : ob.length + 2 ≠ N := by have := lt_ofN h.hN; omega
    have hBl : (E.flatMap cellsE).length ≠ 1 := by have := flat_len3 E; rw [h.len] at this; omega
    have x0 := sx _ _ c0 n0
    have x2 := sx _ _ c2 n2
    have kX : KeepL W X := by rw [← hX]; exact (KeepL.box hN).trans (KeepL.app _ _)
    have hXA : NandAt X N B E (ops + 1) pl pk P false := by
      refine ⟨xN, xB, h.len, fun f hf => ?_, ?_, hA.inj, by have := h.ops0; omega, by omega, h.pl1⟩
      · rcases hA.pgs f hf with y | ⟨y1, y2⟩
        · exact .inl y
        · exact .inr ⟨y1, sx _ _ y2 (fun e => ne_kind hN y2 e.symm)⟩
      · rcases hA.plan with y | ⟨y1, y2⟩
        · exact .inl y
        · exact .inr ⟨y1, sx _ _ y2 (fun e => ne_kind hN y2 e.symm)⟩
    clear hob' hX
    have gN := fun (l : List AObj) => apN xN l
    have gB := fun (l : List AObj) => apN xB l
    have gc0 := fun (l : List AObj) => apN x0 l
    have gc2 := fun (l : List AObj) => apN x2 l
    have y0 : ∀ l : List AObj, (X ++ l)[X.length]? = l[0]? := fun l => by rw [List.getElem?_append_right (Nat.le_refl _)]; simp
    have y1 : ∀ l : List AObj, (X ++ l)[X.length + 1]? = l[1]? := fun l => by rw [List.getElem?_append_right (by omega)]; simp
    have z0 : ∀ (l : List AObj) a, (X ++ l).set X.length a = X ++ l.set 0 a := fun l a => by rw [List.set_append_right _ _ (Nat.le_refl _)]; simp
    have z1 : ∀ (l : List AObj) a, (X ++ l).set (X.length + 1) a = X ++ l.set 1 a := fun l a => by rw [List.set_append_right _ _ (by omega)]; simp
    have lN := lt_ofN xN
    have lB := lt_ofN xB
    have lc := lt_ofN x2
    have q0 : (X.length == X.length + 1) = false := by simp
    have qN : (N == X.length + 1) = false := by simp; omega
    have qB : (B == X.length + 1) = false := by simp; omega
    have qc : (ob.length + 2 == X.length + 1) = false := by simp; omega
    have qd : (ob.length == X.length + 1) = false := by simp; omega
    by_cases m1 : m.kd = 1
    · have dm1 : (m.kd == 1) = true := by simp [m1]
      obtain ⟨t, ht⟩ : ∃ t, spoiltS m s = t := ⟨_, rfl⟩
      have hpt : pageT m s = t := by rw [← ht, pageT]; simp [m1]
      have ap : ∀ (l : List AObj) fb, l[1]? = some .none → appO (X ++ l) fb (some (X.length + 1)) 1 .nils (some [[.str t]]) = some (.osl (X.length + 1) 0 1, X ++ l.set 1 (lS [t])) := fun l fb hl => by
        rw [appO_nilsA (by rw [y1, hl]) (by simp [rowsOk]) (by simp), z1]; rfl
      obtain ⟨e', he'⟩ : ∃ e' : Ent, (⟨.osl (X.length + 1) 0 1, X.length + 1, ⟨[t], e.b.wn, false⟩⟩ : Ent) = e' := ⟨_, rfl⟩
      have sB := fun (o : List AObj) => stE (ob := o) (B := B) (b := b) (j := 0) (e' := e') (v := .osl (X.length + 1) 0 1) he (by omega) (by rw [← he']; simp [cellsE, hbad])
      simp only [Nat.add_zero] at sB
      have u1 : ∀ (l : List AObj) c, ((X ++ l).set B c)[N]? = some (.box [.int .i64 16, .int .i64 8, .bsl B 0 16, .int .i64 (ops + 1), pl, .bool false]) := fun l c => by rw [List.getElem?_set_ne (fun e => nNB e.symm)]; exact gN l
      have u2 : ∀ (l : List AObj) c, ((X ++ l).set B c)[B]? = some c := fun l c => set_get (gB l)
      have u3 : ∀ (l : List AObj) c, ((X ++ l).set B c)[ob.length]? = some (.box [.ref N 0]) := fun l c => by rw [List.getElem?_set_ne (fun e => ne_kb x0 xB e)]; exact gc0 l
      simp (config := {maxSteps := 4000000}) only [U_nand_Nand_program, rowM, gN, gB, gc0, gc2, y0, y1, z0, z1, q0, qN, qB, qc, qd, i1, l0, ap, sB, u1, u2, u3, dm1, reduceIte, reduceCtorEq, Nat.reduceEqDiff, Nat.reduceAdd, Int.reduceLT, Int.reduceLE, Int.reduceNeg, Int.reduceEq, Nat.reduceLT, Nat.reduceSub, Nat.reduceMul, Nat.reduceBEq, Nat.reduceLeDiff, Int.reduceBEq, Int.reduceBNe, Int.reduceToNat, ne_eq, implies_true, bA]
      refine callI (spoilt_spec m s hs hj) ?_
      rw [ht]
      simp (config := {maxSteps := 4000000}) only [U_nand_Nand_program, rowM, gN, gB, gc0, gc2, y0, y1, z0, z1, q0, qN, qB, qc, qd, i1, l0, ap, sB, u1, u2, u3, dm1, List.set_set, reduceIte, reduceCtorEq, Nat.reduceEqDiff, Nat.reduceAdd, Int.reduceLT, Int.reduceLE, Int.reduceNeg, Int.reduceEq, Nat.reduceLT, Nat.reduceSub, Nat.reduceMul, Nat.reduceBEq, Nat.reduceLeDiff, Int.reduceBEq, Int.reduceBNe, Int.reduceToNat, ne_eq, implies_true, bA]
      have fin := hXA.new (b := b) (.box [.int .i64 m.at_, .int .i64 m.kd, .int .i64 m.kp, .str m.jk]) t e' (by rw [← he']) (by rw [← he']) (by rw [← he'])
      obtain ⟨fin1, fin2⟩ := fin
      have fin3 := fin1.turn true
      refine ⟨_, rfl, E.set b e', ?_, (kW.trans (kX.trans fin2)).trans fin3.2, by simp [errV, errT, m1], ?_⟩
      · rw [show decide (m.kd = 1) = true from decide_eq_true m1]; exact fin3.1
      · rw [map_set, ← he', hpt, g1]; simp [m1]
    · have dm1 : (m.kd == 1) = false := by simp [m1]
      by_cases m2 : m.kd = 2
      · have dm2 : (m.kd == 2) = true := by simp [m2]
        obtain ⟨t, ht⟩ : ∃ t, spoiltS m s = t := ⟨_, rfl⟩
        have hpt : pageT m s = t := by rw [← ht, pageT]; simp [m1, m2]
        have ap : ∀ (l : List AObj) fb, l[1]? = some .none → appO (X ++ l) fb (some (X.length + 1)) 1 .nils (some [[.str t]]) = some (.osl (X.length + 1) 0 1, X ++ l.set 1 (lS [t])) := fun l fb hl => by
          rw [appO_nilsA (by rw [y1, hl]) (by simp [rowsOk]) (by simp), z1]; rfl
        obtain ⟨e', he'⟩ : ∃ e' : Ent, (⟨.osl (X.length + 1) 0 1, X.length + 1, ⟨[t], e.b.wn, true⟩⟩ : Ent) = e' := ⟨_, rfl⟩
        obtain ⟨e1, he1⟩ : ∃ e1 : Ent, { e' with b := { e'.b with bad := false } } = e1 := ⟨_, rfl⟩
        have sB := fun (o : List AObj) => stE (ob := o) (B := B) (b := b) (j := 0) (e' := e1) (v := .osl (X.length + 1) 0 1) he (by omega) (by rw [← he1, ← he']; simp [cellsE, hbad])
        have he1b : (E.set b e1)[b]? = some e1 := by rw [List.getElem?_set_self (List.getElem?_eq_some_iff.1 he).1]
        have sB2 := fun (o : List AObj) => stE (ob := o) (B := B) (b := b) (j := 2) (e' := e') (v := .bool true) he1b (by omega) (by rw [← he1, ← he']; simp [cellsE])
        rw [List.set_set] at sB2
        simp only [Nat.add_zero] at sB
        have u1 : ∀ (l : List AObj) c, ((X ++ l).set B c)[N]? = some (.box [.int .i64 16, .int .i64 8, .bsl B 0 16, .int .i64 (ops + 1), pl, .bool false]) := fun l c => by rw [List.getElem?_set_ne (fun e => nNB e.symm)]; exact gN l
        have u2 : ∀ (l : List AObj) c, ((X ++ l).set B c)[B]? = some c := fun l c => set_get (gB l)
        have u3 : ∀ (l : List AObj) c, ((X ++ l).set B c)[ob.length]? = some (.box [.ref N 0]) := fun l c => by rw [List.getElem?_set_ne (fun e => ne_kb x0 xB e)]; exact gc0 l
        simp (config := {maxSteps := 4000000}) only [U_nand_Nand_program, rowM, gN, gB, gc0, gc2, y0, y1, z0, z1, q0, qN, qB, qc, qd, i1, l0, ap, sB, u1, u2, u3, dm1, dm2, sB2, reduceIte, reduceCtorEq, Nat.reduceEqDiff, Nat.reduceAdd, Int.reduceLT, Int.reduceLE, Int.reduceNeg, Int.reduceEq, Nat.reduceLT, Nat.reduceSub, Nat.reduceMul, Nat.reduceBEq, Nat.reduceLeDiff, Int.reduceBEq, Int.reduceBNe, Int.reduceToNat, ne_eq, implies_true, bA]
        refine callI (spoilt_spec m s hs hj) ?_
        rw [ht]
        simp (config := {maxSteps := 4000000}) only [U_nand_Nand_program, rowM, gN, gB, gc0, gc2, y0, y1, z0, z1, q0, qN, qB, qc, qd, i1, l0, ap, sB, u1, u2, u3, dm1, dm2, sB2, List.set_set, reduceIte, reduceCtorEq, Nat.reduceEqDiff, Nat.reduceAdd, Int.reduceLT, Int.reduceLE, Int.reduceNeg, Int.reduceEq, Nat.reduceLT, Nat.reduceSub, Nat.reduceMul, Nat.reduceBEq, Nat.reduceLeDiff, Int.reduceBEq, Int.reduceBNe, Int.reduceToNat, ne_eq, implies_true, bA]
        have fin := hXA.new (b := b) (.box [.int .i64 m.at_, .int .i64 m.kd, .int .i64 m.kp, .str m.jk]) t e' (by rw [← he']) (by rw [← he']) (by rw [← he'])
        refine ⟨_, rfl, E.set b e', ?_, kW.trans (kX.trans fin.2), by simp [errV, errT, m1, m2], ?_⟩
        · simp only [m1, decide_false]; exact fin.1
        · rw [map_set, ← he', hpt, g1]; simp [m1, m2]
      · have dm2 : (m.kd == 2) = false := by simp [m2]
        obtain ⟨t, ht⟩ : ∃ t, s = t := ⟨_, rfl⟩
        rw [ht] at gc2 x2 c2 hs ⊢
        have hpt : pageT m t = t := by rw [pageT]; simp [m1, m2]
        have ap : ∀ (l : List AObj) fb, l[1]? = some .none → appO (X ++ l) fb (some (X.length + 1)) 1 .nils (some [[.str t]]) = some (.osl (X.length + 1) 0 1, X ++ l.set 1 (lS [t])) := fun l fb hl => by
          rw [appO_nilsA (by rw [y1, hl]) (by simp [rowsOk]) (by simp), z1]; rfl
        obtain ⟨e', he'⟩ : ∃ e' : Ent, (⟨.osl (X.length + 1) 0 1, X.length + 1, ⟨[t], e.b.wn, false⟩⟩ : Ent) = e' := ⟨_, rfl⟩
        have sB := fun (o : List AObj) => stE (ob := o) (B := B) (b := b) (j := 0) (e' := e') (v := .osl (X.length + 1) 0 1) he (by omega) (by rw [← he']; simp [cellsE, hbad])
        simp only [Nat.add_zero] at sB
        have u1 : ∀ (l : List AObj) c, ((X ++ l).set B c)[N]? = some (.box [.int .i64 16, .int .i64 8, .bsl B 0 16, .int .i64 (ops + 1), pl, .bool false]) := fun l c => by rw [List.getElem?_set_ne (fun e => nNB e.symm)]; exact gN l
        have u2 : ∀ (l : List AObj) c, ((X ++ l).set B c)[B]? = some c := fun l c => set_get (gB l)
        have u3 : ∀ (l : List AObj) c, ((X ++ l).set B c)[ob.length]? = some (.box [.ref N 0]) := fun l c => by rw [List.getElem?_set_ne (fun e => ne_kb x0 xB e)]; exact gc0 l
        simp (config := {maxSteps := 4000000}) only [U_nand_Nand_program, rowM, gN, gB, gc0, gc2, y0, y1, z0, z1, q0, qN, qB, qc, qd, i1, l0, ap, sB, u1, u2, u3, dm1, dm2, List.set_set, reduceIte, reduceCtorEq, Nat.reduceEqDiff, Nat.reduceAdd, Int.reduceLT, Int.reduceLE, Int.reduceNeg, Int.reduceEq, Nat.reduceLT, Nat.reduceSub, Nat.reduceMul, Nat.reduceBEq, Nat.reduceLeDiff, Int.reduceBEq, Int.reduceBNe, Int.reduceToNat, ne_eq, implies_true, bA]
        have fin := hXA.new (b := b) (.box [.int .i64 m.at_, .int .i64 m.kd, .int .i64 m.kp, .str m.jk]) t e' (by rw [← he']) (by rw [← he']) (by rw [← he'])
        refine ⟨_, rfl, E.set b e', ?_, kW.trans (kX.trans fin.2), by simp [errV, errT, m1, m2], ?_⟩
        · simp only [m1, decide_false]; exact fin.1
        · rw [map_set, ← he', hpt, g1]; simp [m1, m2]
  · rw [g1] at l0
    have dn : ((k : Int) != (e.b.pg.length : Int)) = false := by simp [hlen]
    have hr : rowsO (some (lS e.b.pg)) 0 e.b.pg.length = some (rowsS e.b.pg) := rowsO_all (by simp)
    simp (config := {maxSteps := 4000000}) only [U_nand_Nand_program, c0, c1, hN, hB, d1, d2, i1, l0, g2, hr, l2, dn, reduceIte, reduceCtorEq, Nat.reduceEqDiff, Nat.reduceAdd, Int.reduceLT, Int.reduceLE, Int.reduceNeg, Int.reduceEq, Nat.reduceLT, Nat.reduceSub, Nat.reduceMul, Nat.reduceBEq, Nat.reduceLeDiff, Int.reduceBEq, Int.reduceBNe, Int.reduceToNat, ne_eq, implies_true, bA]
    refine callM (count_i hA) ?_
    rintro r ob' ⟨rfl, ex, hob'⟩
    rw [hob']
    obtain ⟨m, hm⟩ : ∃ m, cM P (ops + 1) = m := ⟨_, rfl⟩
    rw [hm] at hj ⊢
    obtain ⟨X, hX⟩ : ∃ X, W.set N (boxN B (ops + 1) pl false) ++ ex = X := ⟨_, rfl⟩
    rw [hX]
    have nNB := ne_NB hA
    have sx : ∀ i a, W[i]? = some a → i ≠ N → X[i]? = some a := fun i a h1 h2 => by rw [← hX]; exact apN (by rw [List.getElem?_set_ne (fun e => h2 e.symm)]; exact h1) ex
    have xN : X[N]? = some (.box [.int .i64 16, .int .i64 8, .bsl B 0 16, .int .i64 (ops + 1), pl, .bool false]) := by rw [← hX]; exact apN (set_get hN) ex
    have xB := sx B _ hB (fun e => nNB e.symm)
    have n0 : ob.length ≠ N := by have := lt_ofN h.hN; omega
    have n2 : ob.length + 2 ≠ N := by have := lt_ofN h.hN; omega
    have hBl : (E.flatMap cellsE).length ≠ 1 := by have := flat_len3 E; rw [h.len] at this; omega
    have x0 := sx _ _ c0 n0
    have x2 := sx _ _ c2 n2
    have kX : KeepL W X := by rw [← hX]; exact (KeepL.box hN).trans (KeepL.app _ _)
    have hXA : NandAt X N B E (ops + 1) pl pk P false := by
      refine ⟨xN, xB, h.len, fun f hf => ?_, ?_, hA.inj, by have := h.ops0; omega, by omega, h.pl1⟩
      · rcases hA.pgs f hf with y | ⟨y1, y2⟩
        · exact .inl y
        · exact .inr ⟨y1, sx _ _ y2 (fun e => ne_kind hN y2 e.symm)⟩
      · rcases hA.plan with y | ⟨y1, y2⟩
        · exact .inl y
        · exact .inr ⟨y1, sx _ _ y2 (fun e => ne_kind hN y2 e.symm)⟩
    clear hob' hX
    have xk := sx _ _ g2 (fun e => ne_kind hN g2 e.symm)
    have gN := fun (l : List AObj) => apN xN l
    have gB := fun (l : List AObj) => apN xB l
    have gc0 := fun (l : List AObj) => apN x0 l
    have gc2 := fun (l : List AObj) => apN x2 l
    have gk := fun (l : List AObj) => apN xk l
    have y0 : ∀ l : List AObj, (X ++ l)[X.length]? = l[0]? := fun l => by rw [List.getElem?_append_right (Nat.le_refl _)]; simp
    have y1 : ∀ l : List AObj, (X ++ l)[X.length + 1]? = l[1]? := fun l => by rw [List.getElem?_append_right (by omega)]; simp
    have z0 : ∀ (l : List AObj) a, (X ++ l).set X.length a = X ++ l.set 0 a := fun l a => by rw [List.set_append_right _ _ (Nat.le_refl _)]; simp
    have z1 : ∀ (l : List AObj) a, (X ++ l).set (X.length + 1) a = X ++ l.set 1 a := fun l a => by rw [List.set_append_right _ _ (by omega)]; simp
    have lN := lt_ofN xN
    have lB := lt_ofN xB
    have lc := lt_ofN x2
    have q0 : (X.length == X.length + 1) = false := by simp
    have qN : (N == X.length + 1) = false := by simp; omega
    have qB : (B == X.length + 1) = false := by simp; omega
    have qc : (ob.length + 2 == X.length + 1) = false := by simp; omega
    have qd : (ob.length == X.length + 1) = false := by simp; omega
    have qk : (e.k == X.length + 1) = false := by have := lt_ofN xk; simp; omega
    by_cases m1 : m.kd = 1
    · have dm1 : (m.kd == 1) = true := by simp [m1]
      obtain ⟨t, ht⟩ : ∃ t, spoiltS m s = t := ⟨_, rfl⟩
      have hpt : pageT m s = t := by rw [← ht, pageT]; simp [m1]
      have ap : ∀ (l : List AObj) fb nw, fb.contains e.k = false → appO (X ++ l) fb nw 1 (.osl e.k 0 e.b.pg.length) (some [[.str t]]) = some (.osl e.k 0 (e.b.pg.length + 1), (X ++ l).set e.k (lS (e.b.pg ++ [t]))) := fun l fb nw hf => by
        rw [appO_osl hf (gk l) (by simp) (by simp; omega) (by simp [rowsOk]) (by simp)]; simp [lS, rowsS]
      have xe : ∀ (l : List AObj) a, ((X ++ l).set e.k a)[e.k]? = some a := fun l a => set_get (gk l)
      have ykB : e.k ≠ B := fun e => ne_kind xB xk e.symm
      have ykN : e.k ≠ N := fun e => ne_kind xN xk e.symm
      have xeB : ∀ (l : List AObj) a, ((X ++ l).set e.k a)[B]? = some (.box (E.flatMap cellsE)) := fun l a => by rw [List.getElem?_set_ne ykB]; exact gB l
      have xeN : ∀ (l : List AObj) a, ((X ++ l).set e.k a)[N]? = some (.box [.int .i64 16, .int .i64 8, .bsl B 0 16, .int .i64 (ops + 1), pl, .bool false]) := fun l a => by rw [List.getElem?_set_ne ykN]; exact gN l
      have xec : ∀ (l : List AObj) a, ((X ++ l).set e.k a)[ob.length]? = some (.box [.ref N 0]) := fun l a => by rw [List.getElem?_set_ne (fun e => ne_kind x0 xk e.symm)]; exact gc0 l
      obtain ⟨e', he'⟩ : ∃ e' : Ent, (⟨.osl e.k 0 (e.b.pg.length + 1), e.k, ⟨e.b.pg ++ [t], e.b.wn, false⟩⟩ : Ent) = e' := ⟨_, rfl⟩
      have sB := fun (o : List AObj) => stE (ob := o) (B := B) (b := b) (j := 0) (e' := e') (v := .osl e.k 0 (e.b.pg.length + 1)) he (by omega) (by rw [← he']; simp [cellsE, hbad])
      simp only [Nat.add_zero] at sB
      have u1 : ∀ (l : List AObj) a c, (((X ++ l).set e.k a).set B c)[N]? = some (.box [.int .i64 16, .int .i64 8, .bsl B 0 16, .int .i64 (ops + 1), pl, .bool false]) := fun l a c => by rw [List.getElem?_set_ne (fun e => nNB e.symm)]; exact xeN l a
      have u2 : ∀ (l : List AObj) a c, (((X ++ l).set e.k a).set B c)[B]? = some c := fun l a c => set_get (xeB l a)
      have u3 : ∀ (l : List AObj) a c, (((X ++ l).set e.k a).set B c)[ob.length]? = some (.box [.ref N 0]) := fun l a c => by rw [List.getElem?_set_ne (fun e => ne_kb x0 xB e)]; exact xec l a
      simp (config := {maxSteps := 4000000}) only [U_nand_Nand_program, rowM, gN, gB, gc0, gc2, y0, y1, z0, z1, q0, qN, qB, qc, qd, i1, l0, gk, qk, ap, sB, u1, u2, u3, dm1, xe, xeB, xeN, xec, reduceIte, reduceCtorEq, Nat.reduceEqDiff, Nat.reduceAdd, Int.reduceLT, Int.reduceLE, Int.reduceNeg, Int.reduceEq, Nat.reduceLT, Nat.reduceSub, Nat.reduceMul, Nat.reduceBEq, Nat.reduceLeDiff, Int.reduceBEq, Int.reduceBNe, Int.reduceToNat, ne_eq, implies_true, bA]
      refine callI (spoilt_spec m s hs hj) ?_
      rw [ht]
      simp (config := {maxSteps := 4000000}) only [U_nand_Nand_program, rowM, gN, gB, gc0, gc2, y0, y1, z0, z1, q0, qN, qB, qc, qd, i1, l0, gk, qk, ap, sB, u1, u2, u3, dm1, xe, xeB, xeN, xec, List.set_set, reduceIte, reduceCtorEq, Nat.reduceEqDiff, Nat.reduceAdd, Int.reduceLT, Int.reduceLE, Int.reduceNeg, Int.reduceEq, Nat.reduceLT, Nat.reduceSub, Nat.reduceMul, Nat.reduceBEq, Nat.reduceLeDiff, Int.reduceBEq, Int.reduceBNe, Int.reduceToNat, ne_eq, implies_true, bA]
      have fin := hXA.more he [AObj.box [.int .i64 m.at_, .int .i64 m.kd, .int .i64 m.kp, .str m.jk], AObj.none] t e' g1 xk (by rw [← he']) (by rw [← he']) (by rw [← he'])
      obtain ⟨fin1, fin2⟩ := fin
      have fin3 := fin1.turn true
      refine ⟨_, rfl, E.set b e', ?_, (kW.trans (kX.trans fin2)).trans fin3.2, by simp [errV, errT, m1], ?_⟩
      · rw [show decide (m.kd = 1) = true from decide_eq_true m1]; exact fin3.1
      · rw [map_set, ← he', hpt]; simp [m1]
    · have dm1 : (m.kd == 1) = false := by simp [m1]
      by_cases m2 : m.kd = 2
      · have dm2 : (m.kd == 2) = true := by simp [m2]
        obtain ⟨t, ht⟩ : ∃ t, spoiltS m s = t := ⟨_, rfl⟩
        have hpt : pageT m s = t := by rw [← ht, pageT]; simp [m1, m2]
        have ap : ∀ (l : List AObj) fb nw, fb.contains e.k = false → appO (X ++ l) fb nw 1 (.osl e.k 0 e.b.pg.length) (some [[.str t]]) = some (.osl e.k 0 (e.b.pg.length + 1), (X ++ l).set e.k (lS (e.b.pg ++ [t]))) := fun l fb nw hf => by
          rw [appO_osl hf (gk l) (by simp) (by simp; omega) (by simp [rowsOk]) (by simp)]; simp [lS, rowsS]
        have xe : ∀ (l : List AObj) a, ((X ++ l).set e.k a)[e.k]? = some a := fun l a => set_get (gk l)
        have ykB : e.k ≠ B := fun e => ne_kind xB xk e.symm
        have ykN : e.k ≠ N := fun e => ne_kind xN xk e.symm
        have xeB : ∀ (l : List AObj) a, ((X ++ l).set e.k a)[B]? = some (.box (E.flatMap cellsE)) := fun l a => by rw [List.getElem?_set_ne ykB]; exact gB l
        have xeN : ∀ (l : List AObj) a, ((X ++ l).set e.k a)[N]? = some (.box [.int .i64 16, .int .i64 8, .bsl B 0 16, .int .i64 (ops + 1), pl, .bool false]) := fun l a => by rw [List.getElem?_set_ne ykN]; exact gN l
        have xec : ∀ (l : List AObj) a, ((X ++ l).set e.k a)[ob.length]? = some (.box [.ref N 0]) := fun l a => by rw [List.getElem?_set_ne (fun e => ne_kind x0 xk e.symm)]; exact gc0 l
        obtain ⟨e', he'⟩ : ∃ e' : Ent, (⟨.osl e.k 0 (e.b.pg.length + 1), e.k, ⟨e.b.pg ++ [t], e.b.wn, true⟩⟩ : Ent) = e' := ⟨_, rfl⟩
        obtain ⟨e1, he1⟩ : ∃ e1 : Ent, { e' with b := { e'.b with bad := false } } = e1 := ⟨_, rfl⟩
        have sB := fun (o : List AObj) => stE (ob := o) (B := B) (b := b) (j := 0) (e' := e1) (v := .osl e.k 0 (e.b.pg.length + 1)) he (by omega) (by rw [← he1, ← he']; simp [cellsE, hbad])
        have he1b : (E.set b e1)[b]? = some e1 := by rw [List.getElem?_set_self (List.getElem?_eq_some_iff.1 he).1]
        have sB2 := fun (o : List AObj) => stE (ob := o) (B := B) (b := b) (j := 2) (e' := e') (v := .bool true) he1b (by omega) (by rw [← he1, ← he']; simp [cellsE])
        rw [List.set_set] at sB2
        simp only [Nat.add_zero] at sB
        have u1 : ∀ (l : List AObj) a c, (((X ++ l).set e.k a).set B c)[N]? = some (.box [.int .i64 16, .int .i64 8, .bsl B 0 16, .int .i64 (ops + 1), pl, .bool false]) := fun l a c => by rw [List.getElem?_set_ne (fun e => nNB e.symm)]; exact xeN l a
        have u2 : ∀ (l : List AObj) a c, (((X ++ l).set e.k a).set B c)[B]? = some c := fun l a c => set_get (xeB l a)
        have u3 : ∀ (l : List AObj) a c, (((X ++ l).set e.k a).set B c)[ob.length]? = some (.box [.ref N 0]) := fun l a c => by rw [List.getElem?_set_ne (fun e => ne_kb x0 xB e)]; exact xec l a
        simp (config := {maxSteps := 4000000}) only [U_nand_Nand_program, rowM, gN, gB, gc0, gc2, y0, y1, z0, z1, q0, qN, qB, qc, qd, i1, l0, gk, qk, ap, sB, u1, u2, u3, dm1, dm2, sB2, xe, xeB, xeN, xec, reduceIte, reduceCtorEq, Nat.reduceEqDiff, Nat.reduceAdd, Int.reduceLT, Int.reduceLE, Int.reduceNeg, Int.reduceEq, Nat.reduceLT, Nat.reduceSub, Nat.reduceMul, Nat.reduceBEq, Nat.reduceLeDiff, Int.reduceBEq, Int.reduceBNe, Int.reduceToNat, ne_eq, implies_true, bA]
        refine callI (spoilt_spec m s hs hj) ?_
        rw [ht]
        simp (config := {maxSteps := 4000000}) only [U_nand_Nand_program, rowM, gN, gB, gc0, gc2, y0, y1, z0, z1, q0, qN, qB, qc, qd, i1, l0, gk, qk, ap, sB, u1, u2, u3, dm1, dm2, sB2, xe, xeB, xeN, xec, List.set_set, reduceIte, reduceCtorEq, Nat.reduceEqDiff, Nat.reduceAdd, Int.reduceLT, Int.reduceLE, Int.reduceNeg, Int.reduceEq, Nat.reduceLT, Nat.reduceSub, Nat.reduceMul, Nat.reduceBEq, Nat.reduceLeDiff, Int.reduceBEq, Int.reduceBNe, Int.reduceToNat, ne_eq, implies_true, bA]
        have fin := hXA.more he [AObj.box [.int .i64 m.at_, .int .i64 m.kd, .int .i64 m.kp, .str m.jk], AObj.none] t e' g1 xk (by rw [← he']) (by rw [← he']) (by rw [← he'])
        refine ⟨_, rfl, E.set b e', ?_, kW.trans (kX.trans fin.2), by simp [errV, errT, m1, m2], ?_⟩
        · simp only [m1, decide_false]; exact fin.1
        · rw [map_set, ← he', hpt]; simp [m1, m2]
      · have dm2 : (m.kd == 2) = false := by simp [m2]
        obtain ⟨t, ht⟩ : ∃ t, s = t := ⟨_, rfl⟩
        rw [ht] at gc2 x2 c2 hs ⊢
        have hpt : pageT m t = t := by rw [pageT]; simp [m1, m2]
        have ap : ∀ (l : List AObj) fb nw, fb.contains e.k = false → appO (X ++ l) fb nw 1 (.osl e.k 0 e.b.pg.length) (some [[.str t]]) = some (.osl e.k 0 (e.b.pg.length + 1), (X ++ l).set e.k (lS (e.b.pg ++ [t]))) := fun l fb nw hf => by
          rw [appO_osl hf (gk l) (by simp) (by simp; omega) (by simp [rowsOk]) (by simp)]; simp [lS, rowsS]
        have xe : ∀ (l : List AObj) a, ((X ++ l).set e.k a)[e.k]? = some a := fun l a => set_get (gk l)
        have ykB : e.k ≠ B := fun e => ne_kind xB xk e.symm
        have ykN : e.k ≠ N := fun e => ne_kind xN xk e.symm
        have xeB : ∀ (l : List AObj) a, ((X ++ l).set e.k a)[B]? = some (.box (E.flatMap cellsE)) := fun l a => by rw [List.getElem?_set_ne ykB]; exact gB l
        have xeN : ∀ (l : List AObj) a, ((X ++ l).set e.k a)[N]? = some (.box [.int .i64 16, .int .i64 8, .bsl B 0 16, .int .i64 (ops + 1), pl, .bool false]) := fun l a => by rw [List.getElem?_set_ne ykN]; exact gN l
        have xec : ∀ (l : List AObj) a, ((X ++ l).set e.k a)[ob.length]? = some (.box [.ref N 0]) := fun l a => by rw [List.getElem?_set_ne (fun e => ne_kind x0 xk e.symm)]; exact gc0 l
        obtain ⟨e', he'⟩ : ∃ e' : Ent, (⟨.osl e.k 0 (e.b.pg.length + 1), e.k, ⟨e.b.pg ++ [t], e.b.wn, false⟩⟩ : Ent) = e' := ⟨_, rfl⟩
        have sB := fun (o : List AObj) => stE (ob := o) (B := B) (b := b) (j := 0) (e' := e') (v := .osl e.k 0 (e.b.pg.length + 1)) he (by omega) (by rw [← he']; simp [cellsE, hbad])
        simp only [Nat.add_zero] at sB
        have u1 : ∀ (l : List AObj) a c, (((X ++ l).set e.k a).set B c)[N]? = some (.box [.int .i64 16, .int .i64 8, .bsl B 0 16, .int .i64 (ops + 1), pl, .bool false]) := fun l a c => by rw [List.getElem?_set_ne (fun e => nNB e.symm)]; exact xeN l a
        have u2 : ∀ (l : List AObj) a c, (((X ++ l).set e.k a).set B c)[B]? = some c := fun l a c => set_get (xeB l a)
        have u3 : ∀ (l : List AObj) a c, (((X ++ l).set e.k a).set B c)[ob.length]? = some (.box [.ref N 0]) := fun l a c => by rw [List.getElem?_set_ne (fun e => ne_kb x0 xB e)]; exact xec l a
        simp (config := {maxSteps := 4000000}) only [U_nand_Nand_program, rowM, gN, gB, gc0, gc2, y0, y1, z0, z1, q0, qN, qB, qc, qd, i1, l0, gk, qk, ap, sB, u1, u2, u3, dm1, dm2, xe, xeB, xeN, xec, List.set_set, reduceIte, reduceCtorEq, Nat.reduceEqDiff, Nat.reduceAdd, Int.reduceLT, Int.reduceLE, Int.reduceNeg, Int.reduceEq, Nat.reduceLT, Nat.reduceSub, Nat.reduceMul, Nat.reduceBEq, Nat.reduceLeDiff, Int.reduceBEq, Int.reduceBNe, Int.reduceToNat, ne_eq, implies_true, bA]
        have fin := hXA.more he [AObj.box [.int .i64 m.at_, .int .i64 m.kd, .int .i64 m.kp, .str m.jk], AObj.none] t e' g1 xk (by rw [← he']) (by rw [← he']) (by rw [← he'])
        refine ⟨_, rfl, E.set b e', ?_, kW.trans (kX.trans fin.2), by simp [errV, errT, m1, m2], ?_⟩
        · simp only [m1, decide_false]; exact fin.1
        · rw [map_set, ← he', hpt]; simp [m1, m2]

end Go.Proofs.YtdgpiobmncohjaaGreatDoor.Aw
namespace Go.Proofs.YtdgpiobmncohjaaGreatDoor.Aw
open Go.RowKit

variable {ob : List AObj} {N B : Nat} {E : List Ent} {ops : Int} {pl : PV} {pk : Nat} {P : List Mis} {down : Bool}

theorem read_i {b k : Nat} {e : Ent} (h : NandAt ob N B E ops pl pk P false) (he : E[b]? = some e) (hk : k < 8) {pg : Int} (hpg : pg = ((8 * b + k : Nat) : Int)) :
    ICall Tryz.prog 67 [.ref N 0, .int .i64 pg] ob fun r ob' => (∃ ex, ob' = ob ++ ex) ∧ r = .tup [.str (e.b.pg.getD k []), errV (if k < e.b.pg.length then 0 else 42)] := by
  subst hpg
  refine icall_dr Tryz.func67 comp_nand_Nand_read ?_
  have hb : b < 16 := by have := (List.getElem?_eq_some_iff.1 he).1; rw [h.len] at this; exact this
  obtain ⟨W, hW⟩ : ∃ W, ob ++ [AObj.box [.ref N 0], AObj.box [.int .i64 ((8 * b + k : Nat) : Int)]] = W := ⟨_, rfl⟩
  have hA : NandAt W N B E ops pl pk P false := by rw [← hW]; exact h.app _
  have c0 : W[ob.length]? = some (.box [.ref N 0]) := by rw [← hW, List.getElem?_append_right (Nat.le_refl _)]; simp
  have c1 : W[ob.length + 1]? = some (.box [.int .i64 ((8 * b + k : Nat) : Int)]) := by rw [← hW, List.getElem?_append_right (by omega)]; simp
  simp (config := {maxSteps := 4000000}) only [U_nand_Nand_read, hW, c0, reduceIte, reduceCtorEq, Nat.reduceEqDiff, Nat.reduceAdd, Int.reduceLT, Int.reduceLE, Int.reduceNeg, Int.reduceEq, Nat.reduceLT, Nat.reduceSub, Nat.reduceMul, Nat.reduceBEq, Nat.reduceLeDiff, Int.reduceBEq, Int.reduceBNe, Int.reduceToNat, ne_eq, implies_true, bA]
  refine callM (ready_i hA (readc_i hA c0 c1 (by omega))) ?_
  rintro r ob' ⟨rfl, e9⟩
  rw [e9]
  clear e9 ob'
  have hN := hA.hN
  have hB := hA.hB
  have d1 : IntKind.i64.wrap (((8 * b + k : Nat) : Int).tdiv 8) = (b : Int) := by
    have : ((8 * b + k : Nat) : Int).tdiv 8 = (b : Int) := by rw [Int.tdiv_eq_ediv_of_nonneg (by omega)]; omega
    rw [this, wrapI (by omega) (by omega)]
  have d2 : ((8 * b + k : Nat) : Int).tmod 8 = (k : Int) := by rw [Int.tmod_eq_emod_of_nonneg (by omega)]; omega
  have i1 : ∀ o : List AObj, islV o [] 3 (.bsl B 0 16) (.int .i64 (b : Int)) = some (.ref B (3 * b)) := fun o => by
    rw [islV_bsl (by simp; omega)]; simp; omega
  have l0 := ldE (j := 0) (v := e.pv) he rfl
  simp only [Nat.add_zero] at l0
  rcases hA.pgs e (List.mem_of_getElem? he) with ⟨g1, g2⟩ | ⟨g1, g2⟩
  · rw [g2] at l0
    have d : decide ((0 : Int) ≤ (k : Int)) = true := by simp
    simp (config := {maxSteps := 4000000}) only [U_nand_Nand_read, c0, c1, hN, hB, d1, d2, i1, l0, d, reduceIte, reduceCtorEq, Nat.reduceEqDiff, Nat.reduceAdd, Int.reduceLT, Int.reduceLE, Int.reduceNeg, Int.reduceEq, Nat.reduceLT, Nat.reduceSub, Nat.reduceMul, Nat.reduceBEq, Nat.reduceLeDiff, Int.reduceBEq, Int.reduceBNe, Int.reduceToNat, ne_eq, implies_true, bA]
    refine ⟨_, rfl, ⟨_, hW.symm⟩, ?_⟩
    rw [g1]; simp [errV]
  · rw [g1] at l0
    have hr : rowsO (some (lS e.b.pg)) 0 e.b.pg.length = some (rowsS e.b.pg) := rowsO_all (by simp)
    by_cases hlt : k < e.b.pg.length
    · have d : decide ((e.b.pg.length : Int) ≤ (k : Int)) = false := by simp; omega
      have i2 := islO_map (g := fun s : List UInt8 => [PV.str s]) (l := e.b.pg) (e := 1) (o := e.k) (m := e.b.pg.length) (k := .i64) rfl hlt
      have i3 := ldL_map (g := fun s : List UInt8 => [PV.str s]) (l := e.b.pg) (e := 1) (len := e.b.pg.length) (off := 0) (n := 1) rfl hlt (by simp)
      simp (config := {maxSteps := 4000000}) only [U_nand_Nand_read, c0, c1, hN, hB, d1, d2, i1, l0, g2, hr, d, i2, i3, reduceIte, reduceCtorEq, Nat.reduceEqDiff, Nat.reduceAdd, Int.reduceLT, Int.reduceLE, Int.reduceNeg, Int.reduceEq, Nat.reduceLT, Nat.reduceSub, Nat.reduceMul, Nat.reduceBEq, Nat.reduceLeDiff, Int.reduceBEq, Int.reduceBNe, Int.reduceToNat, ne_eq, implies_true, bA]
      refine ⟨_, rfl, ⟨_, hW.symm⟩, ?_⟩
      simp [errV, hlt, List.getD_eq_getElem?_getD]
    · have d : decide ((e.b.pg.length : Int) ≤ (k : Int)) = true := by simp; omega
      simp (config := {maxSteps := 4000000}) only [U_nand_Nand_read, c0, c1, hN, hB, d1, d2, i1, l0, g2, hr, d, reduceIte, reduceCtorEq, Nat.reduceEqDiff, Nat.reduceAdd, Int.reduceLT, Int.reduceLE, Int.reduceNeg, Int.reduceEq, Nat.reduceLT, Nat.reduceSub, Nat.reduceMul, Nat.reduceBEq, Nat.reduceLeDiff, Int.reduceBEq, Int.reduceBNe, Int.reduceToNat, ne_eq, implies_true, bA]
      refine ⟨_, rfl, ⟨_, hW.symm⟩, ?_⟩
      simp [errV, hlt, List.getD_eq_getElem?_getD, List.getElem?_eq_none (Nat.le_of_not_lt hlt)]
theorem bad_r {b : Nat} {e : Ent} (h : NandAt ob N B E ops pl pk P down) (he : E[b]? = some e) : RCall Tryz.prog 74 [.ref N 0, .int .i64 (b : Int)] ob (.bool e.b.bad) := by
  have hb : b < 16 := by have := (List.getElem?_eq_some_iff.1 he).1; rw [h.len] at this; exact this
  refine RCall.of (K := fun r ob' => r = .bool e.b.bad ∧ ob' = ob) ?_ (fun r ob' h => ⟨h.1, [], by rw [h.2]; simp⟩) rfl
  refine icall_dr Tryz.func74 comp_nand_Nand_Bad ?_
  have hN := h.hN
  have hB := h.hB
  have i1 : ∀ o : List AObj, islV o [] 3 (.bsl B 0 16) (.int .i64 (b : Int)) = some (.ref B (3 * b)) := fun o => by
    rw [islV_bsl (by simp; omega)]; simp; omega
  have l2 := ldE (j := 2) (v := .bool e.b.bad) he (by simp [cellsE])
  simp (config := {maxSteps := 4000000}) only [U_nand_Nand_Bad, reduceIte, reduceCtorEq, Nat.reduceEqDiff, Nat.reduceAdd, Int.reduceLT, Int.reduceLE, Int.reduceNeg, Int.reduceEq, Nat.reduceLT, Nat.reduceSub, Nat.reduceMul, Nat.reduceBEq, Nat.reduceLeDiff, Int.reduceBEq, Int.reduceBNe, Int.reduceToNat, ne_eq, implies_true, bA]
  refine callR (block_r h hb) ?_
  simp (config := {maxSteps := 4000000}) only [U_nand_Nand_Bad, hN, hB, i1, l2, reduceIte, reduceCtorEq, Nat.reduceEqDiff, Nat.reduceAdd, Int.reduceLT, Int.reduceLE, Int.reduceNeg, Int.reduceEq, Nat.reduceLT, Nat.reduceSub, Nat.reduceMul, Nat.reduceBEq, Nat.reduceLeDiff, Int.reduceBEq, Int.reduceBNe, Int.reduceToNat, ne_eq, implies_true, bA]
  exact ⟨_, rfl, rfl⟩
theorem up_i (h : NandAt ob N B E ops pl pk P down) : ICall Tryz.prog 13 [.ref N 0] ob fun r ob' => NandAt ob' N B E ops .nils 0 [] false ∧ KeepL ob ob' := by
  refine icall_dr Tryz.func13 comp_nand_Nand_Up ?_
  have hN := h.hN
  have sN : ∀ c, (ob.set N c)[N]? = some c := fun c => set_get hN
  simp (config := {maxSteps := 4000000}) only [U_nand_Nand_Up, hN, sN, List.set_set, reduceIte, reduceCtorEq, Nat.reduceEqDiff, Nat.reduceAdd, Int.reduceLT, Int.reduceLE, Int.reduceNeg, Int.reduceEq, Nat.reduceLT, Nat.reduceSub, Nat.reduceMul, Nat.reduceBEq, Nat.reduceLeDiff, Int.reduceBEq, Int.reduceBNe, Int.reduceToNat, ne_eq, implies_true, bA]
  refine ⟨_, rfl, ⟨sN _, ?_, h.len, fun f hf => ?_, .inl ⟨rfl, rfl⟩, h.inj, h.ops0, h.ops1, by simp⟩, KeepL.box hN⟩
  · rw [List.getElem?_set_ne (ne_NB h)]; exact h.hB
  · rcases h.pgs f hf with y | ⟨y1, y2⟩
    · exact .inl y
    · exact .inr ⟨y1, by rw [List.getElem?_set_ne (ne_kind hN y2)]; exact y2⟩
theorem known_bsl {o i n} : PV.known (.bsl o i n) = true := rfl
theorem cellsOf_bsl {o i n} : PV.cellsOf (.bsl o i n) = [.bsl o i n] := rfl
theorem cell_bsl {o i n} : PV.cell? (.bsl o i n) = true := rfl
def bls0 : List Ent := List.replicate 16 ⟨.nils, 0, zeroK⟩
theorem new_i (ob : List AObj) : ICall Tryz.prog 5 [.agg [.int .i64 16, .int .i64 8]] ob fun r ob' => (∃ N B, r = .tup [.ref N 0, .nili] ∧ NandAt ob' N B bls0 0 .nils 0 [] false) ∧ KeepL ob ob' := by
  refine icall_dr Tryz.func5 comp_nand_New ?_
  have g0 : ∀ l : List AObj, (ob ++ l)[ob.length]? = l[0]? := fun l => by rw [List.getElem?_append_right (Nat.le_refl _)]; simp
  have g1 : ∀ l : List AObj, (ob ++ l)[ob.length + 1]? = l[1]? := fun l => by rw [List.getElem?_append_right (by omega)]; simp
  have g2 : ∀ l : List AObj, (ob ++ l)[ob.length + 2]? = l[2]? := fun l => by rw [List.getElem?_append_right (by omega)]; simp
  have z1 : ∀ (l : List AObj) a, (ob ++ l).set (ob.length + 1) a = ob ++ l.set 1 a := fun l a => by rw [List.set_append_right _ _ (by omega)]; simp
  have z2 : ∀ (l : List AObj) a, (ob ++ l).set (ob.length + 2) a = ob ++ l.set 2 a := fun l a => by rw [List.set_append_right _ _ (by omega)]; simp
  have n1 : (ob.length == ob.length + 1) = false := by simp
  have n2 : (ob.length == ob.length + 1 + 1) = false := by simp; omega
  have hz : ∀ ks, mksO [.nils, .int .i64 0, .bool false] (.int .i64 16) (.int .i64 16) ks = ks 16 := fun ks => by rw [mksO_int (by omega) (by omega) (by simp [PV.scal]) (by simp [ownL, PV.own?])]; rfl
  have hin : (decide ((16 : Int) ≤ 16) && decide ((16 : Int) ≤ 64)) = true := by decide
  have hin2 : (decide ((8 : Int) ≤ 8) && decide ((8 : Int) ≤ 32)) = true := by decide
  simp (config := {maxSteps := 4000000}) only [U_nand_New, g0, g1, reduceIte, reduceCtorEq, Nat.reduceEqDiff, Nat.reduceAdd, Int.reduceLT, Int.reduceLE, Int.reduceNeg, Int.reduceEq, Nat.reduceLT, Nat.reduceSub, Nat.reduceMul, Nat.reduceBEq, Nat.reduceLeDiff, Int.reduceBEq, Int.reduceBNe, Int.reduceToNat, ne_eq, implies_true, bA]
  refine callI (nin_spec 16 16 64) ?_
  rw [hin]
  simp (config := {maxSteps := 4000000}) only [U_nand_New, g0, g1, reduceIte, reduceCtorEq, Nat.reduceEqDiff, Nat.reduceAdd, Int.reduceLT, Int.reduceLE, Int.reduceNeg, Int.reduceEq, Nat.reduceLT, Nat.reduceSub, Nat.reduceMul, Nat.reduceBEq, Nat.reduceLeDiff, Int.reduceBEq, Int.reduceBNe, Int.reduceToNat, ne_eq, implies_true, bA]
  refine callI (nin_spec 8 8 32) ?_
  rw [hin2]
  simp (config := {maxSteps := 4000000}) only [U_nand_New, g0, g1, g2, z1, z2, n1, n2, hz, known_bsl, cellsOf_bsl, cell_bsl, reduceIte, reduceCtorEq, Nat.reduceEqDiff, Nat.reduceAdd, Int.reduceLT, Int.reduceLE, Int.reduceNeg, Int.reduceEq, Nat.reduceLT, Nat.reduceSub, Nat.reduceMul, Nat.reduceBEq, Nat.reduceLeDiff, Int.reduceBEq, Int.reduceBNe, Int.reduceToNat, ne_eq, implies_true, bA]
  refine ⟨_, rfl, ⟨_, ob.length + 1, rfl, ⟨g2 _, g1 _, rfl, fun e he => ?_, .inl ⟨rfl, rfl⟩, fun i j a b ha _ na _ _ => ?_, by omega, by omega, by simp⟩⟩, KeepL.app _ _⟩
  · rw [List.eq_of_mem_replicate he]; exact .inl ⟨rfl, rfl⟩
  · rw [List.eq_of_mem_replicate (List.mem_of_getElem? ha)] at na; exact absurd rfl na

end Go.Proofs.YtdgpiobmncohjaaGreatDoor.Aw
namespace Go.Proofs.YtdgpiobmncohjaaGreatDoor.Aw
open Go.RowKit

variable {ob : List AObj} {N B : Nat} {E : List Ent} {ops : Int} {pl : PV} {pk : Nat} {P : List Mis} {down : Bool}

abbrev boxP (B : Nat) (ops : Int) (pl : PV) (down : Bool) : AObj := .box [.int .i64 16, .int .i64 8, .bsl B 0 16, .int .i64 ops, pl, .bool down]
theorem NandAt.plan1 (h : NandAt ob N B E ops pl pk P down) (bm : AObj) (m : Mis) :
    NandAt ((ob ++ [bm, lM [m]]).set N (boxP B ops (.osl (ob.length + 1) 0 1) down)) N B E ops (.osl (ob.length + 1) 0 1) (ob.length + 1) [m] down ∧ KeepL ob ((ob ++ [bm, lM [m]]).set N (boxP B ops (.osl (ob.length + 1) 0 1) down)) := by
  have hN := apN h.hN [bm, lM [m]]
  have lN := lt_ofN h.hN
  refine ⟨⟨set_get hN, ?_, h.len, fun f hf => ?_, .inr ⟨rfl, ?_⟩, h.inj, h.ops0, h.ops1, by simp⟩, (KeepL.app _ _).trans (KeepL.box hN)⟩
  · rw [List.getElem?_set_ne (ne_NB h)]; exact apN h.hB _
  · rcases h.pgs f hf with y | ⟨y1, y2⟩
    · exact .inl y
    · exact .inr ⟨y1, by rw [List.getElem?_set_ne (ne_kind h.hN y2)]; exact apN y2 _⟩
  · rw [List.getElem?_set_ne (by omega), List.getElem?_append_right (by omega)]; simp
theorem NandAt.plan2 (h : NandAt ob N B E ops (.osl pk 0 P.length) pk P down) (hk : ob[pk]? = some (lM P)) (x : List AObj) (m : Mis) (hl : P.length < 1000000) :
    NandAt (((ob ++ x).set pk (lM (P ++ [m]))).set N (boxP B ops (.osl pk 0 (P.length + 1)) down)) N B E ops (.osl pk 0 (P.length + 1)) pk (P ++ [m]) down ∧ KeepL ob (((ob ++ x).set pk (lM (P ++ [m]))).set N (boxP B ops (.osl pk 0 (P.length + 1)) down)) := by
  have hN := apN h.hN x
  have kN := ne_kind h.hN hk
  have kB := ne_kind h.hB hk
  have hN2 : ((ob ++ x).set pk (lM (P ++ [m])))[N]? = some (boxP B ops (.osl pk 0 P.length) down) := by rw [List.getElem?_set_ne (fun e => kN e.symm)]; exact hN
  refine ⟨⟨set_get hN2, ?_, h.len, fun f hf => ?_, .inr ⟨by simp, ?_⟩, h.inj, h.ops0, h.ops1, by simp; omega⟩, ((KeepL.app _ _).trans (KeepL.lm (apN hk x))).trans (KeepL.box hN2)⟩
  · rw [List.getElem?_set_ne (ne_NB h), List.getElem?_set_ne (fun e => kB e.symm)]; exact apN h.hB _
  · rcases h.pgs f hf with y | ⟨y1, y2⟩
    · exact .inl y
    · exact .inr ⟨y1, by rw [List.getElem?_set_ne (ne_kind h.hN y2), List.getElem?_set_ne (fun e => ne_13 y2 hk e.symm)]; exact apN y2 _⟩
  · rw [List.getElem?_set_ne kN]; exact set_get (apN hk x)
def shM (ops : Int) (m : Mis) : Mis := { m with at_ := m.at_ + ops }
theorem plan_i (h : NandAt ob N B E ops pl pk P false) (l : List Mis) (hl : l.length ≤ 1000) (hat : ∀ m ∈ l, 1 ≤ m.at_ ∧ m.at_ ≤ 1000) :
    ICall Tryz.prog 12 [.ref N 0, .slc (l.map rowM)] ob fun r ob' => (∃ pl' pk', NandAt ob' N B E ops pl' pk' (l.map (shM ops)) false) ∧ KeepL ob ob' := by
  refine icall_dr Tryz.func12 comp_nand_Nand_Plan ?_
  have hN := h.hN
  simp (config := {maxSteps := 4000000}) only [U_nand_Nand_Plan, hN, reduceIte, reduceCtorEq, Nat.reduceEqDiff, Nat.reduceAdd, Int.reduceLT, Int.reduceLE, Int.reduceNeg, Int.reduceEq, Nat.reduceLT, Nat.reduceSub, Nat.reduceMul, Nat.reduceBEq, Nat.reduceLeDiff, Int.reduceBEq, Int.reduceBNe, Int.reduceToNat, ne_eq, implies_true, bA]
  refine loopF (fun s : Nat × List AObj × PV × Nat => ⟨ofL [(0, .ref N 0), (11, .slc (l.map rowM)), (12, .int .i64 (l.length : Int)), (13, .int .i64 (s.1 : Int))], s.2.1⟩)
    (fun s => s.1 ≤ l.length ∧ NandAt s.2.1 N B E ops s.2.2.1 s.2.2.2 ((l.take s.1).map (shM ops)) false ∧ KeepL ob s.2.1) (fun s => l.length - s.1) (0, ob.set N (boxP B ops .nils false), .nils, 0) ?_ ⟨Nat.zero_le _, ?_, KeepL.box hN⟩ ?_
  · simp (config := {maxSteps := 4000000}) only [U_nand_Nand_Plan, reduceIte, reduceCtorEq, Nat.reduceEqDiff, Nat.reduceAdd, Int.reduceLT, Int.reduceLE, Int.reduceNeg, Int.reduceEq, Nat.reduceLT, Nat.reduceSub, Nat.reduceMul, Nat.reduceBEq, Nat.reduceLeDiff, Int.reduceBEq, Int.reduceBNe, Int.reduceToNat, ne_eq, implies_true, bA]
    all_goals rfl
  · refine ⟨set_get hN, ?_, h.len, fun f hf => ?_, .inl ⟨rfl, rfl⟩, h.inj, h.ops0, h.ops1, by simp⟩
    · rw [List.getElem?_set_ne (ne_NB h)]; exact h.hB
    · rcases h.pgs f hf with y | ⟨y1, y2⟩
      · exact .inl y
      · exact .inr ⟨y1, by rw [List.getElem?_set_ne (ne_kind hN y2)]; exact y2⟩
  · rintro ⟨i, X, pv, pk'⟩ ⟨hi, hX, hK⟩
    simp only at hi hX hK ⊢
    by_cases hlt : i < l.length
    · have d : decide ((i : Int) < (l.length : Int)) = true := by simpa using hlt
      obtain ⟨m, hm⟩ : ∃ m, l[i] = m := ⟨_, rfl⟩
      have hmm : m ∈ l := by rw [← hm]; exact List.getElem_mem hlt
      have ha := hat m hmm
      have hr : i < (l.map rowM).length := by simpa using hlt
      have i1 : ∀ OB : List AObj, islV OB [] 4 (.slc (l.map rowM)) (.int .i64 (i : Int)) = some (.fptr (rowM m)) := fun OB => by
        rw [islV_slc (k := .i64) hr (by simp [rowM])]; simp [hm]
      have d1 : decide ((1 : Int) ≤ m.at_) = true := by simpa using ha.1
      have d2 : decide (m.at_ ≤ 1099511627776) = true := by simp; omega
      have h0 := hX.ops0
      have h1 := hX.ops1
      have w1 : IntKind.i64.wrap (m.at_ + ops) = m.at_ + ops := wrapI (by omega) (by omega)
      have w2 : IntKind.i64.wrap ((i : Int) + 1) = ((i + 1 : Nat) : Int) := by rw [wrapI (by omega) (by omega)]; omega
      have xN := hX.hN
      have gN := fun (l : List AObj) => apN xN l
      have lN := lt_ofN xN
      have y0 : ∀ l : List AObj, (X ++ l)[X.length]? = l[0]? := fun l => by rw [List.getElem?_append_right (Nat.le_refl _)]; simp
      have y1 : ∀ l : List AObj, (X ++ l)[X.length + 1]? = l[1]? := fun l => by rw [List.getElem?_append_right (by omega)]; simp
      have z0 : ∀ (l : List AObj) a, (X ++ l).set X.length a = X ++ l.set 0 a := fun l a => by rw [List.set_append_right _ _ (Nat.le_refl _)]; simp
      have z1 : ∀ (l : List AObj) a, (X ++ l).set (X.length + 1) a = X ++ l.set 1 a := fun l a => by rw [List.set_append_right _ _ (by omega)]; simp
      have q0 : (X.length == X.length + 1) = false := by simp
      have qN : (N == X.length + 1) = false := by simp; omega
      have htk : (l.take (i + 1)).map (shM ops) = (l.take i).map (shM ops) ++ [shM ops m] := by rw [List.take_succ_eq_append_getElem hlt, List.map_append, hm]; rfl
      obtain ⟨Q, hQ⟩ : ∃ Q, (l.take i).map (shM ops) = Q := ⟨_, rfl⟩
      have hQl : Q.length ≤ 1000 := by rw [← hQ]; simp; omega
      rw [hQ] at hX htk
      rcases hX.plan with ⟨g1, g2⟩ | ⟨g1, g2⟩
      · subst g2
        have ap : ∀ (l : List AObj) fb, l[1]? = some .none → appO (X ++ l) fb (some (X.length + 1)) 4 .nils (some [[.int .i64 (m.at_ + ops), .int .i64 m.kd, .int .i64 m.kp, .str m.jk]]) = some (.osl (X.length + 1) 0 1, X ++ l.set 1 (lM [shM ops m])) := fun l fb hl => by
          rw [appO_nilsA (by rw [y1, hl]) (by simp [rowsOk]) (by simp), z1]; rfl
        have fin := hX.plan1 (.box (rowM (shM ops m))) (shM ops m)
        simp (config := {maxSteps := 4000000}) only [U_nand_Nand_Plan, d, i1, d1, d2, w1, w2, rowM, gN, y0, y1, z0, z1, q0, qN, ap, reduceIte, reduceCtorEq, Nat.reduceEqDiff, Nat.reduceAdd, Int.reduceLT, Int.reduceLE, Int.reduceNeg, Int.reduceEq, Nat.reduceLT, Nat.reduceSub, Nat.reduceMul, Nat.reduceBEq, Nat.reduceLeDiff, Int.reduceBEq, Int.reduceBNe, Int.reduceToNat, ne_eq, implies_true, bA]
        refine ⟨(i + 1, _, .osl (X.length + 1) 0 1, X.length + 1), rfl, ⟨hlt, ?_, hK.trans fin.2⟩, by simp only; omega⟩
        simp only [htk, g1, List.nil_append]
        exact fin.1
      · subst g1
        have gk := fun (l : List AObj) => apN g2 l
        have lk := lt_ofN g2
        have qk : (pk' == X.length + 1) = false := by simp; omega
        have kN := ne_kind xN g2
        have ap : ∀ (l : List AObj) fb nw, fb.contains pk' = false → appO (X ++ l) fb nw 4 (.osl pk' 0 Q.length) (some [[.int .i64 (m.at_ + ops), .int .i64 m.kd, .int .i64 m.kp, .str m.jk]]) = some (.osl pk' 0 (Q.length + 1), (X ++ l).set pk' (lM (Q ++ [shM ops m]))) := fun l fb nw hf => by
          rw [appO_osl hf (gk l) (by simp) (by simp; omega) (by simp [rowsOk]) (by simp)]; simp [lM, rowM, shM]
        have xeN : ∀ (l : List AObj) a, ((X ++ l).set pk' a)[N]? = some (.box [.int .i64 16, .int .i64 8, .bsl B 0 16, .int .i64 ops, .osl pk' 0 Q.length, .bool false]) := fun l a => by rw [List.getElem?_set_ne (fun e => kN e.symm)]; exact gN l
        have fin := hX.plan2 g2 [.box (rowM (shM ops m)), .none] (shM ops m) (by omega)
        simp (config := {maxSteps := 4000000}) only [U_nand_Nand_Plan, d, i1, d1, d2, w1, w2, rowM, gN, y0, y1, z0, z1, q0, qN, ap, gk, qk, xeN, reduceIte, reduceCtorEq, Nat.reduceEqDiff, Nat.reduceAdd, Int.reduceLT, Int.reduceLE, Int.reduceNeg, Int.reduceEq, Nat.reduceLT, Nat.reduceSub, Nat.reduceMul, Nat.reduceBEq, Nat.reduceLeDiff, Int.reduceBEq, Int.reduceBNe, Int.reduceToNat, ne_eq, implies_true, bA]
        refine ⟨(i + 1, _, .osl pk' 0 (Q.length + 1), pk'), rfl, ⟨hlt, ?_, hK.trans fin.2⟩, by simp only; omega⟩
        simp only [htk]
        exact fin.1
    · have d : decide ((i : Int) < (l.length : Int)) = false := by simpa using hlt
      rw [List.take_of_length_le (by omega)] at hX
      simp (config := {maxSteps := 4000000}) only [U_nand_Nand_Plan, d, reduceIte, reduceCtorEq, Nat.reduceEqDiff, Nat.reduceAdd, Int.reduceLT, Int.reduceLE, Int.reduceNeg, Int.reduceEq, Nat.reduceLT, Nat.reduceSub, Nat.reduceMul, Nat.reduceBEq, Nat.reduceLeDiff, Int.reduceBEq, Int.reduceBNe, Int.reduceToNat, ne_eq, implies_true, bA]
      exact ⟨_, rfl, ⟨_, _, hX⟩, hK⟩

/-- An array, as a caller has it. -/
def NandS (ob : List AObj) (N : Nat) (bl : List Bk) (ops : Int) (P : List Mis) (down : Bool) : Prop := ∃ B E pl pk, NandAt ob N B E ops pl pk P down ∧ E.map (·.b) = bl
theorem NandS.app {bl : List Bk} (h : NandS ob N bl ops P down) (l : List AObj) : NandS (ob ++ l) N bl ops P down := by
  obtain ⟨B, E, pl, pk, h1, h2⟩ := h
  exact ⟨B, E, pl, pk, h1.app l, h2⟩
theorem get_map {E : List Ent} {bl : List Bk} (h : E.map (·.b) = bl) {b : Nat} {k : Bk} (hb : bl[b]? = some k) : ∃ e, E[b]? = some e ∧ e.b = k := by
  rw [← h, List.getElem?_map] at hb
  obtain ⟨e, h1, h2⟩ := Option.map_eq_some_iff.1 hb
  exact ⟨e, h1, h2⟩
theorem Program_i {bl : List Bk} {b k : Nat} {bk : Bk} {s : List UInt8} (h : NandS ob N bl ops P false) (hops : ops < 1000000) (he : bl[b]? = some bk) (hk : k < 8) (hbad : bk.bad = false) (hlen : bk.pg.length = k) (hs : s.length ≤ 128) (hj : (cM P (ops + 1)).jk.length ≤ 1000) {pg : Int} (hpg : pg = ((8 * b + k : Nat) : Int)) :
    ICall Tryz.prog 31 [.ref N 0, .int .i64 pg, .str s] ob fun r ob' => NandS ob' N (bl.set b ⟨bk.pg ++ [pageT (cM P (ops + 1)) s], bk.wn, decide ((cM P (ops + 1)).kd = 2)⟩) (ops + 1) P (decide ((cM P (ops + 1)).kd = 1)) ∧ KeepL ob ob' ∧ WrapAt ob' (errT (cM P (ops + 1))) r := by
  obtain ⟨B, E, pl, pk, h1, h2⟩ := h
  obtain ⟨e, h3, rfl⟩ := get_map h2 he
  refine icall_dr Tryz.func31 comp_nand_Nand_Program ?_
  simp (config := {maxSteps := 4000000}) only [U_nand_Nand_Program, reduceIte, reduceCtorEq, Nat.reduceEqDiff, Nat.reduceAdd, Int.reduceLT, Int.reduceLE, Int.reduceNeg, Int.reduceEq, Nat.reduceLT, Nat.reduceSub, Nat.reduceMul, Nat.reduceBEq, Nat.reduceLeDiff, Int.reduceBEq, Int.reduceBNe, Int.reduceToNat, ne_eq, implies_true, bA]
  refine callM (prog_i h1 hops h3 hk hbad hlen hs hj hpg) ?_
  rintro r ob' ⟨E', hE, hK, rfl, hM⟩
  simp (config := {maxSteps := 4000000}) only [U_nand_Nand_Program, reduceIte, reduceCtorEq, Nat.reduceEqDiff, Nat.reduceAdd, Int.reduceLT, Int.reduceLE, Int.reduceNeg, Int.reduceEq, Nat.reduceLT, Nat.reduceSub, Nat.reduceMul, Nat.reduceBEq, Nat.reduceLeDiff, Int.reduceBEq, Int.reduceBNe, Int.reduceToNat, ne_eq, implies_true, bA]
  refine callM (wrap_i ob' _ _ _) ?_
  rintro r ob2 ⟨⟨ex, rfl⟩, hw⟩
  simp (config := {maxSteps := 4000000}) only [U_nand_Nand_Program, reduceIte, reduceCtorEq, Nat.reduceEqDiff, Nat.reduceAdd, Int.reduceLT, Int.reduceLE, Int.reduceNeg, Int.reduceEq, Nat.reduceLT, Nat.reduceSub, Nat.reduceMul, Nat.reduceBEq, Nat.reduceLeDiff, Int.reduceBEq, Int.reduceBNe, Int.reduceToNat, ne_eq, implies_true, bA]
  exact ⟨_, rfl, ⟨B, E', pl, pk, hE.app ex, by rw [hM, h2]⟩, hK.trans (KeepL.app _ _), hw⟩
theorem Read_i {bl : List Bk} {b k : Nat} {bk : Bk} (h : NandS ob N bl ops P false) (he : bl[b]? = some bk) (hk : k < 8) {pg : Int} (hpg : pg = ((8 * b + k : Nat) : Int)) :
    ICall Tryz.prog 32 [.ref N 0, .int .i64 pg] ob fun r ob' => ∃ r2, r = .tup [.str (bk.pg.getD k []), r2] ∧ NandS ob' N bl ops P false ∧ KeepL ob ob' ∧ WrapAt ob' (if k < bk.pg.length then 0 else 42) r2 := by
  have hS := h
  obtain ⟨B, E, pl, pk, h1, h2⟩ := h
  obtain ⟨e, h3, rfl⟩ := get_map h2 he
  refine icall_dr Tryz.func32 comp_nand_Nand_Read ?_
  simp (config := {maxSteps := 4000000}) only [U_nand_Nand_Read, reduceIte, reduceCtorEq, Nat.reduceEqDiff, Nat.reduceAdd, Int.reduceLT, Int.reduceLE, Int.reduceNeg, Int.reduceEq, Nat.reduceLT, Nat.reduceSub, Nat.reduceMul, Nat.reduceBEq, Nat.reduceLeDiff, Int.reduceBEq, Int.reduceBNe, Int.reduceToNat, ne_eq, implies_true, bA]
  refine callM (read_i h1 h3 hk hpg) ?_
  rintro r ob' ⟨⟨ex, rfl⟩, rfl⟩
  simp (config := {maxSteps := 4000000}) only [U_nand_Nand_Read, reduceIte, reduceCtorEq, Nat.reduceEqDiff, Nat.reduceAdd, Int.reduceLT, Int.reduceLE, Int.reduceNeg, Int.reduceEq, Nat.reduceLT, Nat.reduceSub, Nat.reduceMul, Nat.reduceBEq, Nat.reduceLeDiff, Int.reduceBEq, Int.reduceBNe, Int.reduceToNat, ne_eq, implies_true, bA]
  refine callM (wrap_i _ _ _ _) ?_
  rintro r ob2 ⟨⟨ex2, rfl⟩, hw⟩
  simp (config := {maxSteps := 4000000}) only [U_nand_Nand_Read, reduceIte, reduceCtorEq, Nat.reduceEqDiff, Nat.reduceAdd, Int.reduceLT, Int.reduceLE, Int.reduceNeg, Int.reduceEq, Nat.reduceLT, Nat.reduceSub, Nat.reduceMul, Nat.reduceBEq, Nat.reduceLeDiff, Int.reduceBEq, Int.reduceBNe, Int.reduceToNat, ne_eq, implies_true, bA]
  rw [List.append_assoc] at hw
  exact ⟨_, rfl, _, rfl, hS.app _, KeepL.app _ _, hw⟩
theorem Plan_i {bl : List Bk} (h : NandS ob N bl ops P false) (l : List Mis) (hl : l.length ≤ 1000) (hat : ∀ m ∈ l, 1 ≤ m.at_ ∧ m.at_ ≤ 1000) :
    ICall Tryz.prog 12 [.ref N 0, .slc (l.map rowM)] ob fun r ob' => NandS ob' N bl ops (l.map (shM ops)) false ∧ KeepL ob ob' := by
  obtain ⟨B, E, pl, pk, h1, h2⟩ := h
  refine callM (plan_i h1 l hl hat) ?_
  rintro r ob' ⟨⟨pl', pk', h3⟩, h4⟩
  exact ⟨⟨B, E, pl', pk', h3, h2⟩, h4⟩
theorem Up_i {bl : List Bk} (h : NandS ob N bl ops P down) : ICall Tryz.prog 13 [.ref N 0] ob fun r ob' => NandS ob' N bl ops [] false ∧ KeepL ob ob' := by
  obtain ⟨B, E, pl, pk, h1, h2⟩ := h
  refine callM (up_i h1) ?_
  rintro r ob' ⟨h3, h4⟩
  exact ⟨⟨B, E, .nils, 0, h3, h2⟩, h4⟩
theorem Bad_r {bl : List Bk} {b : Nat} {bk : Bk} (h : NandS ob N bl ops P down) (he : bl[b]? = some bk) : RCall Tryz.prog 74 [.ref N 0, .int .i64 (b : Int)] ob (.bool bk.bad) := by
  obtain ⟨B, E, pl, pk, h1, h2⟩ := h
  obtain ⟨e, h3, rfl⟩ := get_map h2 he
  exact bad_r h1 h3
def blK : List Bk := List.replicate 16 zeroK
theorem New_i (ob : List AObj) : ICall Tryz.prog 5 [.agg [.int .i64 16, .int .i64 8]] ob fun r ob' => ∃ N, r = .tup [.ref N 0, .nili] ∧ NandS ob' N blK 0 [] false ∧ KeepL ob ob' := by
  refine callM (new_i ob) ?_
  rintro r ob' ⟨⟨N, B, rfl, h⟩, hK⟩
  exact ⟨N, rfl, ⟨B, _, _, _, h, by simp [bls0, blK]⟩, hK⟩

end Go.Proofs.YtdgpiobmncohjaaGreatDoor.Aw
namespace Go.Proofs.YtdgpiobmncohjaaGreatDoor.Aw
open Go.RowKit

variable {ob : List AObj} {N B : Nat} {E : List Ent} {ops : Int} {pl : PV} {pk : Nat} {P : List Mis} {down : Bool}

theorem next_r {b : Nat} {e : Ent} (h : NandAt ob N B E ops pl pk P down) (he : E[b]? = some e) : RCall Tryz.prog 75 [.ref N 0, .int .i64 (b : Int)] ob (.int .i64 (e.b.pg.length : Int)) := by
  have hb : b < 16 := by have := (List.getElem?_eq_some_iff.1 he).1; rw [h.len] at this; exact this
  refine RCall.of (K := fun r ob' => r = .int .i64 (e.b.pg.length : Int) ∧ ob' = ob) ?_ (fun r ob' h => ⟨h.1, [], by rw [h.2]; simp⟩) rfl
  refine icall_dr Tryz.func75 comp_nand_Nand_Next ?_
  have hN := h.hN
  have hB := h.hB
  have i1 : ∀ o : List AObj, islV o [] 3 (.bsl B 0 16) (.int .i64 (b : Int)) = some (.ref B (3 * b)) := fun o => by
    rw [islV_bsl (by simp; omega)]; simp; omega
  have l0 := ldE (j := 0) (v := e.pv) he rfl
  simp only [Nat.add_zero] at l0
  simp (config := {maxSteps := 4000000}) only [U_nand_Nand_Next, reduceIte, reduceCtorEq, Nat.reduceEqDiff, Nat.reduceAdd, Int.reduceLT, Int.reduceLE, Int.reduceNeg, Int.reduceEq, Nat.reduceLT, Nat.reduceSub, Nat.reduceMul, Nat.reduceBEq, Nat.reduceLeDiff, Int.reduceBEq, Int.reduceBNe, Int.reduceToNat, ne_eq, implies_true, bA]
  refine callR (block_r h hb) ?_
  rcases h.pgs e (List.mem_of_getElem? he) with ⟨g1, g2⟩ | ⟨g1, g2⟩
  · rw [g2] at l0
    simp (config := {maxSteps := 4000000}) only [U_nand_Nand_Next, hN, hB, i1, l0, reduceIte, reduceCtorEq, Nat.reduceEqDiff, Nat.reduceAdd, Int.reduceLT, Int.reduceLE, Int.reduceNeg, Int.reduceEq, Nat.reduceLT, Nat.reduceSub, Nat.reduceMul, Nat.reduceBEq, Nat.reduceLeDiff, Int.reduceBEq, Int.reduceBNe, Int.reduceToNat, ne_eq, implies_true, bA]
    exact ⟨_, rfl, by rw [g1]; rfl⟩
  · rw [g1] at l0
    have hr : rowsO (some (lS e.b.pg)) 0 e.b.pg.length = some (rowsS e.b.pg) := rowsO_all (by simp)
    simp (config := {maxSteps := 4000000}) only [U_nand_Nand_Next, hN, hB, i1, l0, g2, hr, reduceIte, reduceCtorEq, Nat.reduceEqDiff, Nat.reduceAdd, Int.reduceLT, Int.reduceLE, Int.reduceNeg, Int.reduceEq, Nat.reduceLT, Nat.reduceSub, Nat.reduceMul, Nat.reduceBEq, Nat.reduceLeDiff, Int.reduceBEq, Int.reduceBNe, Int.reduceToNat, ne_eq, implies_true, bA]
    exact ⟨_, rfl, rfl⟩
theorem nworn_r {b : Nat} {e : Ent} (h : NandAt ob N B E ops pl pk P down) (he : E[b]? = some e) : RCall Tryz.prog 140 [.ref N 0, .int .i64 (b : Int)] ob (.int .i64 e.b.wn) := by
  have hb : b < 16 := by have := (List.getElem?_eq_some_iff.1 he).1; rw [h.len] at this; exact this
  refine RCall.of (K := fun r ob' => r = .int .i64 e.b.wn ∧ ob' = ob) ?_ (fun r ob' h => ⟨h.1, [], by rw [h.2]; simp⟩) rfl
  refine icall_dr Tryz.func140 comp_nand_Nand_Worn ?_
  have hN := h.hN
  have hB := h.hB
  have i1 : ∀ o : List AObj, islV o [] 3 (.bsl B 0 16) (.int .i64 (b : Int)) = some (.ref B (3 * b)) := fun o => by
    rw [islV_bsl (by simp; omega)]; simp; omega
  have l1 := ldE (j := 1) (v := .int .i64 e.b.wn) he (by simp [cellsE])
  simp (config := {maxSteps := 4000000}) only [U_nand_Nand_Worn, reduceIte, reduceCtorEq, Nat.reduceEqDiff, Nat.reduceAdd, Int.reduceLT, Int.reduceLE, Int.reduceNeg, Int.reduceEq, Nat.reduceLT, Nat.reduceSub, Nat.reduceMul, Nat.reduceBEq, Nat.reduceLeDiff, Int.reduceBEq, Int.reduceBNe, Int.reduceToNat, ne_eq, implies_true, bA]
  refine callR (block_r h hb) ?_
  simp (config := {maxSteps := 4000000}) only [U_nand_Nand_Worn, hN, hB, i1, l1, reduceIte, reduceCtorEq, Nat.reduceEqDiff, Nat.reduceAdd, Int.reduceLT, Int.reduceLE, Int.reduceNeg, Int.reduceEq, Nat.reduceLT, Nat.reduceSub, Nat.reduceMul, Nat.reduceBEq, Nat.reduceLeDiff, Int.reduceBEq, Int.reduceBNe, Int.reduceToNat, ne_eq, implies_true, bA]
  exact ⟨_, rfl, rfl⟩
theorem down_r (h : NandAt ob N B E ops pl pk P down) : RCall Tryz.prog 37 [.ref N 0] ob (.bool down) := by
  refine RCall.of (K := fun r ob' => r = .bool down ∧ ob' = ob) ?_ (fun r ob' h => ⟨h.1, [], by rw [h.2]; simp⟩) rfl
  refine icall_dr Tryz.func37 comp_nand_Nand_Down ?_
  have hN := h.hN
  simp (config := {maxSteps := 4000000}) only [U_nand_Nand_Down, hN, reduceIte, reduceCtorEq, Nat.reduceEqDiff, Nat.reduceAdd, Int.reduceLT, Int.reduceLE, Int.reduceNeg, Int.reduceEq, Nat.reduceLT, Nat.reduceSub, Nat.reduceMul, Nat.reduceBEq, Nat.reduceLeDiff, Int.reduceBEq, Int.reduceBNe, Int.reduceToNat, ne_eq, implies_true, bA]
  exact ⟨_, rfl, rfl⟩
theorem ops_r (h : NandAt ob N B E ops pl pk P down) : RCall Tryz.prog 83 [.ref N 0] ob (.int .i64 ops) := by
  refine RCall.of (K := fun r ob' => r = .int .i64 ops ∧ ob' = ob) ?_ (fun r ob' h => ⟨h.1, [], by rw [h.2]; simp⟩) rfl
  refine icall_dr Tryz.func83 comp_nand_Nand_Ops ?_
  have hN := h.hN
  simp (config := {maxSteps := 4000000}) only [U_nand_Nand_Ops, hN, reduceIte, reduceCtorEq, Nat.reduceEqDiff, Nat.reduceAdd, Int.reduceLT, Int.reduceLE, Int.reduceNeg, Int.reduceEq, Nat.reduceLT, Nat.reduceSub, Nat.reduceMul, Nat.reduceBEq, Nat.reduceLeDiff, Int.reduceBEq, Int.reduceBNe, Int.reduceToNat, ne_eq, implies_true, bA]
  exact ⟨_, rfl, rfl⟩
theorem geo_r (h : NandAt ob N B E ops pl pk P down) : RCall Tryz.prog 38 [.ref N 0] ob (.agg [.int .i64 16, .int .i64 8]) := by
  refine RCall.of (K := fun r ob' => r = .agg [.int .i64 16, .int .i64 8] ∧ ∃ ex, ob' = ob ++ ex) ?_ (fun r ob' h => h) rfl
  refine icall_dr Tryz.func38 comp_nand_Nand_Geometry ?_
  have hN := apN h.hN [.box [.int .i64 0, .int .i64 0]]
  have g1 : ∀ b, (ob ++ [b])[ob.length]? = some b := fun b => by simp
  have s1 : ∀ b c, (ob ++ [b]).set ob.length c = ob ++ [c] := fun b c => by simp
  simp (config := {maxSteps := 4000000}) only [U_nand_Nand_Geometry, hN, g1, s1, reduceIte, reduceCtorEq, Nat.reduceEqDiff, Nat.reduceAdd, Int.reduceLT, Int.reduceLE, Int.reduceNeg, Int.reduceEq, Nat.reduceLT, Nat.reduceSub, Nat.reduceMul, Nat.reduceBEq, Nat.reduceLeDiff, Int.reduceBEq, Int.reduceBNe, Int.reduceToNat, ne_eq, implies_true, bA]
  exact ⟨_, rfl, rfl, _, rfl⟩

/-- The blocks, where the pages stand one behind the other. -/
def pgF (T : List (List UInt8)) (b : Nat) : List (List UInt8) := (T.drop (8 * b)).take 8
def blkF (T : List (List UInt8)) : List Bk := (List.range 16).map fun b => ⟨pgF T b, 0, false⟩
theorem blkF_get (T : List (List UInt8)) {b : Nat} (h : b < 16) : (blkF T)[b]? = some ⟨pgF T b, 0, false⟩ := by
  simp [blkF, h]
theorem blkF_nil : blkF [] = blK := by rfl
theorem pgF_len (T : List (List UInt8)) (b : Nat) : (pgF T b).length = min 8 (T.length - 8 * b) := by simp [pgF]
theorem pgF_get (T : List (List UInt8)) {b k : Nat} (h : k < 8) : (pgF T b).getD k [] = T.getD (8 * b + k) [] := by
  simp [pgF, List.getD, h]
theorem blkF_snoc (T : List (List UInt8)) (t : List UInt8) : (blkF T).set (T.length / 8) ⟨pgF T (T.length / 8) ++ [t], 0, false⟩ = blkF (T ++ [t]) := by
  apply List.ext_getElem?
  intro i
  by_cases hi : i < 16
  · rw [blkF_get _ hi, List.getElem?_set]
    by_cases he : T.length / 8 = i
    · subst he
      rw [if_pos rfl, if_pos (by simp [blkF]; omega)]
      congr 2
      have hl : (T.drop (8 * (T.length / 8))).length ≤ 7 := by simp; omega
      rw [pgF, pgF, List.take_of_length_le (by omega), List.drop_append_of_le_length (by omega), List.take_of_length_le (by simp; omega)]
    · rw [if_neg he, blkF_get _ hi]
      congr 2
      rw [pgF, pgF]
      rcases Nat.lt_or_ge (T.length / 8) i with h1 | h1
      · rw [List.drop_eq_nil_of_le (by omega), List.drop_eq_nil_of_le (by simp; omega)]
      · rw [List.drop_append_of_le_length (by omega), List.take_append_of_le_length (by simp; omega)]
  · rw [List.getElem?_eq_none (by simp [blkF]; omega), List.getElem?_eq_none (by simp [blkF]; omega)]

/-- An array whose pages stand one behind the other. -/
abbrev NandF (ob : List AObj) (N : Nat) (T : List (List UInt8)) (ops : Int) (P : List Mis) (down : Bool) : Prop := NandS ob N (blkF T) ops P down
variable {T : List (List UInt8)}
theorem fNext_r (h : NandF ob N T ops P down) {b : Nat} (hb : b < 16) : RCall Tryz.prog 75 [.ref N 0, .int .i64 (b : Int)] ob (.int .i64 ((min 8 (T.length - 8 * b) : Nat) : Int)) := by
  obtain ⟨B, E, pl, pk, h1, h2⟩ := h
  obtain ⟨e, h3, h4⟩ := get_map h2 (blkF_get T hb)
  have := next_r h1 h3
  rw [h4] at this
  simpa [pgF_len] using this
theorem fWorn_r (h : NandF ob N T ops P down) {b : Nat} (hb : b < 16) : RCall Tryz.prog 140 [.ref N 0, .int .i64 (b : Int)] ob (.int .i64 0) := by
  obtain ⟨B, E, pl, pk, h1, h2⟩ := h
  obtain ⟨e, h3, h4⟩ := get_map h2 (blkF_get T hb)
  have := nworn_r h1 h3
  rwa [h4] at this
theorem fBad_r (h : NandF ob N T ops P down) {b : Nat} (hb : b < 16) : RCall Tryz.prog 74 [.ref N 0, .int .i64 (b : Int)] ob (.bool false) := Bad_r h (blkF_get T hb)
theorem fDown_r (h : NandF ob N T ops P down) : RCall Tryz.prog 37 [.ref N 0] ob (.bool down) := by
  obtain ⟨B, E, pl, pk, h1, h2⟩ := h
  exact down_r h1
theorem fOps_r (h : NandF ob N T ops P down) : RCall Tryz.prog 83 [.ref N 0] ob (.int .i64 ops) := by
  obtain ⟨B, E, pl, pk, h1, h2⟩ := h
  exact ops_r h1
theorem fGeo_r (h : NandF ob N T ops P down) : RCall Tryz.prog 38 [.ref N 0] ob (.agg [.int .i64 16, .int .i64 8]) := by
  obtain ⟨B, E, pl, pk, h1, h2⟩ := h
  exact geo_r h1
theorem fRead_i (h : NandF ob N T ops P false) {at_ : Nat} (ha : at_ < 128) :
    ICall Tryz.prog 32 [.ref N 0, .int .i64 (at_ : Int)] ob fun r ob' => ∃ r2, r = .tup [.str (T.getD at_ []), r2] ∧ NandF ob' N T ops P false ∧ KeepL ob ob' ∧ WrapAt ob' (if at_ < T.length then 0 else 42) r2 := by
  refine callM (Read_i (b := at_ / 8) (k := at_ % 8) h (blkF_get T (by omega)) (by omega) (by omega)) ?_
  rintro r ob' ⟨r2, rfl, h1, h2, h3⟩
  refine ⟨r2, ?_, h1, h2, ?_⟩
  · rw [pgF_get _ (by omega)]
    rw [show 8 * (at_ / 8) + at_ % 8 = at_ by omega]
  · simp only [pgF_len] at h3
    have e : (at_ % 8 < min 8 (T.length - 8 * (at_ / 8))) = (at_ < T.length) := by
      apply propext; omega
    simpa only [e] using h3
theorem fProgram_i (h : NandF ob N T ops P false) (hops : ops < 1000000) (hT : T.length < 128) {s : List UInt8} (hs : s.length ≤ 128) (hj : (cM P (ops + 1)).jk.length ≤ 1000) (hk : (cM P (ops + 1)).kd ≠ 2) :
    ICall Tryz.prog 31 [.ref N 0, .int .i64 (T.length : Int), .str s] ob fun r ob' => NandF ob' N (T ++ [pageT (cM P (ops + 1)) s]) (ops + 1) P (decide ((cM P (ops + 1)).kd = 1)) ∧ KeepL ob ob' ∧ WrapAt ob' (errT (cM P (ops + 1))) r := by
  refine callM (Program_i (b := T.length / 8) (k := T.length % 8) h hops (blkF_get T (by omega)) (by omega) rfl (by simp only [pgF_len]; omega) hs hj (by omega)) ?_
  rintro r ob' ⟨h1, h2, h3⟩
  refine ⟨?_, h2, h3⟩
  rw [show decide ((cM P (ops + 1)).kd = 2) = false by simpa using hk] at h1
  rw [blkF_snoc] at h1
  exact h1

end Go.Proofs.YtdgpiobmncohjaaGreatDoor.Aw
