/-
  The array of pages: a page is programmed. Written by a program (mkprog.py).
-/
import Derived.Test.YtdgpiobmncohjaaDoorPNand2
set_option linter.unusedSimpArgs false
set_option linter.unusedVariables false
namespace Go.Proofs.YtdgpiobmncohjaaDoor.Aw
open Go.RowKit

theorem flat_at {E : List Ent} {b : Nat} {e : Ent} (h : E[b]? = some e) : ∃ E1 E2, E = E1 ++ e :: E2 ∧ E1.length = b ∧ (E1.flatMap cellsE).length = 3 * b := by
  have hb : b < E.length := (List.getElem?_eq_some_iff.1 h).1
  have he : E[b] = e := by rw [List.getElem?_eq_getElem hb] at h; exact Option.some.inj h
  refine ⟨E.take b, E.drop (b + 1), ?_, by simp; omega, ?_⟩
  · rw [← he, ← List.drop_eq_getElem_cons hb, List.take_append_drop]
  · have : ∀ l : List Ent, (l.flatMap cellsE).length = 3 * l.length := fun l => by
      induction l with
      | nil => rfl
      | cons x l ih => rw [List.flatMap_cons, List.length_append, ih]; simp [cellsE]; omega
    rw [this]; simp; omega
theorem flat_len3 : ∀ l : List Ent, (l.flatMap cellsE).length = 3 * l.length
  | [] => rfl
  | x :: l => by rw [List.flatMap_cons, List.length_append, flat_len3 l]; simp [cellsE]; omega
theorem ldE {E : List Ent} {b j : Nat} {e : Ent} {v : PV} (h : E[b]? = some e) (hj : (cellsE e)[j]? = some v) : ldB (some (.box (E.flatMap cellsE))) (3 * b + j) 1 = some [v] := by
  obtain ⟨E1, E2, rfl, h1, h2⟩ := flat_at h
  have h3 : j < 3 := by have := (List.getElem?_eq_some_iff.1 hj).1; simpa [cellsE] using this
  rw [List.flatMap_append, List.flatMap_cons]
  have e1 : (List.flatMap cellsE E1 ++ (cellsE e ++ List.flatMap cellsE E2)).drop (3 * b + j) = (cellsE e).drop j ++ List.flatMap cellsE E2 := by
    rw [← List.drop_drop, List.drop_left' h2, List.drop_append_of_le_length (by simp [cellsE]; omega)]
  simp only [ldB]
  rw [if_pos (by simp [cellsE] at h2 ⊢; omega), e1]
  rcases j with _ | _ | _ | j
  · simp [cellsE] at hj ⊢; exact hj
  · simp [cellsE] at hj ⊢; exact hj
  · simp [cellsE] at hj ⊢; exact hj
  · omega
theorem stE {ob : List AObj} {B : Nat} {E : List Ent} {b j : Nat} {e e' : Ent} {v : PV} (h : E[b]? = some e) (hj : j < 3) (he : cellsE e' = (cellsE e).set j v) : stB ob B (some (.box (E.flatMap cellsE))) (3 * b + j) [v] = some (.bot, ob.set B (.box ((E.set b e').flatMap cellsE))) := by
  obtain ⟨E1, E2, rfl, h1, h2⟩ := flat_at h
  have e2 : (E1 ++ e :: E2).set b e' = E1 ++ e' :: E2 := by subst h1; simp
  rw [e2, List.flatMap_append, List.flatMap_cons, List.flatMap_append, List.flatMap_cons, he]
  simp only [stB]
  rw [if_pos (by simp [cellsE] at h2 ⊢; omega)]
  generalize hF : List.flatMap cellsE E1 = F at *
  generalize List.flatMap cellsE E2 = G
  have e3 : setAt (F ++ (cellsE e ++ G)) (3 * b + j) [v] = F ++ ((cellsE e).set j v ++ G) := by
    rw [setAt, ← h2, List.take_append, List.drop_append, List.length_singleton]
    have t1 : ∀ n, F.take (F.length + n) = F := fun n => List.take_of_length_le (by omega)
    have t2 : ∀ n, F.drop (F.length + n) = [] := fun n => List.drop_of_length_le (by omega)
    rcases j with _ | _ | _ | j
    · simp [cellsE, t2]
    · simp [cellsE, Nat.add_assoc, t1, t2]
    · simp [cellsE, Nat.add_assoc, t1, t2]
    · omega
  rw [e3]
theorem ne_kind {ob : List AObj} {i j : Nat} {c : List PV} {z : Nat} {r : List (List PV)} (h : ob[i]? = some (.box c)) (h' : ob[j]? = some (.list z r)) : i ≠ j := by rintro rfl; rw [h] at h'; cases h'
theorem ne_NB {ob : List AObj} {N B : Nat} {E : List Ent} {ops : Int} {pl : PV} {pk : Nat} {P : List Mis} {down : Bool} (h : NandAt ob N B E ops pl pk P down) : N ≠ B := by
  intro e
  have h1 := h.hN
  rw [e, h.hB] at h1
  injection h1 with h1; injection h1 with h1
  have h2 := congrArg List.length h1
  have h3 : ∀ l : List Ent, (l.flatMap cellsE).length = 3 * l.length := fun l => by
    induction l with
    | nil => rfl
    | cons x l ih => rw [List.flatMap_cons, List.length_append, ih]; simp [cellsE]; omega
  rw [h3, h.len] at h2
  simp at h2
theorem ne_kb {ob : List AObj} {i j : Nat} {a b : List PV} (h : ob[i]? = some (.box a)) (h' : ob[j]? = some (.box b)) (e : j = i) (hl : a.length = 1 := by rfl) (hb : b.length ≠ 1 := by assumption) : False := by subst e; rw [h] at h'; injection h' with h'; injection h' with h'; rw [h'] at hl; exact hb hl
theorem ne_13 {ob : List AObj} {i j : Nat} {l : List (List UInt8)} {m : List Mis} (h : ob[i]? = some (lS l)) (h' : ob[j]? = some (lM m)) : i ≠ j := by rintro rfl; rw [h] at h'; injection h' with h'; injection h' with h'; omega
/-- One block is another one now. -/
theorem NandAt.upd {ob ob' : List AObj} {N B : Nat} {E : List Ent} {ops ops' : Int} {pl : PV} {pk : Nat} {P : List Mis} {down down' : Bool} {b : Nat} (h : NandAt ob N B E ops pl pk P down) (e' : Ent)
    (hN : ob'[N]? = some (.box [.int .i64 16, .int .i64 8, .bsl B 0 16, .int .i64 ops', pl, .bool down'])) (hB : ob'[B]? = some (.box ((E.set b e').flatMap cellsE))) (hpg : PgAt ob' e')
    (hoth : ∀ (j : Nat) (f : Ent), E[j]? = some f → j ≠ b → PgAt ob' f) (hpl : PlAt ob' pl pk P) (hdis : e'.pv ≠ .nils → ∀ (j : Nat) (f : Ent), E[j]? = some f → j ≠ b → f.pv ≠ .nils → f.k ≠ e'.k) (h0 : 0 ≤ ops') (h1 : ops' ≤ 1000000) :
    NandAt ob' N B (E.set b e') ops' pl pk P down' where
  hN := hN
  hB := hB
  len := by rw [List.length_set]; exact h.len
  pgs x hx := by
    obtain ⟨j, hj⟩ := List.mem_iff_getElem?.1 hx
    by_cases hjb : j = b
    · subst hjb
      rw [List.getElem?_set_self' ] at hj
      cases hh : E[j]? with
      | none => rw [hh] at hj; cases hj
      | some y => rw [hh] at hj; cases hj; exact hpg
    · rw [List.getElem?_set_ne (fun e => hjb e.symm)] at hj
      exact hoth j x hj hjb
  plan := hpl
  inj i j x y hx hy nx ny hk := by
    by_cases hi : i = b
    · by_cases hj : j = b
      · rw [hi, hj]
      · subst hi
        rw [List.getElem?_set_self'] at hx
        rw [List.getElem?_set_ne (fun e => hj e.symm)] at hy
        cases hh : E[i]? with
        | none => rw [hh] at hx; cases hx
        | some z => rw [hh] at hx; cases hx; exact absurd hk.symm (hdis nx j y hy hj ny)
    · rw [List.getElem?_set_ne (fun e => hi e.symm)] at hx
      by_cases hj : j = b
      · subst hj
        rw [List.getElem?_set_self'] at hy
        cases hh : E[j]? with
        | none => rw [hh] at hy; cases hy
        | some z => rw [hh] at hy; cases hy; exact absurd hk (hdis ny i x hx hi nx)
      · rw [List.getElem?_set_ne (fun e => hj e.symm)] at hy
        exact h.inj i j x y hx hy nx ny hk
  ops0 := h0
  ops1 := h1
  pl1 := h.pl1
theorem NandAt.turn {ob : List AObj} {N B : Nat} {E : List Ent} {ops : Int} {pl : PV} {pk : Nat} {P : List Mis} {down : Bool} (h : NandAt ob N B E ops pl pk P down) (d : Bool) :
    NandAt (ob.set N (.box [.int .i64 16, .int .i64 8, .bsl B 0 16, .int .i64 ops, pl, .bool d])) N B E ops pl pk P d ∧ KeepL ob (ob.set N (.box [.int .i64 16, .int .i64 8, .bsl B 0 16, .int .i64 ops, pl, .bool d])) := by
  refine ⟨⟨set_get h.hN, ?_, h.len, fun f hf => ?_, ?_, h.inj, h.ops0, h.ops1, h.pl1⟩, KeepL.box h.hN⟩
  · rw [List.getElem?_set_ne (ne_NB h)]; exact h.hB
  · rcases h.pgs f hf with y | ⟨y1, y2⟩
    · exact .inl y
    · exact .inr ⟨y1, by rw [List.getElem?_set_ne (ne_kind h.hN y2)]; exact y2⟩
  · rcases h.plan with y | ⟨y1, y2⟩
    · exact .inl y
    · exact .inr ⟨y1, by rw [List.getElem?_set_ne (ne_kind h.hN y2)]; exact y2⟩
theorem NandAt.new {X : List AObj} {N B : Nat} {E : List Ent} {ops : Int} {pl : PV} {pk : Nat} {P : List Mis} {down : Bool} {b : Nat} (h : NandAt X N B E ops pl pk P down) (bm : AObj) (t : List UInt8) (e' : Ent) (h1 : e'.pv = .osl (X.length + 1) 0 1) (h2 : e'.k = X.length + 1) (h3 : e'.b.pg = [t]) :
    NandAt ((X ++ [bm, lS [t]]).set B (.box ((E.set b e').flatMap cellsE))) N B (E.set b e') ops pl pk P down ∧ KeepL X ((X ++ [bm, lS [t]]).set B (.box ((E.set b e').flatMap cellsE))) := by
  have hB := apN h.hB [bm, lS [t]]
  have keep : ∀ (i z : Nat) (r : List (List PV)), X[i]? = some (.list z r) → ((X ++ [bm, lS [t]]).set B (.box ((E.set b e').flatMap cellsE)))[i]? = some (.list z r) := fun i z r hi => by
    rw [List.getElem?_set_ne (ne_kind h.hB hi)]; exact apN hi _
  refine ⟨h.upd e' ?_ (set_get hB) ?_ (fun j f hf _ => ?_) ?_ (fun _ j f hf _ nf hk => ?_) h.ops0 h.ops1, (KeepL.app _ _).trans (KeepL.box hB (.inr (by rw [flat_len3, h.len])))⟩
  · rw [List.getElem?_set_ne (fun e => ne_NB h e.symm)]; exact apN h.hN _
  · refine .inr ⟨by rw [h1, h2, h3]; rfl, ?_⟩
    have := lt_ofN h.hB
    rw [h2, h3, List.getElem?_set_ne (by omega), List.getElem?_append_right (by omega)]; simp
  · rcases h.pgs f (List.mem_of_getElem? hf) with y | ⟨y1, y2⟩
    · exact .inl y
    · exact .inr ⟨y1, keep _ _ _ y2⟩
  · rcases h.plan with y | ⟨y1, y2⟩
    · exact .inl y
    · exact .inr ⟨y1, keep _ _ _ y2⟩
  · rcases h.pgs f (List.mem_of_getElem? hf) with y | ⟨y1, y2⟩
    · exact nf y.2
    · have := lt_ofN y2; omega
theorem NandAt.more {X : List AObj} {N B : Nat} {E : List Ent} {ops : Int} {pl : PV} {pk : Nat} {P : List Mis} {down : Bool} {b : Nat} {e : Ent} (h : NandAt X N B E ops pl pk P down) (he : E[b]? = some e) (x : List AObj) (t : List UInt8) (e' : Ent) (g1 : e.pv = .osl e.k 0 e.b.pg.length) (g2 : X[e.k]? = some (lS e.b.pg))
    (h1 : e'.pv = .osl e.k 0 (e.b.pg.length + 1)) (h2 : e'.k = e.k) (h3 : e'.b.pg = e.b.pg ++ [t]) :
    NandAt (((X ++ x).set e.k (lS (e.b.pg ++ [t]))).set B (.box ((E.set b e').flatMap cellsE))) N B (E.set b e') ops pl pk P down ∧ KeepL X (((X ++ x).set e.k (lS (e.b.pg ++ [t]))).set B (.box ((E.set b e').flatMap cellsE))) := by
  have hB := apN h.hB x
  have hk := apN g2 x
  have nB := ne_kind h.hB g2
  have nN := ne_kind h.hN g2
  have keep : ∀ (i z : Nat) (r : List (List PV)), i ≠ e.k → X[i]? = some (.list z r) → (((X ++ x).set e.k (lS (e.b.pg ++ [t]))).set B (.box ((E.set b e').flatMap cellsE)))[i]? = some (.list z r) := fun i z r hne hi => by
    rw [List.getElem?_set_ne (ne_kind h.hB hi), List.getElem?_set_ne (fun e => hne e.symm)]; exact apN hi _
  refine ⟨h.upd e' ?_ (set_get (by rw [List.getElem?_set_ne (fun e => nB e.symm)]; exact hB)) ?_ (fun j f hf hj => ?_) ?_ (fun _ j f hf hj nf hk2 => ?_) h.ops0 h.ops1, ((KeepL.app _ _).trans (KeepL.ls hk)).trans (KeepL.box (by rw [List.getElem?_set_ne (fun e => nB e.symm)]; exact hB) (.inr (by rw [flat_len3, h.len])))⟩
  · rw [List.getElem?_set_ne (fun e => ne_NB h e.symm), List.getElem?_set_ne (fun e => nN e.symm)]; exact apN h.hN _
  · refine .inr ⟨by rw [h1, h2, h3]; simp, ?_⟩
    rw [h2, h3, List.getElem?_set_ne nB]; exact set_get hk
  · rcases h.pgs f (List.mem_of_getElem? hf) with y | ⟨y1, y2⟩
    · exact .inl y
    · refine .inr ⟨y1, keep _ _ _ (fun ek => hj ?_) y2⟩
      exact h.inj j b f e hf he (by rw [y1]; simp) (by rw [g1]; simp) ek
  · rcases h.plan with y | ⟨y1, y2⟩
    · exact .inl y
    · exact .inr ⟨y1, keep _ _ _ (fun ek => by rw [ek] at y2; exact ne_13 g2 y2 rfl) y2⟩
  · rcases h.pgs f (List.mem_of_getElem? hf) with y | ⟨y1, y2⟩
    · exact nf y.2
    · exact hj (h.inj j b f e hf he nf (by rw [g1]; simp) (by rw [hk2, h2]))
/-- What a programmed page is; what the array does then. -/
def pageT (m : Mis) (s : List UInt8) : List UInt8 := if m.kd = 1 ∨ m.kd = 2 then spoiltS m s else s
def errT (m : Mis) : Int := if m.kd = 1 then 9 else if m.kd = 2 then 41 else 0
abbrev ProgK (ob : List AObj) (N B b : Nat) (E : List Ent) (ops : Int) (pl : PV) (pk : Nat) (P : List Mis) (bk : Bk) (down : Bool) (err : Int) : PV → List AObj → Prop := fun r ob' =>
  ∃ E', NandAt ob' N B E' (ops + 1) pl pk P down ∧ KeepL ob ob' ∧ r = errV err ∧ E'.map (·.b) = (E.map (·.b)).set b bk
theorem map_set (E : List Ent) (b : Nat) (e : Ent) : (E.set b e).map (·.b) = (E.map (·.b)).set b e.b := by rw [List.map_set]
theorem prog_i {ob : List AObj} {N B : Nat} {E : List Ent} {ops : Int} {pl : PV} {pk : Nat} {P : List Mis} {b k : Nat} {e : Ent} {s : List UInt8} (h : NandAt ob N B E ops pl pk P false) (hops : ops < 1000000) (he : E[b]? = some e) (hk : k < 8) (hbad : e.b.bad = false) (hlen : e.b.pg.length = k) (hs : s.length ≤ 128)
    (hj : (cM P (ops + 1)).jk.length ≤ 1000) {pg : Int} (hpg : pg = ((8 * b + k : Nat) : Int)) :
    ICall Tryd.prog 23 [.ref N 0, .int .i64 pg, .str s] ob (ProgK ob N B b E ops pl pk P ⟨e.b.pg ++ [pageT (cM P (ops + 1)) s], e.b.wn, decide ((cM P (ops + 1)).kd = 2)⟩ (decide ((cM P (ops + 1)).kd = 1)) (errT (cM P (ops + 1)))) := by
  subst hpg
  refine icall_dr Tryd.func23 comp_nand_Nand_program ?_
  have hb : b < 16 := by have := (List.getElem?_eq_some_iff.1 he).1; rw [h.len] at this; exact this
  obtain ⟨W, hW⟩ : ∃ W, ob ++ [AObj.box [.ref N 0], AObj.box [.int .i64 ((8 * b + k : Nat) : Int)], AObj.box [.str s]] = W := ⟨_, rfl⟩
  have hA : NandAt W N B E ops pl pk P false := by rw [← hW]; exact h.app _
  have c0 : W[ob.length]? = some (.box [.ref N 0]) := by rw [← hW, List.getElem?_append_right (Nat.le_refl _)]; simp
  have c1 : W[ob.length + 1]? = some (.box [.int .i64 ((8 * b + k : Nat) : Int)]) := by rw [← hW, List.getElem?_append_right (by omega)]; simp
  have c2 : W[ob.length + 2]? = some (.box [.str s]) := by rw [← hW, List.getElem?_append_right (by omega)]; simp
  have kW : KeepL ob W := by rw [← hW]; exact KeepL.app _ _
  simp (config := {maxSteps := 4000000}) only [U_nand_Nand_program, hW, c0, reduceIte, reduceCtorEq, Nat.reduceEqDiff, Nat.reduceAdd, Int.reduceLT, Int.reduceLE, Int.reduceNeg, Int.reduceEq, Nat.reduceLT, Nat.reduceSub, Nat.reduceMul, Nat.reduceBEq, Nat.reduceLeDiff, Int.reduceBEq, Int.reduceBNe, Int.reduceToNat, ne_eq, implies_true, bA]
  refine callM (ready_i hA (progc_i hA c0 c1 c2 (by omega) hs)) ?_
  rintro r ob' ⟨rfl, e9⟩
  rw [e9]
  clear e9 ob'
  have hN := hA.hN
  have hB := hA.hB
  have d1 : IntKind.i64.wrap (((8 * b + k : Nat) : Int).tdiv 8) = (b : Int) := by
    have : ((8 * b + k : Nat) : Int).tdiv 8 = (b : Int) := by rw [Int.tdiv_eq_ediv_of_nonneg (by omega)]; omega
    rw [this, wrapI (by omega) (by omega)]
  have d2 : ((8 * b + k : Nat) : Int).tmod 8 = (k : Int) := by rw [Int.tmod_eq_emod_of_nonneg (by omega)]; omega
  have i1 : ∀ o : List AObj, islV o [] 3 (.bsl B 0 16) (.int .i64 (b : Int)) = some (.ref B (3 * b)) := fun o => by
    rw [islV_bsl (by simp; omega)]; simp; omega
  have l0 := ldE (j := 0) (v := e.pv) he rfl
  have l2 := ldE (j := 2) (v := .bool false) he (by simp [cellsE, hbad])
  simp only [Nat.add_zero] at l0
  have hpgs := hA.pgs e (List.mem_of_getElem? he)
  have dn : ((k : Int) != (k : Int)) = false := by simp
  rcases hpgs with ⟨g1, g2⟩ | ⟨g1, g2⟩
  · have k0 : k = 0 := by rw [g1] at hlen; simpa using hlen.symm
    rw [g2] at l0
    have dn : ((k : Int) != 0) = false := by simp [k0]
    simp (config := {maxSteps := 4000000}) only [U_nand_Nand_program, c0, c1, hN, hB, d1, d2, i1, l0, l2, dn, reduceIte, reduceCtorEq, Nat.reduceEqDiff, Nat.reduceAdd, Int.reduceLT, Int.reduceLE, Int.reduceNeg, Int.reduceEq, Nat.reduceLT, Nat.reduceSub, Nat.reduceMul, Nat.reduceBEq, Nat.reduceLeDiff, Int.reduceBEq, Int.reduceBNe, Int.reduceToNat, ne_eq, implies_true, bA]
    refine callM (count_i hA) ?_
    rintro r ob' ⟨rfl, ex, hob'⟩
    rw [hob']
    obtain ⟨m, hm⟩ : ∃ m, cM P (ops + 1) = m := ⟨_, rfl⟩
    rw [hm] at hj ⊢
    obtain ⟨X, hX⟩ : ∃ X, W.set N (boxN B (ops + 1) pl false) ++ ex = X := ⟨_, rfl⟩
    rw [hX]
    have nNB := ne_NB hA
    have sx : ∀ i a, W[i]? = some a → i ≠ N → X[i]? = some a := fun i a h1 h2 => by rw [← hX]; exact apN (by rw [List.getElem?_set_ne (fun e => h2 e.symm)]; exact h1) ex
    have xN : X[N]? = some (.box [.int .i64 16, .int .i64 8, .bsl B 0 16, .int .i64 (ops + 1), pl, .bool false]) := by rw [← hX]; exact apN (set_get hN) ex
    have xB := sx B _ hB (fun e => nNB e.symm)
    have n0 : ob.length ≠ N := by have := lt_ofN h.hN; omega
    have n2 : ob.length + 2 ≠ N := by have := lt_ofN h.hN; omega
    have hBl : (E.flatMap cellsE).length ≠ 1 := by have := flat_len3 E; rw [h.len] at this; omega
    have x0 := sx _ _ c0 n0
    have x2 := sx _ _ c2 n2
    have kX : KeepL W X := by rw [← hX]; exact (KeepL.box hN).trans (KeepL.app _ _)
    have hXA : NandAt X N B E (ops + 1) pl pk P false := by
      refine ⟨xN, xB, h.len, fun f hf => ?_, ?_, hA.inj, by have := h.ops0; omega, by omega, h.pl1⟩
      · rcases hA.pgs f hf with y | ⟨y1, y2⟩
        · exact .inl y
        · exact .inr ⟨y1, sx _ _ y2 (fun e => ne_kind hN y2 e.symm)⟩
      · rcases hA.plan with y | ⟨y1, y2⟩
        · exact .inl y
        · exact .inr ⟨y1, sx _ _ y2 (fun e => ne_kind hN y2 e.symm)⟩
    clear hob' hX
    have gN := fun (l : List AObj) => apN xN l
    have gB := fun (l : List AObj) => apN xB l
    have gc0 := fun (l : List AObj) => apN x0 l
    have gc2 := fun (l : List AObj) => apN x2 l
    have y0 : ∀ l : List AObj, (X ++ l)[X.length]? = l[0]? := fun l => by rw [List.getElem?_append_right (Nat.le_refl _)]; simp
    have y1 : ∀ l : List AObj, (X ++ l)[X.length + 1]? = l[1]? := fun l => by rw [List.getElem?_append_right (by omega)]; simp
    have z0 : ∀ (l : List AObj) a, (X ++ l).set X.length a = X ++ l.set 0 a := fun l a => by rw [List.set_append_right _ _ (Nat.le_refl _)]; simp
    have z1 : ∀ (l : List AObj) a, (X ++ l).set (X.length + 1) a = X ++ l.set 1 a := fun l a => by rw [List.set_append_right _ _ (by omega)]; simp
    have lN := lt_ofN xN
    have lB := lt_ofN xB
    have lc := lt_ofN x2
    have q0 : (X.length == X.length + 1) = false := by simp
    have qN : (N == X.length + 1) = false := by simp; omega
    have qB : (B == X.length + 1) = false := by simp; omega
    have qc : (ob.length + 2 == X.length + 1) = false := by simp; omega
    have qd : (ob.length == X.length + 1) = false := by simp; omega
    by_cases m1 : m.kd = 1
    · have dm1 : (m.kd == 1) = true := by simp [m1]
      obtain ⟨t, ht⟩ : ∃ t, spoiltS m s = t := ⟨_, rfl⟩
      have hpt : pageT m s = t := by rw [← ht, pageT]; simp [m1]
      have ap : ∀ (l : List AObj) fb, l[1]? = some .none → appO (X ++ l) fb (some (X.length + 1)) 1 .nils (some [[.str t]]) = some (.osl (X.length + 1) 0 1, X ++ l.set 1 (lS [t])) := fun l fb hl => by
        rw [appO_nilsA (by rw [y1, hl]) (by simp [rowsOk]) (by simp), z1]; rfl
      obtain ⟨e', he'⟩ : ∃ e' : Ent, (⟨.osl (X.length + 1) 0 1, X.length + 1, ⟨[t], e.b.wn, false⟩⟩ : Ent) = e' := ⟨_, rfl⟩
      have sB := fun (o : List AObj) => stE (ob := o) (B := B) (b := b) (j := 0) (e' := e') (v := .osl (X.length + 1) 0 1) he (by omega) (by rw [← he']; simp [cellsE, hbad])
      simp only [Nat.add_zero] at sB
      have u1 : ∀ (l : List AObj) c, ((X ++ l).set B c)[N]? = some (.box [.int .i64 16, .int .i64 8, .bsl B 0 16, .int .i64 (ops + 1), pl, .bool false]) := fun l c => by rw [List.getElem?_set_ne (fun e => nNB e.symm)]; exact gN l
      have u2 : ∀ (l : List AObj) c, ((X ++ l).set B c)[B]? = some c := fun l c => set_get (gB l)
      have u3 : ∀ (l : List AObj) c, ((X ++ l).set B c)[ob.length]? = some (.box [.ref N 0]) := fun l c => by rw [List.getElem?_set_ne (fun e => ne_kb x0 xB e)]; exact gc0 l
      simp (config := {maxSteps := 4000000}) only [U_nand_Nand_program, rowM, gN, gB, gc0, gc2, y0, y1, z0, z1, q0, qN, qB, qc, qd, i1, l0, ap, sB, u1, u2, u3, dm1, reduceIte, reduceCtorEq, Nat.reduceEqDiff, Nat.reduceAdd, Int.reduceLT, Int.reduceLE, Int.reduceNeg, Int.reduceEq, Nat.reduceLT, Nat.reduceSub, Nat.reduceMul, Nat.reduceBEq, Nat.reduceLeDiff, Int.reduceBEq, Int.reduceBNe, Int.reduceToNat, ne_eq, implies_true, bA]
      refine callI (spoilt_spec m s hs hj) ?_
      rw [ht]
      simp (config := {maxSteps := 4000000}) only [U_nand_Nand_program, rowM, gN, gB, gc0, gc2, y0, y1, z0, z1, q0, qN, qB, qc, qd, i1, l0, ap, sB, u1, u2, u3, dm1, List.set_set, reduceIte, reduceCtorEq, Nat.reduceEqDiff, Nat.reduceAdd, Int.reduceLT, Int.reduceLE, Int.reduceNeg, Int.reduceEq, Nat.reduceLT, Nat.reduceSub, Nat.reduceMul, Nat.reduceBEq, Nat.reduceLeDiff, Int.reduceBEq, Int.reduceBNe, Int.reduceToNat, ne_eq, implies_true, bA]
      have fin := hXA.new (b := b) (.box [.int .i64 m.at_, .int .i64 m.kd, .int .i64 m.kp, .str m.jk]) t e' (by rw [← he']) (by rw [← he']) (by rw [← he'])
      obtain ⟨fin1, fin2⟩ := fin
      have fin3 := fin1.turn true
      refine ⟨_, rfl, E.set b e', ?_, (kW.trans (kX.trans fin2)).trans fin3.2, by simp [errV, errT, m1], ?_⟩
      · rw [show decide (m.kd = 1) = true from decide_eq_true m1]; exact fin3.1
      · rw [map_set, ← he', hpt, g1]; simp [m1]
    · have dm1 : (m.kd == 1) = false := by simp [m1]
      by_cases m2 : m.kd = 2
      · have dm2 : (m.kd == 2) = true := by simp [m2]
        obtain ⟨t, ht⟩ : ∃ t, spoiltS m s = t := ⟨_, rfl⟩
        have hpt : pageT m s = t := by rw [← ht, pageT]; simp [m1, m2]
        have ap : ∀ (l : List AObj) fb, l[1]? = some .none → appO (X ++ l) fb (some (X.length + 1)) 1 .nils (some [[.str t]]) = some (.osl (X.length + 1) 0 1, X ++ l.set 1 (lS [t])) := fun l fb hl => by
          rw [appO_nilsA (by rw [y1, hl]) (by simp [rowsOk]) (by simp), z1]; rfl
        obtain ⟨e', he'⟩ : ∃ e' : Ent, (⟨.osl (X.length + 1) 0 1, X.length + 1, ⟨[t], e.b.wn, true⟩⟩ : Ent) = e' := ⟨_, rfl⟩
        obtain ⟨e1, he1⟩ : ∃ e1 : Ent, { e' with b := { e'.b with bad := false } } = e1 := ⟨_, rfl⟩
        have sB := fun (o : List AObj) => stE (ob := o) (B := B) (b := b) (j := 0) (e' := e1) (v := .osl (X.length + 1) 0 1) he (by omega) (by rw [← he1, ← he']; simp [cellsE, hbad])
        have he1b : (E.set b e1)[b]? = some e1 := by rw [List.getElem?_set_self (List.getElem?_eq_some_iff.1 he).1]
        have sB2 := fun (o : List AObj) => stE (ob := o) (B := B) (b := b) (j := 2) (e' := e') (v := .bool true) he1b (by omega) (by rw [← he1, ← he']; simp [cellsE])
        rw [List.set_set] at sB2
        simp only [Nat.add_zero] at sB
        have u1 : ∀ (l : List AObj) c, ((X ++ l).set B c)[N]? = some (.box [.int .i64 16, .int .i64 8, .bsl B 0 16, .int .i64 (ops + 1), pl, .bool false]) := fun l c => by rw [List.getElem?_set_ne (fun e => nNB e.symm)]; exact gN l
        have u2 : ∀ (l : List AObj) c, ((X ++ l).set B c)[B]? = some c := fun l c => set_get (gB l)
        have u3 : ∀ (l : List AObj) c, ((X ++ l).set B c)[ob.length]? = some (.box [.ref N 0]) := fun l c => by rw [List.getElem?_set_ne (fun e => ne_kb x0 xB e)]; exact gc0 l
        simp (config := {maxSteps := 4000000}) only [U_nand_Nand_program, rowM, gN, gB, gc0, gc2, y0, y1, z0, z1, q0, qN, qB, qc, qd, i1, l0, ap, sB, u1, u2, u3, dm1, dm2, sB2, reduceIte, reduceCtorEq, Nat.reduceEqDiff, Nat.reduceAdd, Int.reduceLT, Int.reduceLE, Int.reduceNeg, Int.reduceEq, Nat.reduceLT, Nat.reduceSub, Nat.reduceMul, Nat.reduceBEq, Nat.reduceLeDiff, Int.reduceBEq, Int.reduceBNe, Int.reduceToNat, ne_eq, implies_true, bA]
        refine callI (spoilt_spec m s hs hj) ?_
        rw [ht]
        simp (config := {maxSteps := 4000000}) only [U_nand_Nand_program, rowM, gN, gB, gc0, gc2, y0, y1, z0, z1, q0, qN, qB, qc, qd, i1, l0, ap, sB, u1, u2, u3, dm1, dm2, sB2, List.set_set, reduceIte, reduceCtorEq, Nat.reduceEqDiff, Nat.reduceAdd, Int.reduceLT, Int.reduceLE, Int.reduceNeg, Int.reduceEq, Nat.reduceLT, Nat.reduceSub, Nat.reduceMul, Nat.reduceBEq, Nat.reduceLeDiff, Int.reduceBEq, Int.reduceBNe, Int.reduceToNat, ne_eq, implies_true, bA]
        have fin := hXA.new (b := b) (.box [.int .i64 m.at_, .int .i64 m.kd, .int .i64 m.kp, .str m.jk]) t e' (by rw [← he']) (by rw [← he']) (by rw [← he'])
        refine ⟨_, rfl, E.set b e', ?_, kW.trans (kX.trans fin.2), by simp [errV, errT, m1, m2], ?_⟩
        · simp only [m1, decide_false]; exact fin.1
        · rw [map_set, ← he', hpt, g1]; simp [m1, m2]
      · have dm2 : (m.kd == 2) = false := by simp [m2]
        obtain ⟨t, ht⟩ : ∃ t, s = t := ⟨_, rfl⟩
        rw [ht] at gc2 x2 c2 hs ⊢
        have hpt : pageT m t = t := by rw [pageT]; simp [m1, m2]
        have ap : ∀ (l : List AObj) fb, l[1]? = some .none → appO (X ++ l) fb (some (X.length + 1)) 1 .nils (some [[.str t]]) = some (.osl (X.length + 1) 0 1, X ++ l.set 1 (lS [t])) := fun l fb hl => by
          rw [appO_nilsA (by rw [y1, hl]) (by simp [rowsOk]) (by simp), z1]; rfl
        obtain ⟨e', he'⟩ : ∃ e' : Ent, (⟨.osl (X.length + 1) 0 1, X.length + 1, ⟨[t], e.b.wn, false⟩⟩ : Ent) = e' := ⟨_, rfl⟩
        have sB := fun (o : List AObj) => stE (ob := o) (B := B) (b := b) (j := 0) (e' := e') (v := .osl (X.length + 1) 0 1) he (by omega) (by rw [← he']; simp [cellsE, hbad])
        simp only [Nat.add_zero] at sB
        have u1 : ∀ (l : List AObj) c, ((X ++ l).set B c)[N]? = some (.box [.int .i64 16, .int .i64 8, .bsl B 0 16, .int .i64 (ops + 1), pl, .bool false]) := fun l c => by rw [List.getElem?_set_ne (fun e => nNB e.symm)]; exact gN l
        have u2 : ∀ (l : List AObj) c, ((X ++ l).set B c)[B]? = some c := fun l c => set_get (gB l)
        have u3 : ∀ (l : List AObj) c, ((X ++ l).set B c)[ob.length]? = some (.box [.ref N 0]) := fun l c => by rw [List.getElem?_set_ne (fun e => ne_kb x0 xB e)]; exact gc0 l
        simp (config := {maxSteps := 4000000}) only [U_nand_Nand_program, rowM, gN, gB, gc0, gc2, y0, y1, z0, z1, q0, qN, qB, qc, qd, i1, l0, ap, sB, u1, u2, u3, dm1, dm2, List.set_set, reduceIte, reduceCtorEq, Nat.reduceEqDiff, Nat.reduceAdd, Int.reduceLT, Int.reduceLE, Int.reduceNeg, Int.reduceEq, Nat.reduceLT, Nat.reduceSub, Nat.reduceMul, Nat.reduceBEq, Nat.reduceLeDiff, Int.reduceBEq, Int.reduceBNe, Int.reduceToNat, ne_eq, implies_true, bA]
        have fin := hXA.new (b := b) (.box [.int .i64 m.at_, .int .i64 m.kd, .int .i64 m.kp, .str m.jk]) t e' (by rw [← he']) (by rw [← he']) (by rw [← he'])
        refine ⟨_, rfl, E.set b e', ?_, kW.trans (kX.trans fin.2), by simp [errV, errT, m1, m2], ?_⟩
        · simp only [m1, decide_false]; exact fin.1
        · rw [map_set, ← he', hpt, g1]; simp [m1, m2]
  · rw [g1] at l0
    have dn : ((k : Int) != (e.b.pg.length : Int)) = false := by simp [hlen]
    have hr : rowsO (some (lS e.b.pg)) 0 e.b.pg.length = some (rowsS e.b.pg) := rowsO_all (by simp)
    simp (config := {maxSteps := 4000000}) only [U_nand_Nand_program, c0, c1, hN, hB, d1, d2, i1, l0, g2, hr, l2, dn, reduceIte, reduceCtorEq, Nat.reduceEqDiff, Nat.reduceAdd, Int.reduceLT, Int.reduceLE, Int.reduceNeg, Int.reduceEq, Nat.reduceLT, Nat.reduceSub, Nat.reduceMul, Nat.reduceBEq, Nat.reduceLeDiff, Int.reduceBEq, Int.reduceBNe, Int.reduceToNat, ne_eq, implies_true, bA]
    refine callM (count_i hA) ?_
    rintro r ob' ⟨rfl, ex, hob'⟩
    rw [hob']
    obtain ⟨m, hm⟩ : ∃ m, cM P (ops + 1) = m := ⟨_, rfl⟩
    rw [hm] at hj ⊢
    obtain ⟨X, hX⟩ : ∃ X, W.set N (boxN B (ops + 1) pl false) ++ ex = X := ⟨_, rfl⟩
    rw [hX]
    have nNB := ne_NB hA
    have sx : ∀ i a, W[i]? = some a → i ≠ N → X[i]? = some a := fun i a h1 h2 => by rw [← hX]; exact apN (by rw [List.getElem?_set_ne (fun e => h2 e.symm)]; exact h1) ex
    have xN : X[N]? = some (.box [.int .i64 16, .int .i64 8, .bsl B 0 16, .int .i64 (ops + 1), pl, .bool false]) := by rw [← hX]; exact apN (set_get hN) ex
    have xB := sx B _ hB (fun e => nNB e.symm)
    have n0 : ob.length ≠ N := by have := lt_ofN h.hN; omega
    have n2 : ob.length + 2 ≠ N := by have := lt_ofN h.hN; omega
    have hBl : (E.flatMap cellsE).length ≠ 1 := by have := flat_len3 E; rw [h.len] at this; omega
    have x0 := sx _ _ c0 n0
    have x2 := sx _ _ c2 n2
    have kX : KeepL W X := by rw [← hX]; exact (KeepL.box hN).trans (KeepL.app _ _)
    have hXA : NandAt X N B E (ops + 1) pl pk P false := by
      refine ⟨xN, xB, h.len, fun f hf => ?_, ?_, hA.inj, by have := h.ops0; omega, by omega, h.pl1⟩
      · rcases hA.pgs f hf with y | ⟨y1, y2⟩
        · exact .inl y
        · exact .inr ⟨y1, sx _ _ y2 (fun e => ne_kind hN y2 e.symm)⟩
      · rcases hA.plan with y | ⟨y1, y2⟩
        · exact .inl y
        · exact .inr ⟨y1, sx _ _ y2 (fun e => ne_kind hN y2 e.symm)⟩
    clear hob' hX
    have xk := sx _ _ g2 (fun e => ne_kind hN g2 e.symm)
    have gN := fun (l : List AObj) => apN xN l
    have gB := fun (l : List AObj) => apN xB l
    have gc0 := fun (l : List AObj) => apN x0 l
    have gc2 := fun (l : List AObj) => apN x2 l
    have gk := fun (l : List AObj) => apN xk l
    have y0 : ∀ l : List AObj, (X ++ l)[X.length]? = l[0]? := fun l => by rw [List.getElem?_append_right (Nat.le_refl _)]; simp
    have y1 : ∀ l : List AObj, (X ++ l)[X.length + 1]? = l[1]? := fun l => by rw [List.getElem?_append_right (by omega)]; simp
    have z0 : ∀ (l : List AObj) a, (X ++ l).set X.length a = X ++ l.set 0 a := fun l a => by rw [List.set_append_right _ _ (Nat.le_refl _)]; simp
    have z1 : ∀ (l : List AObj) a, (X ++ l).set (X.length + 1) a = X ++ l.set 1 a := fun l a => by rw [List.set_append_right _ _ (by omega)]; simp
    have lN := lt_ofN xN
    have lB := lt_ofN xB
    have lc := lt_ofN x2
    have q0 : (X.length == X.length + 1) = false := by simp
    have qN : (N == X.length + 1) = false := by simp; omega
    have qB : (B == X.length + 1) = false := by simp; omega
    have qc : (ob.length + 2 == X.length + 1) = false := by simp; omega
    have qd : (ob.length == X.length + 1) = false := by simp; omega
    have qk : (e.k == X.length + 1) = false := by have := lt_ofN xk; simp; omega
    by_cases m1 : m.kd = 1
    · have dm1 : (m.kd == 1) = true := by simp [m1]
      obtain ⟨t, ht⟩ : ∃ t, spoiltS m s = t := ⟨_, rfl⟩
      have hpt : pageT m s = t := by rw [← ht, pageT]; simp [m1]
      have ap : ∀ (l : List AObj) fb nw, fb.contains e.k = false → appO (X ++ l) fb nw 1 (.osl e.k 0 e.b.pg.length) (some [[.str t]]) = some (.osl e.k 0 (e.b.pg.length + 1), (X ++ l).set e.k (lS (e.b.pg ++ [t]))) := fun l fb nw hf => by
        rw [appO_osl hf (gk l) (by simp) (by simp; omega) (by simp [rowsOk]) (by simp)]; simp [lS, rowsS]
      have xe : ∀ (l : List AObj) a, ((X ++ l).set e.k a)[e.k]? = some a := fun l a => set_get (gk l)
      have ykB : e.k ≠ B := fun e => ne_kind xB xk e.symm
      have ykN : e.k ≠ N := fun e => ne_kind xN xk e.symm
      have xeB : ∀ (l : List AObj) a, ((X ++ l).set e.k a)[B]? = some (.box (E.flatMap cellsE)) := fun l a => by rw [List.getElem?_set_ne ykB]; exact gB l
      have xeN : ∀ (l : List AObj) a, ((X ++ l).set e.k a)[N]? = some (.box [.int .i64 16, .int .i64 8, .bsl B 0 16, .int .i64 (ops + 1), pl, .bool false]) := fun l a => by rw [List.getElem?_set_ne ykN]; exact gN l
      have xec : ∀ (l : List AObj) a, ((X ++ l).set e.k a)[ob.length]? = some (.box [.ref N 0]) := fun l a => by rw [List.getElem?_set_ne (fun e => ne_kind x0 xk e.symm)]; exact gc0 l
      obtain ⟨e', he'⟩ : ∃ e' : Ent, (⟨.osl e.k 0 (e.b.pg.length + 1), e.k, ⟨e.b.pg ++ [t], e.b.wn, false⟩⟩ : Ent) = e' := ⟨_, rfl⟩
      have sB := fun (o : List AObj) => stE (ob := o) (B := B) (b := b) (j := 0) (e' := e') (v := .osl e.k 0 (e.b.pg.length + 1)) he (by omega) (by rw [← he']; simp [cellsE, hbad])
      simp only [Nat.add_zero] at sB
      have u1 : ∀ (l : List AObj) a c, (((X ++ l).set e.k a).set B c)[N]? = some (.box [.int .i64 16, .int .i64 8, .bsl B 0 16, .int .i64 (ops + 1), pl, .bool false]) := fun l a c => by rw [List.getElem?_set_ne (fun e => nNB e.symm)]; exact xeN l a
      have u2 : ∀ (l : List AObj) a c, (((X ++ l).set e.k a).set B c)[B]? = some c := fun l a c => set_get (xeB l a)
      have u3 : ∀ (l : List AObj) a c, (((X ++ l).set e.k a).set B c)[ob.length]? = some (.box [.ref N 0]) := fun l a c => by rw [List.getElem?_set_ne (fun e => ne_kb x0 xB e)]; exact xec l a
      simp (config := {maxSteps := 4000000}) only [U_nand_Nand_program, rowM, gN, gB, gc0, gc2, y0, y1, z0, z1, q0, qN, qB, qc, qd, i1, l0, gk, qk, ap, sB, u1, u2, u3, dm1, xe, xeB, xeN, xec, reduceIte, reduceCtorEq, Nat.reduceEqDiff, Nat.reduceAdd, Int.reduceLT, Int.reduceLE, Int.reduceNeg, Int.reduceEq, Nat.reduceLT, Nat.reduceSub, Nat.reduceMul, Nat.reduceBEq, Nat.reduceLeDiff, Int.reduceBEq, Int.reduceBNe, Int.reduceToNat, ne_eq, implies_true, bA]
      refine callI (spoilt_spec m s hs hj) ?_
      rw [ht]
      simp (config := {maxSteps := 4000000}) only [U_nand_Nand_program, rowM, gN, gB, gc0, gc2, y0, y1, z0, z1, q0, qN, qB, qc, qd, i1, l0, gk, qk, ap, sB, u1, u2, u3, dm1, xe, xeB, xeN, xec, List.set_set, reduceIte, reduceCtorEq, Nat.reduceEqDiff, Nat.reduceAdd, Int.reduceLT, Int.reduceLE, Int.reduceNeg, Int.reduceEq, Nat.reduceLT, Nat.reduceSub, Nat.reduceMul, Nat.reduceBEq, Nat.reduceLeDiff, Int.reduceBEq, Int.reduceBNe, Int.reduceToNat, ne_eq, implies_true, bA]
      have fin := hXA.more he [AObj.box [.int .i64 m.at_, .int .i64 m.kd, .int .i64 m.kp, .str m.jk], AObj.none] t e' g1 xk (by rw [← he']) (by rw [← he']) (by rw [← he'])
      obtain ⟨fin1, fin2⟩ := fin
      have fin3 := fin1.turn true
      refine ⟨_, rfl, E.set b e', ?_, (kW.trans (kX.trans fin2)).trans fin3.2, by simp [errV, errT, m1], ?_⟩
      · rw [show decide (m.kd = 1) = true from decide_eq_true m1]; exact fin3.1
      · rw [map_set, ← he', hpt]; simp [m1]
    · have dm1 : (m.kd == 1) = false := by simp [m1]
      by_cases m2 : m.kd = 2
      · have dm2 : (m.kd == 2) = true := by simp [m2]
        obtain ⟨t, ht⟩ : ∃ t, spoiltS m s = t := ⟨_, rfl⟩
        have hpt : pageT m s = t := by rw [← ht, pageT]; simp [m1, m2]
        have ap : ∀ (l : List AObj) fb nw, fb.contains e.k = false → appO (X ++ l) fb nw 1 (.osl e.k 0 e.b.pg.length) (some [[.str t]]) = some (.osl e.k 0 (e.b.pg.length + 1), (X ++ l).set e.k (lS (e.b.pg ++ [t]))) := fun l fb nw hf => by
          rw [appO_osl hf (gk l) (by simp) (by simp; omega) (by simp [rowsOk]) (by simp)]; simp [lS, rowsS]
        have xe : ∀ (l : List AObj) a, ((X ++ l).set e.k a)[e.k]? = some a := fun l a => set_get (gk l)
        have ykB : e.k ≠ B := fun e => ne_kind xB xk e.symm
        have ykN : e.k ≠ N := fun e => ne_kind xN xk e.symm
        have xeB : ∀ (l : List AObj) a, ((X ++ l).set e.k a)[B]? = some (.box (E.flatMap cellsE)) := fun l a => by rw [List.getElem?_set_ne ykB]; exact gB l
        have xeN : ∀ (l : List AObj) a, ((X ++ l).set e.k a)[N]? = some (.box [.int .i64 16, .int .i64 8, .bsl B 0 16, .int .i64 (ops + 1), pl, .bool false]) := fun l a => by rw [List.getElem?_set_ne ykN]; exact gN l
        have xec : ∀ (l : List AObj) a, ((X ++ l).set e.k a)[ob.length]? = some (.box [.ref N 0]) := fun l a => by rw [List.getElem?_set_ne (fun e => ne_kind x0 xk e.symm)]; exact gc0 l
        obtain ⟨e', he'⟩ : ∃ e' : Ent, (⟨.osl e.k 0 (e.b.pg.length + 1), e.k, ⟨e.b.pg ++ [t], e.b.wn, true⟩⟩ : Ent) = e' := ⟨_, rfl⟩
        obtain ⟨e1, he1⟩ : ∃ e1 : Ent, { e' with b := { e'.b with bad := false } } = e1 := ⟨_, rfl⟩
        have sB := fun (o : List AObj) => stE (ob := o) (B := B) (b := b) (j := 0) (e' := e1) (v := .osl e.k 0 (e.b.pg.length + 1)) he (by omega) (by rw [← he1, ← he']; simp [cellsE, hbad])
        have he1b : (E.set b e1)[b]? = some e1 := by rw [List.getElem?_set_self (List.getElem?_eq_some_iff.1 he).1]
        have sB2 := fun (o : List AObj) => stE (ob := o) (B := B) (b := b) (j := 2) (e' := e') (v := .bool true) he1b (by omega) (by rw [← he1, ← he']; simp [cellsE])
        rw [List.set_set] at sB2
        simp only [Nat.add_zero] at sB
        have u1 : ∀ (l : List AObj) a c, (((X ++ l).set e.k a).set B c)[N]? = some (.box [.int .i64 16, .int .i64 8, .bsl B 0 16, .int .i64 (ops + 1), pl, .bool false]) := fun l a c => by rw [List.getElem?_set_ne (fun e => nNB e.symm)]; exact xeN l a
        have u2 : ∀ (l : List AObj) a c, (((X ++ l).set e.k a).set B c)[B]? = some c := fun l a c => set_get (xeB l a)
        have u3 : ∀ (l : List AObj) a c, (((X ++ l).set e.k a).set B c)[ob.length]? = some (.box [.ref N 0]) := fun l a c => by rw [List.getElem?_set_ne (fun e => ne_kb x0 xB e)]; exact xec l a
        simp (config := {maxSteps := 4000000}) only [U_nand_Nand_program, rowM, gN, gB, gc0, gc2, y0, y1, z0, z1, q0, qN, qB, qc, qd, i1, l0, gk, qk, ap, sB, u1, u2, u3, dm1, dm2, sB2, xe, xeB, xeN, xec, reduceIte, reduceCtorEq, Nat.reduceEqDiff, Nat.reduceAdd, Int.reduceLT, Int.reduceLE, Int.reduceNeg, Int.reduceEq, Nat.reduceLT, Nat.reduceSub, Nat.reduceMul, Nat.reduceBEq, Nat.reduceLeDiff, Int.reduceBEq, Int.reduceBNe, Int.reduceToNat, ne_eq, implies_true, bA]
        refine callI (spoilt_spec m s hs hj) ?_
        rw [ht]
        simp (config := {maxSteps := 4000000}) only [U_nand_Nand_program, rowM, gN, gB, gc0, gc2, y0, y1, z0, z1, q0, qN, qB, qc, qd, i1, l0, gk, qk, ap, sB, u1, u2, u3, dm1, dm2, sB2, xe, xeB, xeN, xec, List.set_set, reduceIte, reduceCtorEq, Nat.reduceEqDiff, Nat.reduceAdd, Int.reduceLT, Int.reduceLE, Int.reduceNeg, Int.reduceEq, Nat.reduceLT, Nat.reduceSub, Nat.reduceMul, Nat.reduceBEq, Nat.reduceLeDiff, Int.reduceBEq, Int.reduceBNe, Int.reduceToNat, ne_eq, implies_true, bA]
        have fin := hXA.more he [AObj.box [.int .i64 m.at_, .int .i64 m.kd, .int .i64 m.kp, .str m.jk], AObj.none] t e' g1 xk (by rw [← he']) (by rw [← he']) (by rw [← he'])
        refine ⟨_, rfl, E.set b e', ?_, kW.trans (kX.trans fin.2), by simp [errV, errT, m1, m2], ?_⟩
        · simp only [m1, decide_false]; exact fin.1
        · rw [map_set, ← he', hpt]; simp [m1, m2]
      · have dm2 : (m.kd == 2) = false := by simp [m2]
        obtain ⟨t, ht⟩ : ∃ t, s = t := ⟨_, rfl⟩
        rw [ht] at gc2 x2 c2 hs ⊢
        have hpt : pageT m t = t := by rw [pageT]; simp [m1, m2]
        have ap : ∀ (l : List AObj) fb nw, fb.contains e.k = false → appO (X ++ l) fb nw 1 (.osl e.k 0 e.b.pg.length) (some [[.str t]]) = some (.osl e.k 0 (e.b.pg.length + 1), (X ++ l).set e.k (lS (e.b.pg ++ [t]))) := fun l fb nw hf => by
          rw [appO_osl hf (gk l) (by simp) (by simp; omega) (by simp [rowsOk]) (by simp)]; simp [lS, rowsS]
        have xe : ∀ (l : List AObj) a, ((X ++ l).set e.k a)[e.k]? = some a := fun l a => set_get (gk l)
        have ykB : e.k ≠ B := fun e => ne_kind xB xk e.symm
        have ykN : e.k ≠ N := fun e => ne_kind xN xk e.symm
        have xeB : ∀ (l : List AObj) a, ((X ++ l).set e.k a)[B]? = some (.box (E.flatMap cellsE)) := fun l a => by rw [List.getElem?_set_ne ykB]; exact gB l
        have xeN : ∀ (l : List AObj) a, ((X ++ l).set e.k a)[N]? = some (.box [.int .i64 16, .int .i64 8, .bsl B 0 16, .int .i64 (ops + 1), pl, .bool false]) := fun l a => by rw [List.getElem?_set_ne ykN]; exact gN l
        have xec : ∀ (l : List AObj) a, ((X ++ l).set e.k a)[ob.length]? = some (.box [.ref N 0]) := fun l a => by rw [List.getElem?_set_ne (fun e => ne_kind x0 xk e.symm)]; exact gc0 l
        obtain ⟨e', he'⟩ : ∃ e' : Ent, (⟨.osl e.k 0 (e.b.pg.length + 1), e.k, ⟨e.b.pg ++ [t], e.b.wn, false⟩⟩ : Ent) = e' := ⟨_, rfl⟩
        have sB := fun (o : List AObj) => stE (ob := o) (B := B) (b := b) (j := 0) (e' := e') (v := .osl e.k 0 (e.b.pg.length + 1)) he (by omega) (by rw [← he']; simp [cellsE, hbad])
        simp only [Nat.add_zero] at sB
        have u1 : ∀ (l : List AObj) a c, (((X ++ l).set e.k a).set B c)[N]? = some (.box [.int .i64 16, .int .i64 8, .bsl B 0 16, .int .i64 (ops + 1), pl, .bool false]) := fun l a c => by rw [List.getElem?_set_ne (fun e => nNB e.symm)]; exact xeN l a
        have u2 : ∀ (l : List AObj) a c, (((X ++ l).set e.k a).set B c)[B]? = some c := fun l a c => set_get (xeB l a)
        have u3 : ∀ (l : List AObj) a c, (((X ++ l).set e.k a).set B c)[ob.length]? = some (.box [.ref N 0]) := fun l a c => by rw [List.getElem?_set_ne (fun e => ne_kb x0 xB e)]; exact xec l a
        simp (config := {maxSteps := 4000000}) only [U_nand_Nand_program, rowM, gN, gB, gc0, gc2, y0, y1, z0, z1, q0, qN, qB, qc, qd, i1, l0, gk, qk, ap, sB, u1, u2, u3, dm1, dm2, xe, xeB, xeN, xec, List.set_set, reduceIte, reduceCtorEq, Nat.reduceEqDiff, Nat.reduceAdd, Int.reduceLT, Int.reduceLE, Int.reduceNeg, Int.reduceEq, Nat.reduceLT, Nat.reduceSub, Nat.reduceMul, Nat.reduceBEq, Nat.reduceLeDiff, Int.reduceBEq, Int.reduceBNe, Int.reduceToNat, ne_eq, implies_true, bA]
        have fin := hXA.more he [AObj.box [.int .i64 m.at_, .int .i64 m.kd, .int .i64 m.kp, .str m.jk], AObj.none] t e' g1 xk (by rw [← he']) (by rw [← he']) (by rw [← he'])
        refine ⟨_, rfl, E.set b e', ?_, kW.trans (kX.trans fin.2), by simp [errV, errT, m1, m2], ?_⟩
        · simp only [m1, decide_false]; exact fin.1
        · rw [map_set, ← he', hpt]; simp [m1, m2]

end Go.Proofs.YtdgpiobmncohjaaDoor.Aw
