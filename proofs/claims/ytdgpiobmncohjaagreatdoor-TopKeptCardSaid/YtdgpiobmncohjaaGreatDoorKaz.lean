/-
 The array of pages: a page is programmed, and read; what the array tells.; The array of pages: a plan is laid; an array made anew; its methods as a caller has them.
-/
import Derived.Test.YtdgpiobmncohjaaGreatDoorKay
set_option linter.all false
namespace Go.Proofs.YtdgpiobmncohjaaGreatDoor.Aw
open Go.RowKit Ar
theorem flat_at {E : List Ent} {b : Nat} {e : Ent} (h : E[b]? = some e) : ∃ E1 E2, E = E1 ++ e :: E2 ∧ E1.length = b ∧ (E1.flatMap cellsE).length = b * 3 := by
 have hb : b < E.length := (List.getElem?_eq_some_iff.1 h).1
 have he : E[b] = e := by rw [List.getElem?_eq_getElem hb] at h; exact Option.some.inj h
 refine ⟨E.take b, E.drop (b + 1), ?_, by simp; omega, ?_⟩
 ·rw [← he, ← List.drop_eq_getElem_cons hb, List.take_append_drop]
 ·have : ∀ l : List Ent, (l.flatMap cellsE).length = 3 * l.length := fun l => by
   induction l with
   | nil => rfl
   | cons x l ih => rw [List.flatMap_cons, List.length_append, ih]; simp [cellsE]; omega
  rw [this]; simp; omega
theorem ldE {E : List Ent} {b j : Nat} {e : Ent} {v : PV} (h : E[b]? = some e) (hj : (cellsE e)[j]? = some v) : ldB (some (.box (E.flatMap cellsE))) (b * 3 + j) 1 = some [v] := by
 obtain ⟨E1, E2, rfl, h1, h2⟩ := flat_at h
 have h3 : j < 3 := by have := (List.getElem?_eq_some_iff.1 hj).1; simpa [cellsE] using this
 rw [List.flatMap_append, List.flatMap_cons]
 have e1 : (List.flatMap cellsE E1 ++ (cellsE e ++ List.flatMap cellsE E2)).drop (b * 3 + j) = (cellsE e).drop j ++ List.flatMap cellsE E2 := by
  rw [← List.drop_drop, List.drop_left' h2, List.drop_append_of_le_length (by simp [cellsE]; omega)]
 simp only [ldB]
 rw [if_pos (by simp [cellsE] at h2 ⊢; omega), e1]
 rcases j with _ | _ | _ | j
 ·simp [cellsE] at hj ⊢; exact hj
 ·simp [cellsE] at hj ⊢; exact hj
 ·simp [cellsE] at hj ⊢; exact hj
 ·omega
theorem stE {ob : List AObj} {B : Nat} {E : List Ent} {b j : Nat} {e e' : Ent} {v : PV} (h : E[b]? = some e) (hj : j < 3) (he : cellsE e' = (cellsE e).set j v) : stB ob B (some (.box (E.flatMap cellsE))) (b * 3 + j) [v] = some (.bot, ob.set B (.box ((E.set b e').flatMap cellsE))) := by
 obtain ⟨E1, E2, rfl, h1, h2⟩ := flat_at h
 have e2 : (E1 ++ e :: E2).set b e' = E1 ++ e' :: E2 := by subst h1; simp
 rw [e2, List.flatMap_append, List.flatMap_cons, List.flatMap_append, List.flatMap_cons, he]
 simp only [stB]
 rw [if_pos (by simp [cellsE] at h2 ⊢; omega)]
 generalize hF : List.flatMap cellsE E1 = F at *
 generalize List.flatMap cellsE E2 = G
 have e3 : setAt (F ++ (cellsE e ++ G)) (b * 3 + j) [v] = F ++ ((cellsE e).set j v ++ G) := by
  rw [setAt, ← h2, List.take_append, List.drop_append, List.length_singleton]
  have t1 : ∀ n, F.take (F.length + n) = F := fun n => List.take_of_length_le (by omega)
  have t2 : ∀ n, F.drop (F.length + n) = [] := fun n => List.drop_of_length_le (by omega)
  rcases j with _ | _ | _ | j
  ·simp [cellsE, t2]
  ·simp [cellsE, Nat.add_assoc, t1, t2]
  ·simp [cellsE, Nat.add_assoc, t1, t2]
  ·omega
 rw [e3]
section
variable {T : Nat → Prop} {ob ob' : List AObj} {g N B : Nat} {E : List Ent} {ops : Int} {pl : PV} {pk : Nat} {P : List Mis}
def pageT (m : Mis) (s : List UInt8) : List UInt8 := if m.kd = 2 then spoiltS m s else s
def errT (m : Mis) : Int := if m.kd = 2 then 41 else 0
theorem map_set (E : List Ent) (b : Nat) (e : Ent) : (E.set b e).map (·.b) = (E.map (·.b)).set b e.b := by rw [List.map_set]
theorem NandAt.ops2 (h : NandAt T ob g N B E ops pl pk P) (h1 : ops < 1000000) : NandAt T (ob.set N (boxN g B (ops + 1) pl)) g N B E (ops + 1) pl pk P :=
 { h with
  hN := set_get h.hN
  hB := by rw [List.getElem?_set_ne h.nb]; exact h.hB
  pgs := fun e he => (h.pgs e he).same (Same.set (T := (· = N)) rfl) fun q hq => (h.out e he q hq).1
  pln := by
   rcases h.pln with g | ⟨g1, g2⟩
   ·exact .inl g
   ·refine .inr ⟨g1, ?_⟩
    rw [List.getElem?_set_ne]; · exact g2
    rintro rfl; rw [h.hN] at g2; cases g2
  ops0 := by have := h.ops0; omega
  ops1 := by omega }
theorem sl_set {xs : List PV} {e n B : Nat} {v : PV} {a : AObj} (h : SlB ob e v n xs) (hB : ∀ q, OnB v q → q ≠ B) : SlB (ob.set B a) e v n xs := h.same (Same.set (T := (· = B)) rfl) fun q hq => hB q hq
theorem NandAt.blk (h : NandAt T ob g N B E ops pl pk P) {b q : Nat} {e e' : Ent} (he : E[b]? = some e) (hS : Same ob ob' (· = q)) (hq : OnB e.pv q ∨ ob.length ≤ q) (hT : ∀ i, ob.length ≤ i → T i) (hpg : SlB ob' 1 e'.pv e'.b.pg.length (e'.b.pg.map PV.str)) (hq' : ∀ r, OnB e'.pv r → r = q) :
  NandAt T (ob'.set B (.box ((E.set b e').flatMap cellsE))) g N B (E.set b e') ops pl pk P ∧ Same ob (ob'.set B (.box ((E.set b e').flatMap cellsE))) T := by
 have hem := List.mem_of_getElem? he
 have qN : q ≠ N ∧ q ≠ B ∧ T q := by
  rcases hq with hq | hq
  ·exact h.out e hem q hq
  ·have := lt_ofN h.hN; have := lt_ofN h.hB
   exact ⟨by omega, by omega, hT q hq⟩
 have b1 : ob'[B]? = some (.box (E.flatMap cellsE)) := hS.get h.hB (fun e => qN.2.1 e.symm)
 have n1 : ob'[N]? = some (boxN g B ops pl) := hS.get h.hN (fun e => qN.1 e.symm)
 have oth : ∀ (j : Nat) (f : Ent), E[j]? = some f → j ≠ b → ∀ r, OnB f.pv r → r ≠ q := by
  intro j f hf hj r hr hrq
  subst hrq
  rcases hq with hq | hq
  ·exact hj (h.inj j b f e r hf he hr hq)
  ·have := onB_lt (h.pgs f (List.mem_of_getElem? hf)) hr; omega
 have get : ∀ (j : Nat) (f : Ent), (E.set b e')[j]? = some f → (j = b ∧ f = e') ∨ (j ≠ b ∧ E[j]? = some f) := by
  intro j f hf
  by_cases hj : j = b
  ·subst hj
   rw [List.getElem?_set_self (List.getElem?_eq_some_iff.1 he).1] at hf
   exact .inl ⟨rfl, (Option.some.inj hf).symm⟩
  ·rw [List.getElem?_set_ne (fun e => hj e.symm)] at hf
   exact .inr ⟨hj, hf⟩
 refine ⟨{ h with hN := ?_, hB := set_get b1, len := by rw [List.length_set]; exact h.len, pgs := fun f hf => ?_, pln := ?_, inj := fun i j x y r hx hy hxr hyr => ?_, out := fun f hf r hr => ?_ }, ?_⟩
 ·rw [List.getElem?_set_ne (fun e => h.nb e.symm)]; exact n1
 ·obtain ⟨j, hj⟩ := List.mem_iff_getElem?.1 hf
  rcases get j f hj with ⟨rfl, rfl⟩ | ⟨hne, hj⟩
  ·exact sl_set hpg fun r hr => by rw [hq' r hr]; exact qN.2.1
  ·have hm := List.mem_of_getElem? hj
   exact sl_set ((h.pgs f hm).same hS fun r hr => oth j f hj hne r hr) fun r hr => (h.out f hm r hr).2.1
 ·rcases h.pln with g | ⟨g1, g2⟩
  ·exact .inl g
  ·refine .inr ⟨g1, ?_⟩
   have hk : pk ≠ B := by rintro rfl; rw [h.hB] at g2; cases g2
   rw [List.getElem?_set_ne (fun e => hk e.symm)]
   refine hS.get g2 ?_
   intro e0
   have e0 : pk = q := e0
   rcases hq with hq | hq
   ·rcases h.pgs e hem with ⟨_, _, hv⟩ | ⟨q', off, c, hv, hA, _⟩
    ·obtain ⟨_, _, _, hq⟩ := hq; rw [hv] at hq; cases hq
    ·obtain ⟨_, _, _, hq⟩ := hq
     rw [hv] at hq; injection hq with hq; subst hq
     obtain ⟨cs, hcs, _⟩ := hA
     rw [← e0, g2] at hcs; cases hcs
   ·have := lt_ofN g2; omega
 ·rcases get i x hx with ⟨hi, ex⟩ | ⟨hi, hx⟩ <;> rcases get j y hy with ⟨hj, ey⟩ | ⟨hj, hy⟩
  ·rw [hi, hj]
  ·exact absurd (hq' r (ex ▸ hxr)) (oth j y hy hj r hyr)
  ·exact absurd (hq' r (ey ▸ hyr)) (oth i x hx hi r hxr)
  ·exact h.inj i j x y r hx hy hxr hyr
 ·obtain ⟨j, hj⟩ := List.mem_iff_getElem?.1 hf
  rcases get j f hj with ⟨rfl, rfl⟩ | ⟨hne, hj⟩
  ·rw [hq' r hr]; exact qN
  ·exact h.out f (List.mem_of_getElem? hj) r hr
 ·refine ⟨by rw [List.length_set]; exact hS.1, fun j hj hn => ?_⟩
  have j1 : j ≠ B := fun e => hn (e ▸ h.tB)
  have j2 : j ≠ q := fun e => hn (e ▸ qN.2.2)
  rw [List.getElem?_set_ne (fun e => j1 e.symm)]
  exact hS.2 j hj j2
theorem quo_rem {b k : Nat} (h8 : 8 ≤ g) (h32 : g ≤ 32) (hb : b < 16) (hk : k < g) : binI .quo .i64 ((g * b + k : Nat) : Int) (g : Int) = some (.int .i64 (b : Int)) ∧ binI .rem .i64 ((g * b + k : Nat) : Int) (g : Int) = some (.int .i64 (k : Int)) := by
 constructor
 ·rw [binI_quo (by omega), Int.tdiv_eq_ediv_of_nonneg (by omega), ← Int.natCast_ediv, Nat.mul_add_div (by omega), Nat.div_eq_of_lt hk, Nat.add_zero, wrapI (by omega) (by omega)]
 ·rw [binI_rem (by omega), Int.tmod_eq_emod_of_nonneg (by omega), ← Int.natCast_emod, Nat.mul_add_mod, Nat.mod_eq_of_lt hk]
abbrev ProgK (T : Nat → Prop) (ob : List AObj) (g N B b : Nat) (E : List Ent) (ops : Int) (pl : PV) (pk : Nat) (P : List Mis) (bk : Bk) (err : Int) : PV → List AObj → Prop := fun r ob' =>
 ∃ E', NandAt T ob' g N B E' (ops + 1) pl pk P ∧ Same ob ob' T ∧ r = errV err ∧ E'.map (·.b) = (E.map (·.b)).set b bk
theorem prog_i {b k : Nat} {e : Ent} {s : List UInt8} (h : NandAt T ob g N B E ops pl pk P) (hT : ∀ i, ob.length ≤ i → T i) (hops : ops < 1000000) (he : E[b]? = some e) (hk : k < g) (hbad : e.b.bad = false) (hlen : e.b.pg.length = k) (hs : s.length ≤ 128)
  (hm : (cM P (ops + 1)).kd = 0 ∨ (cM P (ops + 1)).kd = 2) (hj : (cM P (ops + 1)).jk.length ≤ 1000) {pg : Int} (hpg : pg = ((g * b + k : Nat) : Int)) :
  ICall Tryz.prog 66 [.ref N 0, .int .i64 pg, .str s] ob (ProgK T ob g N B b E ops pl pk P ⟨e.b.pg ++ [pageT (cM P (ops + 1)) s], e.b.wn, decide ((cM P (ops + 1)).kd = 2)⟩ (errT (cM P (ops + 1)))) := by
 subst hpg
 refine icall_dr Tryz.func66 E66.h ?_
 have hb : b < 16 := by have := (List.getElem?_eq_some_iff.1 he).1; rw [h.len] at this; exact this
 have hg := h.g32
 have hg8 := h.g8
 have hgb : g * b ≤ g * 15 := Nat.mul_le_mul_left g (by omega)
 obtain ⟨W, hW⟩ : ∃ W, ob ++ [AObj.box [.ref N 0], AObj.box [.int .i64 ((g * b + k : Nat) : Int)], AObj.box [.str s]] = W := ⟨_, rfl⟩
 have hA : NandAt T W g N B E ops pl pk P := by rw [← hW]; exact h.app _
 have c0 : W[ob.length]? = some (.box [.ref N 0]) := by rw [← hW, List.getElem?_append_right (Nat.le_refl _)]; simp
 have c1 : W[ob.length + 1]? = some (.box [.int .i64 ((g * b + k : Nat) : Int)]) := by rw [← hW, List.getElem?_append_right (by omega)]; simp
 have c2 : W[ob.length + 2]? = some (.box [.str s]) := by rw [← hW, List.getElem?_append_right (by omega)]; simp
 have kW : Same ob W T := by rw [← hW]; exact Same.app _ _ _
 have hTW : ∀ i, W.length ≤ i → T i := fun i hi => hT i (by have := kW.1; omega)
 simp only [U66, hW, c0, seval, bA]
 refine callM (ready_i hA (progc_i hA c0 c1 c2 (by omega) hs)) ?_
 rintro r ob' ⟨rfl, e9⟩
 rw [e9]
 clear e9 ob'
 have hN := hA.hN
 have hB := hA.hB
 obtain ⟨bq, br⟩ := quo_rem hg8 hg hb hk
 have l0 := ldE (j := 0) (v := e.pv) he rfl
 have l2 := ldE (j := 2) (v := .bool false) he (by simp [cellsE, hbad])
 simp only [Nat.add_zero] at l0
 have hpgs := hA.pgs e (List.mem_of_getElem? he)
 have dn : ((k : Int) != (k : Int)) = false := by simp
 have db : decide (b < 16) = true := decide_eq_true hb
 have al : arrV .len [e.pv] = some (.int .i64 (k : Int)) := by
  rcases hpgs with ⟨h1, _, h2⟩ | ⟨q, off, c, h1, _⟩
  ·rw [h2, ← hlen, h1]; rfl
  ·rw [h1, hlen]; rfl
 simp only [U66, c0, c1, hN, hB, bq, br, db, l0, l2, dn, al, seval, bA]
 refine callM (count_i hA) ?_
 rintro r ob' ⟨rfl, ex, hob'⟩
 rw [hob']
 obtain ⟨m, hme⟩ : ∃ m, cM P (ops + 1) = m := ⟨_, rfl⟩
 rw [hme] at hm hj ⊢
 have n0 : N ≠ ob.length := by have := lt_ofN h.hN; omega
 have n2 : N ≠ ob.length + 2 := by have := lt_ofN h.hN; omega
 have kX : Same W (W.set N (boxN g B (ops + 1) pl) ++ ex) T := (Same.set hA.tN).trans (Same.app _ _ _)
 have c0 := app1 (setO (x := boxN g B (ops + 1) pl) n0 c0) ex
 have c2 := app1 (setO (x := boxN g B (ops + 1) pl) n2 c2) ex
 have hA := (hA.ops2 hops).app ex
 generalize W.set N (boxN g B (ops + 1) pl) ++ ex = X at *
 have kX := kW.trans kX
 have hTX : ∀ i, X.length ≤ i → T i := fun i hi => hT i (by have := kX.1; omega)
 clear hW hTW hob' bq br dn kW hpgs al hN hB
 have hN := hA.hN
 have hB := hA.hB
 have hpgs := hA.pgs e (List.mem_of_getElem? he)
 have hfin : ∀ (t : List UInt8) (bd : Bool) (q off c : Nat) (ob3 : List AObj), Arr ob3 1 q off (e.b.pg.length + 1) c (e.b.pg.map PV.str ++ [.str t]) → (OnB e.pv q ∨ (X ++ [AObj.box (rowM m), AObj.box [.str t]]).length ≤ q) → Same (X ++ [AObj.box (rowM m), AObj.box [.str t]]) ob3 (· = q) → c ≤ 9223372036854775807 →
   ob3[B]? = some (.box (E.flatMap cellsE)) ∧ ob3[N]? = some (boxN g B (ops + 1) pl) ∧ NandAt T (ob3.set B (.box ((E.set b ⟨.asl q off (e.b.pg.length + 1) c, ⟨e.b.pg ++ [t], e.b.wn, bd⟩⟩).flatMap cellsE))) g N B (E.set b ⟨.asl q off (e.b.pg.length + 1) c, ⟨e.b.pg ++ [t], e.b.wn, bd⟩⟩) (ops + 1) pl pk P ∧ Same ob (ob3.set B (.box ((E.set b ⟨.asl q off (e.b.pg.length + 1) c, ⟨e.b.pg ++ [t], e.b.wn, bd⟩⟩).flatMap cellsE))) T := by
  intro t bd q off c ob3 hA3 hq3 hS3 hc3
  have hX2 := hA.app [AObj.box (rowM m), AObj.box [.str t]]
  have kX2 : Same X (X ++ [AObj.box (rowM m), AObj.box [.str t]]) T := Same.app _ _ _
  generalize X ++ [AObj.box (rowM m), AObj.box [.str t]] = X2 at *
  have hTX2 : ∀ i, X2.length ≤ i → T i := fun i hi => hTX i (by have := kX2.1; omega)
  have hq2 : q ≠ N ∧ q ≠ B := by
   rcases hq3 with hq | hq
   ·have := hX2.out e (List.mem_of_getElem? he) q hq; exact ⟨this.1, this.2.1⟩
   ·have := lt_ofN hX2.hN; have := lt_ofN hX2.hB; omega
  have fin := hX2.blk (e' := ⟨.asl q off (e.b.pg.length + 1) c, ⟨e.b.pg ++ [t], e.b.wn, bd⟩⟩) he hS3 hq3 hTX2 (.inr ⟨q, off, c, by simp, by simpa using hA3, hc3⟩) (fun r hr => by obtain ⟨_, _, _, hr⟩ := hr; injection hr with hr; exact hr.symm)
  exact ⟨hS3.get hX2.hB (fun e => hq2.2 e.symm), hS3.get hX2.hN (fun e => hq2.1 e.symm), fin.1, (kX.trans kX2).trans fin.2⟩
 have g0 : ∀ x : AObj, (X ++ [x])[X.length]? = some x := app0 X
 have z0 := setA X
 have y0 : ∀ l : List AObj, (X ++ l)[X.length]? = l[0]? := fun l => by rw [List.getElem?_append_right (Nat.le_refl _)]; simp
 have y1 : ∀ l : List AObj, (X ++ l)[X.length + 1]? = l[1]? := fun l => by rw [List.getElem?_append_right (by omega)]; simp
 have z1 : ∀ (l : List AObj) a, (X ++ l).set (X.length + 1) a = X ++ l.set 1 a := fun l a => by rw [List.set_append_right _ _ (by omega)]; simp
 have lN := lt_ofN hN
 have lB := lt_ofN hB
 have lc := lt_ofN c2
 have q0 : (X.length == X.length + 1) = false := by simp
 have qN : (N == X.length + 1) = false := by simp; omega
 have qB : (B == X.length + 1) = false := by simp; omega
 have qc : (ob.length + 2 == X.length + 1) = false := by simp; omega
 have qd : (ob.length == X.length + 1) = false := by simp; omega
 have gN := fun (l : List AObj) => app1 hN l
 have gB := fun (l : List AObj) => app1 hB l
 have gc0 := fun (l : List AObj) => app1 c0 l
 have gc2 := fun (l : List AObj) => app1 c2 l
 rcases hm with m0 | m2
 ·have dm1 : (m.kd == 1) = false := by simp [m0]
  have dm2 : (m.kd == 2) = false := by simp [m0]
  simp only [U66, rowM, g0, z0, y0, y1, z1, q0, qN, qB, qc, qd, gN, gB, gc0, gc2, db, dm1, dm2, l0, l2, seval, bA]
  refine appB (row := [.str s]) (n := e.b.pg.length) (xs := e.b.pg.map PV.str) (hpgs.same (Same.app _ _ (fun _ => False)) (fun _ _ h => h)) rfl ?_ rfl rfl (by omega) ?_
  ·rw [arrSrc_asl (y1 _) (by simp)]; rfl
  intro q off c ob3 hA3 hq3 hS3 hc3
  obtain ⟨f1, f2, f3, f4⟩ := hfin s false q off c ob3 hA3 hq3 hS3 hc3
  have sB := stE (ob := ob3) (B := B) (b := b) (j := 0) (e' := ⟨.asl q off (e.b.pg.length + 1) c, ⟨e.b.pg ++ [s], e.b.wn, false⟩⟩) (v := .asl q off (e.b.pg.length + 1) c) he (by omega) (by simp [cellsE, hbad])
  simp only [Nat.add_zero] at sB
  simp only [U66, f1, sB, seval, bA]
  exact ⟨_, rfl, _, f3, f4, by simp [errV, errT, m0], by rw [map_set]; simp [pageT, m0]⟩
 ·have dm1 : (m.kd == 1) = false := by simp [m2]
  have dm2 : (m.kd == 2) = true := by simp [m2]
  simp only [U66, rowM, g0, z0, y0, y1, z1, q0, qN, qB, qc, qd, gN, gB, gc0, gc2, db, dm1, dm2, l0, l2, seval, bA]
  refine callI (spoilt_spec m s hs hj) ?_
  simp only [U66, rowM, g0, z0, y0, y1, z1, q0, qN, qB, qc, qd, gN, gB, gc0, gc2, db, dm1, dm2, l0, l2, seval, bA]
  refine appB (row := [.str (spoiltS m s)]) (n := e.b.pg.length) (xs := e.b.pg.map PV.str) (hpgs.same (Same.app _ _ (fun _ => False)) (fun _ _ h => h)) rfl ?_ rfl rfl (by omega) ?_
  ·rw [arrSrc_asl (y1 _) (by simp)]; rfl
  intro q off c ob3 hA3 hq3 hS3 hc3
  obtain ⟨f1, f2, f3, f4⟩ := hfin (spoiltS m s) true q off c ob3 hA3 hq3 hS3 hc3
  have sB := stE (ob := ob3) (B := B) (b := b) (j := 0) (e' := ⟨.asl q off (e.b.pg.length + 1) c, ⟨e.b.pg ++ [spoiltS m s], e.b.wn, false⟩⟩) (v := .asl q off (e.b.pg.length + 1) c) he (by omega) (by simp [cellsE, hbad])
  simp only [Nat.add_zero] at sB
  have hlt := (List.getElem?_eq_some_iff.1 he).1
  have sB2 := fun o : List AObj => stE (ob := o) (B := B) (b := b) (j := 2) (e' := ⟨.asl q off (e.b.pg.length + 1) c, ⟨e.b.pg ++ [spoiltS m s], e.b.wn, true⟩⟩) (v := .bool true) (List.getElem?_set_self (a := (⟨.asl q off (e.b.pg.length + 1) c, ⟨e.b.pg ++ [spoiltS m s], e.b.wn, false⟩⟩ : Ent)) hlt) (by omega) (by simp [cellsE])
  simp only [List.set_set] at sB2
  have u2 : ∀ x, (ob3.set B x)[B]? = some x := fun x => set_get f1
  simp only [U66, f1, sB, sB2, u2, List.set_set, seval, bA]
  exact ⟨_, rfl, _, f3, f4, by simp [errV, errT, m2], by rw [map_set]; simp [pageT, m2]⟩
theorem read_i {b k : Nat} {e : Ent} (h : NandAt T ob g N B E ops pl pk P) (he : E[b]? = some e) (hk : k < g) {pg : Int} (hpg : pg = ((g * b + k : Nat) : Int)) :
  RCall Tryz.prog 67 [.ref N 0, .int .i64 pg] ob (.tup [.str (e.b.pg.getD k []), errV (if k < e.b.pg.length then 0 else 42)]) := by
 subst hpg
 refine RCall.of (K := fun r ob' => r = .tup [.str (e.b.pg.getD k []), errV (if k < e.b.pg.length then 0 else 42)] ∧ ∃ ex, ob' = ob ++ ex) ?_ (fun r ob' h => h) (by unfold errV; split <;> split <;> rfl)
 refine icall_dr Tryz.func67 E67.h ?_
 have hb : b < 16 := by have := (List.getElem?_eq_some_iff.1 he).1; rw [h.len] at this; exact this
 have hg := h.g32
 have hg8 := h.g8
 have hgb : g * b ≤ g * 15 := Nat.mul_le_mul_left g (by omega)
 obtain ⟨W, hW⟩ : ∃ W, ob ++ [AObj.box [.ref N 0], AObj.box [.int .i64 ((g * b + k : Nat) : Int)]] = W := ⟨_, rfl⟩
 have hA : NandAt T W g N B E ops pl pk P := by rw [← hW]; exact h.app _
 have c0 : W[ob.length]? = some (.box [.ref N 0]) := by rw [← hW, List.getElem?_append_right (Nat.le_refl _)]; simp
 have c1 : W[ob.length + 1]? = some (.box [.int .i64 ((g * b + k : Nat) : Int)]) := by rw [← hW, List.getElem?_append_right (by omega)]; simp
 simp only [U67, hW, c0, seval, bA]
 refine callM (ready_i hA (readc_i hA c0 c1 (by omega))) ?_
 rintro r ob' ⟨rfl, e9⟩
 rw [e9]
 clear e9 ob'
 have hN := hA.hN
 have hB := hA.hB
 obtain ⟨bq, br⟩ := quo_rem hg8 hg hb hk
 have l0 := ldE (j := 0) (v := e.pv) he rfl
 simp only [Nat.add_zero] at l0
 have db : decide (b < 16) = true := decide_eq_true hb
 rcases hA.pgs e (List.mem_of_getElem? he) with ⟨g1, g3, g2⟩ | ⟨q, off, c, g1, g2, g3⟩
 ·rw [g2] at l0
  have d : decide ((0 : Int) ≤ (k : Int)) = true := by simp
  simp only [U67, c0, c1, hN, hB, bq, br, db, l0, d, seval, bA]
  refine ⟨_, rfl, ?_, _, hW.symm⟩
  rw [List.eq_nil_of_length_eq_zero g1]; simp [errV]
 ·rw [g1] at l0
  by_cases hlt : k < e.b.pg.length
  ·have d : decide ((e.b.pg.length : Int) ≤ (k : Int)) = false := by simp; omega
   have d' : decide (k < e.b.pg.length) = true := decide_eq_true hlt
   have hld := ldK g2 (i := k) (x := .str e.b.pg[k]) (by simp [hlt])
   simp only [U67, c0, c1, hN, hB, bq, br, db, l0, d, d', hld, seval, bA]
   refine ⟨_, rfl, ?_, _, hW.symm⟩
   simp [errV, hlt, List.getD_eq_getElem?_getD]
  ·have d : decide ((e.b.pg.length : Int) ≤ (k : Int)) = true := by simp; omega
   simp only [U67, c0, c1, hN, hB, bq, br, db, l0, d, seval, bA]
   refine ⟨_, rfl, ?_, _, hW.symm⟩
   simp [errV, hlt, List.getD_eq_getElem?_getD, List.getElem?_eq_none (Nat.le_of_not_lt hlt)]
theorem bad_r {b : Nat} {e : Ent} (h : NandAt T ob g N B E ops pl pk P) (he : E[b]? = some e) : RCall Tryz.prog 74 [.ref N 0, .int .i64 (b : Int)] ob (.bool e.b.bad) := by
 have hb : b < 16 := by have := (List.getElem?_eq_some_iff.1 he).1; rw [h.len] at this; exact this
 refine RCall.ofR ?_ rfl
 refine icall_dr Tryz.func74 E74.h ?_
 have hN := h.hN
 have hB := h.hB
 have db : decide (b < 16) = true := decide_eq_true hb
 have l2 := ldE (j := 2) (v := .bool e.b.bad) he (by simp [cellsE])
 simp only [U74, seval, bA]
 refine callR (block_r h hb) ?_
 simp only [U74, hN, hB, db, l2, seval, bA]
 exact ⟨_, rfl, isR rfl⟩
theorem next_r {b : Nat} {e : Ent} (h : NandAt T ob g N B E ops pl pk P) (he : E[b]? = some e) : RCall Tryz.prog 75 [.ref N 0, .int .i64 (b : Int)] ob (.int .i64 (e.b.pg.length : Int)) := by
 have hb : b < 16 := by have := (List.getElem?_eq_some_iff.1 he).1; rw [h.len] at this; exact this
 refine RCall.ofR ?_ rfl
 refine icall_dr Tryz.func75 E75.h ?_
 have hN := h.hN
 have hB := h.hB
 have db : decide (b < 16) = true := decide_eq_true hb
 have l0 := ldE (j := 0) (v := e.pv) he rfl
 simp only [Nat.add_zero] at l0
 have al : arrV .len [e.pv] = some (.int .i64 (e.b.pg.length : Int)) := by
  rcases h.pgs e (List.mem_of_getElem? he) with ⟨h1, _, h2⟩ | ⟨q, off, c, h1, _⟩
  ·rw [h2, h1]; rfl
  ·rw [h1]; rfl
 simp only [U75, seval, bA]
 refine callR (block_r h hb) ?_
 simp only [U75, hN, hB, db, l0, al, seval, bA]
 exact ⟨_, rfl, isR rfl⟩
theorem nworn_r {b : Nat} {e : Ent} (h : NandAt T ob g N B E ops pl pk P) (he : E[b]? = some e) : RCall Tryz.prog 140 [.ref N 0, .int .i64 (b : Int)] ob (.int .i64 e.b.wn) := by
 have hb : b < 16 := by have := (List.getElem?_eq_some_iff.1 he).1; rw [h.len] at this; exact this
 refine RCall.ofR ?_ rfl
 refine icall_dr Tryz.func140 E140.h ?_
 have hN := h.hN
 have hB := h.hB
 have db : decide (b < 16) = true := decide_eq_true hb
 have l1 := ldE (j := 1) (v := .int .i64 e.b.wn) he (by simp [cellsE])
 simp only [U140, seval, bA]
 refine callR (block_r h hb) ?_
 simp only [U140, hN, hB, db, l1, seval, bA]
 exact ⟨_, rfl, isR rfl⟩
theorem down_r (h : NandAt T ob g N B E ops pl pk P) : RCall Tryz.prog 37 [.ref N 0] ob (.bool false) := by
 refine RCall.ofR ?_ rfl
 refine icall_dr Tryz.func37 E37.h ?_
 have hN := h.hN
 simp only [U37, hN, seval, bA]
 exact ⟨_, rfl, isR rfl⟩
theorem ops_r (h : NandAt T ob g N B E ops pl pk P) : RCall Tryz.prog 83 [.ref N 0] ob (.int .i64 ops) := by
 refine RCall.ofR ?_ rfl
 refine icall_dr Tryz.func83 E83.h ?_
 have hN := h.hN
 simp only [U83, hN, seval, bA]
 exact ⟨_, rfl, isR rfl⟩
theorem geo_r (h : NandAt T ob g N B E ops pl pk P) : RCall Tryz.prog 38 [.ref N 0] ob (.agg [.int .i64 16, .int .i64 (g : Int)]) := by
 refine RCall.of (K := fun r ob' => r = .agg [.int .i64 16, .int .i64 (g : Int)] ∧ ∃ ex, ob' = ob ++ ex) ?_ (fun r ob' h => h) rfl
 refine icall_dr Tryz.func38 E38.h ?_
 have hN := apN h.hN [.box [.int .i64 0, .int .i64 0]]
 have g1 := app0 ob
 have s1 := setA ob
 simp only [U38, hN, g1, s1, seval, bA]
 exact ⟨_, rfl, rfl, _, rfl⟩
end
open Go.RowKit Ar
section
variable {T : Nat → Prop} {ob ob' : List AObj} {g N B : Nat} {E : List Ent} {ops : Int} {pl : PV} {pk : Nat} {P : List Mis}
theorem NandAt.newp (h : NandAt T ob g N B E ops pl pk P) {pl' : PV} {pk' : Nat} {P' : List Mis} {U : Nat → Prop} (hS : Same ob ob' U) (hU : ∀ i, i < ob.length → T i → U i → i = pk ∧ pl = .osl pk 0 P.length) (hp : PlAt (ob'.set N (boxN g B ops pl')) pl' pk' P') (hT : pl' ≠ .nils → T pk') (hl : P'.length ≤ 1000000) :
  NandAt T (ob'.set N (boxN g B ops pl')) g N B E ops pl' pk' P' := by
 have hk : ∀ i, i < ob.length → T i → (∃ c, ob[i]? = some (.box c)) → ¬ U i := fun i hi h1 ⟨c, h2⟩ h3 => by
  obtain ⟨e1, e2⟩ := hU i hi h1 h3
  rcases h.pln with ⟨_, e3⟩ | ⟨_, e3⟩
  ·rw [e2] at e3; cases e3
  ·rw [e1, e3] at h2; cases h2
 have nN := hk N (lt_ofN h.hN) h.tN ⟨_, h.hN⟩
 have nB := hk B (lt_ofN h.hB) h.tB ⟨_, h.hB⟩
 refine { h with hN := set_get (hS.get h.hN nN), hB := ?_, pgs := fun e he => ?_, pln := hp, tp := hT, pl1 := hl }
 ·rw [List.getElem?_set_ne h.nb]; exact hS.get h.hB nB
 ·refine sl_set ((h.pgs e he).same hS fun q hq => ?_) fun q hq => (h.out e he q hq).1
  refine hk q (onB_lt (h.pgs e he) hq) (h.out e he q hq).2.2 ?_
  rcases h.pgs e he with ⟨_, _, hv⟩ | ⟨q', off, c, hv, ⟨cs, hcs, _⟩, _⟩
  ·obtain ⟨_, _, _, hq⟩ := hq; rw [hv] at hq; cases hq
  ·obtain ⟨_, _, _, hq⟩ := hq; rw [hv] at hq; injection hq with hq; subst hq; exact ⟨_, hcs⟩
def shM (ops : Int) (m : Mis) : Mis := { m with at_ := m.at_ + ops }
theorem plan_i (h : NandAt T ob g N B E ops pl pk P) (hT : ∀ i, ob.length ≤ i → T i) (l : List Mis) (hl : l.length ≤ 1000) (hat : ∀ m ∈ l, 1 ≤ m.at_ ∧ m.at_ ≤ 1000) :
  ICall Tryz.prog 12 [.ref N 0, .slc (l.map rowM)] ob fun r ob' => (∃ pl' pk', NandAt T ob' g N B E ops pl' pk' (l.map (shM ops))) ∧ Same ob ob' T := by
 refine icall_dr Tryz.func12 E12.h ?_
 have hN := h.hN
 simp only [U12, hN, seval, bA]
 refine loopF (fun s : Nat × List AObj × PV × Nat => ⟨ofL [(0, .ref N 0), (11, .slc (l.map rowM)), (12, .int .i64 (l.length : Int)), (13, .int .i64 (s.1 : Int))], s.2.1⟩)
  (fun s => s.1 ≤ l.length ∧ NandAt T s.2.1 g N B E ops s.2.2.1 s.2.2.2 ((l.take s.1).map (shM ops)) ∧ Same ob s.2.1 T) (fun s => l.length - s.1) (0, ob.set N (boxN g B ops .nils), .nils, 0) ?_ ⟨Nat.zero_le _, ?_, Same.set h.tN⟩ ?_
 ·simp only [U12, seval, bA]
  all_goals rfl
 ·exact h.newp (pk' := 0) (P' := []) (U := fun _ => False) (Same.refl _ _) (fun _ _ _ h => h.elim) (.inl ⟨rfl, rfl⟩) (fun h => absurd rfl h) (by simp)
 ·rintro ⟨i, X, pv, pk'⟩ ⟨hi, hX, hK⟩
  simp only at hi hX hK ⊢
  by_cases hlt : i < l.length
  ·have d : decide ((i : Int) < (l.length : Int)) = true := by simpa using hlt
   obtain ⟨m, hm⟩ : ∃ m, l[i] = m := ⟨_, rfl⟩
   have hmm : m ∈ l := by rw [← hm]; exact List.getElem_mem hlt
   have ha := hat m hmm
   have hr : i < (l.map rowM).length := by simpa using hlt
   have i1 : ∀ OB : List AObj, islV OB [] 4 (.slc (l.map rowM)) (.int .i64 (i : Int)) = some (.fptr (rowM m)) := fun OB => by
    rw [islV_slc (k := .i64) hr (by simp [rowM])]; simp [hm]
   have d1 : decide ((1 : Int) ≤ m.at_) = true := by simpa using ha.1
   have d2 : decide (m.at_ ≤ 1099511627776) = true := by simp; omega
   have h0 := hX.ops0
   have h1 := hX.ops1
   have w1 : IntKind.i64.wrap (m.at_ + ops) = m.at_ + ops := wrapI (by omega) (by omega)
   have w2 : IntKind.i64.wrap ((i : Int) + 1) = ((i + 1 : Nat) : Int) := by rw [wrapI (by omega) (by omega)]; omega
   have xN := hX.hN
   have gN := fun (l : List AObj) => apN xN l
   have lN := lt_ofN xN
   have y0 : ∀ l : List AObj, (X ++ l)[X.length]? = l[0]? := fun l => by rw [List.getElem?_append_right (Nat.le_refl _)]; simp
   have y1 : ∀ l : List AObj, (X ++ l)[X.length + 1]? = l[1]? := fun l => by rw [List.getElem?_append_right (by omega)]; simp
   have z0 : ∀ (l : List AObj) a, (X ++ l).set X.length a = X ++ l.set 0 a := fun l a => by rw [List.set_append_right _ _ (Nat.le_refl _)]; simp
   have z1 : ∀ (l : List AObj) a, (X ++ l).set (X.length + 1) a = X ++ l.set 1 a := fun l a => by rw [List.set_append_right _ _ (by omega)]; simp
   have q0 : (X.length == X.length + 1) = false := by simp
   have qN : (N == X.length + 1) = false := by simp; omega
   have htk : (l.take (i + 1)).map (shM ops) = (l.take i).map (shM ops) ++ [shM ops m] := by rw [List.take_succ_eq_append_getElem hlt, List.map_append, hm]; rfl
   obtain ⟨Q, hQ⟩ : ∃ Q, (l.take i).map (shM ops) = Q := ⟨_, rfl⟩
   have hQl : Q.length ≤ 1000 := by rw [← hQ]; simp; omega
   rw [hQ] at hX htk
   rcases hX.pln with ⟨g1, g2⟩ | ⟨g1, g2⟩
   ·subst g2
    have ap : ∀ (l : List AObj) fb, l[1]? = some .none → appO (X ++ l) fb (some (X.length + 1)) 4 .nils (some [[.int .i64 (m.at_ + ops), .int .i64 m.kd, .int .i64 m.kp, .str m.jk]]) = some (.osl (X.length + 1) 0 1, X ++ l.set 1 (lM [shM ops m])) := fun l fb hl => by
     rw [appO_nilsA (by rw [y1, hl]) (by simp [rowsOk]) (by simp), z1]; rfl
    have hTX : T (X.length + 1) := hT _ (by have := hK.1; omega)
    have fin := hX.newp (ob' := X ++ [.box (rowM (shM ops m)), lM [shM ops m]]) (pl' := .osl (X.length + 1) 0 1) (pk' := X.length + 1) (P' := [shM ops m]) (U := fun _ => False) (Same.app _ _ _) (fun _ _ _ h => h.elim) (.inr ⟨rfl, by rw [List.getElem?_set_ne (by omega)]; exact y1 _⟩) (fun _ => hTX) (by simp)
    have finS : Same ob ((X ++ [AObj.box (rowM (shM ops m)), lM [shM ops m]]).set N (boxN g B ops (.osl (X.length + 1) 0 1))) T := (hK.trans (Same.app _ _ _)).trans (Same.set h.tN)
    simp only [U12, d, i1, d1, d2, w1, w2, rowM, gN, y0, y1, z0, z1, q0, qN, ap, seval, bA]
    refine ⟨(i + 1, _, .osl (X.length + 1) 0 1, X.length + 1), rfl, ⟨hlt, ?_, finS⟩, by simp only; omega⟩
    simp only [htk, g1, List.nil_append]
    exact fin
   ·subst g1
    have gk := fun (l : List AObj) => apN g2 l
    have lk := lt_ofN g2
    have qk : (pk' == X.length + 1) = false := by simp; omega
    have kN : N ≠ pk' := by rintro rfl; rw [xN] at g2; cases g2
    have ap : ∀ (l : List AObj) fb nw, fb.contains pk' = false → appO (X ++ l) fb nw 4 (.osl pk' 0 Q.length) (some [[.int .i64 (m.at_ + ops), .int .i64 m.kd, .int .i64 m.kp, .str m.jk]]) = some (.osl pk' 0 (Q.length + 1), (X ++ l).set pk' (lM (Q ++ [shM ops m]))) := fun l fb nw hf => by
     rw [appO_osl hf (gk l) (by simp) (by simp; omega) (by simp [rowsOk]) (by simp)]; simp [lM, rowM, shM]
    have xeN : ∀ (l : List AObj) a, ((X ++ l).set pk' a)[N]? = some (boxN g B ops (.osl pk' 0 Q.length)) := fun l a => by rw [List.getElem?_set_ne (fun e => kN e.symm)]; exact gN l
    have hTk := hX.tp (by simp)
    have fin := hX.newp (ob' := (X ++ [AObj.box (rowM (shM ops m)), AObj.none]).set pk' (lM (Q ++ [shM ops m]))) (pl' := .osl pk' 0 (Q.length + 1)) (pk' := pk') (P' := Q ++ [shM ops m]) (U := (· = pk')) ((Same.app _ _ _).trans (Same.set rfl)) (fun _ _ _ h => ⟨h, rfl⟩) (.inr ⟨by simp, by rw [List.getElem?_set_ne kN]; exact set_get (gk _)⟩) (fun _ => hTk) (by simp; omega)
    have finS : Same ob (((X ++ [AObj.box (rowM (shM ops m)), .none]).set pk' (lM (Q ++ [shM ops m]))).set N (boxN g B ops (.osl pk' 0 (Q.length + 1)))) T := ((hK.trans (Same.app _ _ _)).trans (Same.set hTk)).trans (Same.set h.tN)
    simp only [U12, d, i1, d1, d2, w1, w2, rowM, gN, y0, y1, z0, z1, q0, qN, ap, gk, qk, xeN, seval, bA]
    refine ⟨(i + 1, _, .osl pk' 0 (Q.length + 1), pk'), rfl, ⟨hlt, ?_, finS⟩, by simp only; omega⟩
    simp only [htk]
    exact fin
  ·have d : decide ((i : Int) < (l.length : Int)) = false := by simpa using hlt
   rw [List.take_of_length_le (by omega)] at hX
   simp only [U12, d, seval, bA]
   exact ⟨_, rfl, ⟨_, _, hX⟩, hK⟩
def NandS (T : Nat → Prop) (ob : List AObj) (g N : Nat) (bl : List Bk) (ops : Int) (P : List Mis) : Prop := ∃ B E pl pk, NandAt T ob g N B E ops pl pk P ∧ E.map (·.b) = bl
theorem get_map {E : List Ent} {bl : List Bk} (h : E.map (·.b) = bl) {b : Nat} {k : Bk} (hb : bl[b]? = some k) : ∃ e, E[b]? = some e ∧ e.b = k := by
 rw [← h, List.getElem?_map] at hb
 obtain ⟨e, h1, h2⟩ := Option.map_eq_some_iff.1 hb
 exact ⟨e, h1, h2⟩
variable {bl : List Bk}
theorem NandS.len (h : NandS T ob g N bl ops P) : bl.length = 16 := by
 obtain ⟨B, E, pl, pk, h1, h2⟩ := h
 rw [← h2, List.length_map]; exact h1.len
theorem NandS.same {U : Nat → Prop} (h : NandS T ob g N bl ops P) (hS : Same ob ob' U) (hU : ∀ i, i < ob.length → T i → ¬ U i) : NandS T ob' g N bl ops P := by
 obtain ⟨B, E, pl, pk, h1, h2⟩ := h
 exact ⟨B, E, pl, pk, h1.same hS hU, h2⟩
theorem NandS.wide {U : Nat → Prop} (h : NandS T ob g N bl ops P) (hU : ∀ i, i < ob.length → T i → U i) : NandS U ob g N bl ops P := by
 obtain ⟨B, E, pl, pk, h1, h2⟩ := h
 exact ⟨B, E, pl, pk, h1.wide hU, h2⟩
theorem NandS.app (h : NandS T ob g N bl ops P) (l : List AObj) : NandS T (ob ++ l) g N bl ops P := h.same (Same.app ob l (fun _ => False)) fun _ _ _ h => h
theorem Program_i {b k : Nat} {bk : Bk} {s : List UInt8} (h : NandS T ob g N bl ops P) (hT : ∀ i, ob.length ≤ i → T i) (hops : ops < 1000000) (he : bl[b]? = some bk) (hk : k < g) (hbad : bk.bad = false) (hlen : bk.pg.length = k) (hs : s.length ≤ 128) (hm : (cM P (ops + 1)).kd = 0 ∨ (cM P (ops + 1)).kd = 2) (hj : (cM P (ops + 1)).jk.length ≤ 1000) {pg : Int} (hpg : pg = ((g * b + k : Nat) : Int)) :
  ICall Tryz.prog 31 [.ref N 0, .int .i64 pg, .str s] ob fun r ob' => NandS T ob' g N (bl.set b ⟨bk.pg ++ [pageT (cM P (ops + 1)) s], bk.wn, decide ((cM P (ops + 1)).kd = 2)⟩) (ops + 1) P ∧ Same ob ob' T ∧ WrapAt ob' (errT (cM P (ops + 1))) r := by
 obtain ⟨B, E, pl, pk, h1, h2⟩ := h
 obtain ⟨e, h3, rfl⟩ := get_map h2 he
 refine icall_dr Tryz.func31 E31.h ?_
 simp only [U31, seval, bA]
 refine callM (prog_i h1 hT hops h3 hk hbad hlen hs hm hj hpg) ?_
 rintro r ob' ⟨E', hE, hK, rfl, hM⟩
 simp only [U31, seval, bA]
 refine callM (wrap_i ob' _ _ _) ?_
 rintro r ob2 ⟨⟨ex, rfl⟩, hw⟩
 simp only [U31, seval, bA]
 exact ⟨_, rfl, ⟨B, E', pl, pk, hE.app ex, by rw [hM, h2]⟩, hK.trans (Same.app _ _ _), hw⟩
theorem Read_i {b k : Nat} {bk : Bk} (h : NandS T ob g N bl ops P) (he : bl[b]? = some bk) (hk : k < g) {pg : Int} (hpg : pg = ((g * b + k : Nat) : Int)) :
  ICall Tryz.prog 32 [.ref N 0, .int .i64 pg] ob fun r ob' => ∃ r2, r = .tup [.str (bk.pg.getD k []), r2] ∧ (∃ ex, ob' = ob ++ ex) ∧ WrapAt ob' (if k < bk.pg.length then 0 else 42) r2 := by
 obtain ⟨B, E, pl, pk, h1, h2⟩ := h
 obtain ⟨e, h3, rfl⟩ := get_map h2 he
 refine icall_dr Tryz.func32 E32.h ?_
 simp only [U32, seval, bA]
 refine callM (ICall.ofR (read_i h1 h3 hk hpg)) ?_
 rintro r ob' ⟨rfl, rfl⟩
 simp only [U32, seval, bA]
 refine callM (wrap_i _ _ _ _) ?_
 rintro r ob2 ⟨⟨ex2, rfl⟩, hw⟩
 simp only [U32, seval, bA]
 exact ⟨_, rfl, _, rfl, ⟨_, rfl⟩, hw⟩
theorem Plan_i (h : NandS T ob g N bl ops P) (hT : ∀ i, ob.length ≤ i → T i) (l : List Mis) (hl : l.length ≤ 1000) (hat : ∀ m ∈ l, 1 ≤ m.at_ ∧ m.at_ ≤ 1000) :
  ICall Tryz.prog 12 [.ref N 0, .slc (l.map rowM)] ob fun r ob' => NandS T ob' g N bl ops (l.map (shM ops)) ∧ Same ob ob' T := by
 obtain ⟨B, E, pl, pk, h1, h2⟩ := h
 refine callM (plan_i h1 hT l hl hat) ?_
 rintro r ob' ⟨⟨pl', pk', h3⟩, h4⟩
 exact ⟨⟨B, E, pl', pk', h3, h2⟩, h4⟩
theorem Bad_r {b : Nat} {bk : Bk} (h : NandS T ob g N bl ops P) (he : bl[b]? = some bk) : RCall Tryz.prog 74 [.ref N 0, .int .i64 (b : Int)] ob (.bool bk.bad) := by
 obtain ⟨B, E, pl, pk, h1, h2⟩ := h
 obtain ⟨e, h3, rfl⟩ := get_map h2 he
 exact bad_r h1 h3
theorem Next_r {b : Nat} {bk : Bk} (h : NandS T ob g N bl ops P) (he : bl[b]? = some bk) : RCall Tryz.prog 75 [.ref N 0, .int .i64 (b : Int)] ob (.int .i64 (bk.pg.length : Int)) := by
 obtain ⟨B, E, pl, pk, h1, h2⟩ := h
 obtain ⟨e, h3, rfl⟩ := get_map h2 he
 exact next_r h1 h3
theorem Worn_r {b : Nat} {bk : Bk} (h : NandS T ob g N bl ops P) (he : bl[b]? = some bk) : RCall Tryz.prog 140 [.ref N 0, .int .i64 (b : Int)] ob (.int .i64 bk.wn) := by
 obtain ⟨B, E, pl, pk, h1, h2⟩ := h
 obtain ⟨e, h3, rfl⟩ := get_map h2 he
 exact nworn_r h1 h3
theorem Down_r (h : NandS T ob g N bl ops P) : RCall Tryz.prog 37 [.ref N 0] ob (.bool false) := by
 obtain ⟨B, E, pl, pk, h1, h2⟩ := h
 exact down_r h1
theorem Ops_r (h : NandS T ob g N bl ops P) : RCall Tryz.prog 83 [.ref N 0] ob (.int .i64 ops) := by
 obtain ⟨B, E, pl, pk, h1, h2⟩ := h
 exact ops_r h1
theorem Geo_r (h : NandS T ob g N bl ops P) : RCall Tryz.prog 38 [.ref N 0] ob (.agg [.int .i64 16, .int .i64 (g : Int)]) := by
 obtain ⟨B, E, pl, pk, h1, h2⟩ := h
 exact geo_r h1
theorem known_bsl {o i n} : PV.known (.bsl o i n) = true := rfl
theorem cellsOf_bsl {o i n} : PV.cellsOf (.bsl o i n) = [.bsl o i n] := rfl
theorem cell_bsl {o i n} : PV.cell? (.bsl o i n) = true := rfl
def bls0 : List Ent := List.replicate 16 ⟨.nils, zeroK⟩
def blK : List Bk := List.replicate 16 zeroK
theorem New_i (ob : List AObj) (hg : 8 ≤ g) (hg2 : g ≤ 32) : ICall Tryz.prog 5 [.agg [.int .i64 16, .int .i64 (g : Int)]] ob fun r ob' => (∃ N, r = .tup [.ref N 0, .nili] ∧ NandS (ob.length ≤ ·) ob' g N blK 0 []) ∧ Same ob ob' (fun _ => False) := by
 refine icall_dr Tryz.func5 E5.h ?_
 have g0 : ∀ l : List AObj, (ob ++ l)[ob.length]? = l[0]? := fun l => by rw [List.getElem?_append_right (Nat.le_refl _)]; simp
 have g1 : ∀ l : List AObj, (ob ++ l)[ob.length + 1]? = l[1]? := fun l => by rw [List.getElem?_append_right (by omega)]; simp
 have g2 : ∀ l : List AObj, (ob ++ l)[ob.length + 2]? = l[2]? := fun l => by rw [List.getElem?_append_right (by omega)]; simp
 have z1 : ∀ (l : List AObj) a, (ob ++ l).set (ob.length + 1) a = ob ++ l.set 1 a := fun l a => by rw [List.set_append_right _ _ (by omega)]; simp
 have z2 : ∀ (l : List AObj) a, (ob ++ l).set (ob.length + 2) a = ob ++ l.set 2 a := fun l a => by rw [List.set_append_right _ _ (by omega)]; simp
 have n1 : (ob.length == ob.length + 1) = false := by simp
 have n2 : (ob.length == ob.length + 1 + 1) = false := by simp; omega
 have hz : ∀ ks, mksO [.nils, .int .i64 0, .bool false] (.int .i64 16) (.int .i64 16) ks = ks 16 := fun ks => by rw [mksO_int (by omega) (by omega) (by simp [PV.scal]) (by simp [ownL, PV.own?])]; rfl
 have hin : (decide ((16 : Int) ≤ 16) && decide ((16 : Int) ≤ 64)) = true := by decide
 have hin2 : (decide ((8 : Int) ≤ (g : Int)) && decide ((g : Int) ≤ 32)) = true := by simp; omega
 simp only [U5, g0, g1, seval, bA]
 refine callI (nin_spec 16 16 64) ?_
 rw [hin]
 simp only [U5, g0, g1, seval, bA]
 refine callI (nin_spec g 8 32) ?_
 rw [hin2]
 simp only [U5, g0, g1, g2, z1, z2, n1, n2, hz, known_bsl, cellsOf_bsl, cell_bsl, seval, bA]
 refine ⟨_, rfl, ⟨_, rfl, ob.length + 1, bls0, .nils, 0, ⟨g2 _, g1 _, rfl, fun e he => ?_, .inl ⟨rfl, rfl⟩, fun i j a b q ha _ na _ => ?_, fun e he q hq => ?_, by omega, show ob.length ≤ ob.length + 1 + 1 by omega, show ob.length ≤ ob.length + 1 by omega, fun h => absurd rfl h, hg, hg2, by omega, by omega, by simp⟩, by simp [bls0, blK]⟩, Same.app _ _ _⟩
 ·rw [List.eq_of_mem_replicate he]; exact .inl ⟨rfl, rfl, rfl⟩
 ·rw [List.eq_of_mem_replicate (List.mem_of_getElem? ha)] at na; obtain ⟨_, _, _, na⟩ := na; cases na
 ·rw [List.eq_of_mem_replicate he] at hq; obtain ⟨_, _, _, hq⟩ := hq; cases hq
end
end Go.Proofs.YtdgpiobmncohjaaGreatDoor.Aw
