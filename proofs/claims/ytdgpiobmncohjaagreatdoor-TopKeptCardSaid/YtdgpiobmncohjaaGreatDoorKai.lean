/-
 That the walk through abstract code tells the truth: calls, one step, regions in the text's order, what is kept at a loop's head.
-/
import Derived.Test.YtdgpiobmncohjaaGreatDoorKaf
import Derived.Test.YtdgpiobmncohjaaGreatDoorKag
import Derived.Test.YtdgpiobmncohjaaGreatDoorKah
import Derived.Orders
set_option linter.all false
namespace Go.Proofs.YtdgpiobmncohjaaGreatDoor.Aw
open Go.RowKit
structure Start where
 w : World
 F : Nat → Prop
 l : Locs
 base : Nat
 h : ∀ o L, l o = some L → o < base
def Rep (c : Ctx) (g : Start) (s : St) (a : Act) (w : World) : Prop := ∃ F l, RepW c F l s.ob w ∧ SlotsOk w F l s a ∧ Mono g.w g.F g.l w F l ∧ a.defers = [] ∧ a.tmps.size = c.n
theorem SlotsOk.up {w w' : World} {F F' : Nat → Prop} {l l' : Locs} {s : St} {a : Act} (m : Mono w F l w' F' l') (h : SlotsOk w F l s a) : SlotsOk w' F' l' s a := fun t => (h t).up m
theorem SlotsOk.put {w : World} {F : Nat → Prop} {l : Locs} {s : St} {a : Act} {d : Option Nat} {pv : PV} {v : Value} {ob : List AObj} (h : SlotsOk w F l s a) (hv : R1 w F l pv v) (hd : ∀ t, d = some t → t < a.tmps.size) : SlotsOk w F l (s.put d pv ob) (a.put d v) := by
 intro t
 cases d with
 | none => exact h t
 | some d =>
  simp only [St.put, Act.put, upd]
  by_cases e : t = d
  ·subst e
   have := hd t rfl
   simp [this]; exact hv
  ·rw [if_neg e]
   have : (a.tmps.setIfInBounds d v).getD t undef = a.tmps.getD t undef := by
    simp [Array.getElem?_setIfInBounds, Ne.symm e]
   rw [this]; exact h t
theorem put_tmps_size (a : Act) (d : Option Nat) (v : Value) : (a.put d v).tmps.size = a.tmps.size := by cases d <;> simp [Act.put]
theorem put_defers (a : Act) (d : Option Nat) (v : Value) : (a.put d v).defers = a.defers := by cases d <;> rfl
theorem put_ob (s : St) (d : Option Nat) (v : PV) (ob : List AObj) : (s.put d v ob).ob = ob := by cases d <;> rfl
def callF (F : Nat → Prop) (l : Locs) (b : Nat) : Prop := F b ∨ ∃ o L, l o = some L ∧ L.nil = false ∧ L.blk = b
section
variable {P : Program} {c : Ctx} {g : Start} {F : Nat → Prop} {l : Locs} {w : World} {s : St} {a : Act}
theorem toCall {p : PV} {v : Value} (h : R1 w F l p v) (ho : p.own? = false) : R1 w (callF F l) (fun _ => none) p v :=
 (h.noOwn ho _).mono (fun _ hb => .inl hb) (fun _ _ => rfl) _ (LocExt.refl _)
theorem rowsOf_call (R : RepW c F l s.ob w) {forb : List Nat} {p : PV} {v : Value} {rows : List (List PV)} (hp : R1 w F l p v) (h : rowsOf s.ob forb p = some rows) (ho : p.own? = true) : R1 w (callF F l) (fun _ => none) (.slc rows) v := by
 obtain ⟨ad, cap, hv, hcap, hcells⟩ := rowsOf_sound R hp h
 by_cases hne : rows = []
 ·subst hne; rw [hv]; exact .slc0 _ _
 ·rcases hcells with h0 | ⟨b, off, cv, esz, rfl, hr, hrl, hcell, hone⟩
  ·exact absurd h0 hne
  ·have hF : ∃ o L, l o = some L ∧ L.nil = false ∧ L.blk = b ∧ ∃ cc e fr, w.heap[b]? = some (.cells cc e fr) := by
    cases hp with
    | @osl l o i n L v hl hb hn hv' hh =>
     simp only [rowsOf] at h
     split at h
     ·cases h
     split at h
     ·rename_i z rows' hob
      split at h
      ·rename_i hcur
       cases h
       rcases R.objs o _ hob with g0 | ⟨L', g0, g1⟩
       ·simp at g0
       rw [hl] at g0; cases g0
       rcases hh (by have := g1.2.1; omega) with ⟨k1, k2, k3, k4⟩ | ⟨k1, k2, ad', k3, k4⟩
       ·rw [k4] at hv; cases hv
       ·rw [k3] at hv
        simp only [Value.slice.injEq, Option.some.injEq] at hv
        rcases g1.2.2.2.2 with ⟨q, _⟩ | ⟨_, q1, q2, cc, e, fr, _, hbk, _⟩
        ·rw [q] at k1; cases k1
        have hi : i < L.cap := by
         have : (rows'.drop i).length ≠ 0 := fun e => hne (List.eq_nil_of_length_eq_zero e)
         simp at this
         omega
        have := k4 hi
        rw [hv.1] at this
        simp only [Addr.mk.injEq] at this
        exact ⟨o, L, hl, k1, this.1.symm, cc, e, fr, by rw [this.1]; exact hbk⟩
      ·cases h
     ·rename_i u bs hob
      split at h
      ·rename_i hcur
       obtain ⟨rfl, hcur⟩ := hcur
       cases h
       obtain ⟨L', g1, g2, g3⟩ := buf_val R (.osl hl hb hn hv' hh) hob hcur
       rw [hl] at g1; cases g1
       rcases g3 with ⟨g3, g4, g5⟩ | ⟨g3, g4, g5⟩
       ·rw [g5] at hv; cases hv
       ·obtain ⟨h3, h4, h5, h6, h7, h8⟩ := g2
        rcases h8 with ⟨q, _⟩ | ⟨q1, q2, cc, fz, q3, _⟩
        ·rw [q] at g3; cases g3
        ·rw [g5] at hv
         simp only [Value.slice.injEq, Option.some.injEq, Addr.mk.injEq] at hv
         exact ⟨o, L, hl, g3, hv.1.1, cc, u, fz, by rw [← hv.1.1]; exact q3⟩
      ·cases h
     ·cases h
    | @bsl l o off' n cap' L hl hb hn =>
     simp only [rowsOf] at h
     split at h
     ·cases h
     split at h
     ·rename_i cells hob
      rcases R.objs o _ hob with g0 | ⟨L', g0, g1⟩
      ·simp at g0
      rw [hl] at g0; cases g0
      obtain ⟨_, g2, _, e, hbk, _⟩ := g1
      simp only [Value.slice.injEq, Option.some.injEq, Addr.mk.injEq] at hv
      exact ⟨o, L, hl, g2, hv.1.1, _, e, _, by rw [← hv.1.1]; exact hbk⟩
     ·cases h
    | _ => simp [PV.own?, rowsOf] at ho h
   obtain ⟨o, L, h1, h2, h3, cc, e, fr, hb⟩ := hF
   rw [hv]
   refine .slcN hne hcap (.inr ⟨o, L, h1, h2, h3⟩) ⟨⟨cc, e, fr, hb, fun j hj => ?_⟩, hone⟩ hr hrl.1 fun i c x h1 h2 => ((hrl.2 i c x h1 h2).mono (fun _ hb => .inl hb) (fun _ _ => rfl) _ (LocExt.refl _))
   have := hcell j cv[j] (by simp [hj])
   rw [cell_of_block hb] at this
   rw [this]; simp [hj]
mutual
theorem snap_sound (R : RepW c F l s.ob w) {forb : List Nat} : ∀ (p q : PV) (v : Value), snap s.ob forb p = some q → R1 w F l p v → R1 w (callF F l) (fun _ => none) q v
 | .osl o i n, q, v, h, hp => by
  simp only [snap, Option.map_eq_some_iff] at h
  obtain ⟨rows, hr, rfl⟩ := h
  exact rowsOf_call R hp hr rfl
 | .bsl o i n, q, v, h, hp => by
  simp only [snap, Option.map_eq_some_iff] at h
  obtain ⟨rows, hr, rfl⟩ := h
  exact rowsOf_call R hp hr rfl
 | .ref o off, q, v, h, hp => by
  simp only [snap] at h
  split at h
  ·cases h
  split at h
  ·rename_i cells hob
   split at h
   ·rename_i hcond
    cases h
    cases hp with
    | @ref l o off L hl hb =>
     rcases R.objs o _ hob with g0 | ⟨L', g0, g1⟩
     ·simp at g0
     rw [hl] at g0; cases g0
     obtain ⟨g2, g3, cv, e, g4, g5, g6⟩ := g1
     have hrl := (((g5.noOwn hcond.2 (fun _ => none)).drop off).up (show Mono w F (fun _ => none) w (callF F l) (fun _ => none) from ⟨fun _ hb => .inl hb, fun _ _ => rfl, LocExt.refl _⟩))
     refine .fptr (cv := cv.drop off) (.inr ⟨o, L, hl, g3, rfl⟩) ⟨⟨cv.toArray, e, (0, 0), g4, fun j hj => ?_⟩, fun x hx => g6 x (List.mem_of_mem_drop hx)⟩ hrl.1 hrl.2
     simp [List.getElem?_drop]
   ·cases h
  ·cases h
 | .lref .., q, v, h, hp => by simp [snap] at h
 | .own .., q, v, h, hp => by simp [snap] at h
 | .mp _, q, v, h, hp => by simp [snap] at h
 | .asl .., q, v, h, hp => by simp [snap] at h
 | .nilm, q, v, h, hp => by simp only [snap, Option.some.injEq] at h; subst h; exact toCall hp rfl
 | .agg cs, q, v, h, hp => by
  simp only [snap, Option.map_eq_some_iff] at h
  obtain ⟨qs, hq, rfl⟩ := h
  obtain ⟨xs, rfl, hr⟩ := hp.agg_inv
  exact R1.mkAgg (snapL_sound R cs qs xs hq hr)
 | .tup cs, q, v, h, hp => by
  simp only [snap, Option.map_eq_some_iff] at h
  obtain ⟨qs, hq, rfl⟩ := h
  obtain ⟨xs, rfl, hr⟩ := hp.tup_inv
  exact R1.mkTup (snapL_sound R cs qs xs hq hr)
 | .fn f p r, q, v, h, hp => by
  simp only [snap] at h
  split at h
  ·rename_i p' r' h1 h2
   cases h
   cases hp with
   | fn hl1 g1 hl2 g2 =>
    have k1 := snapL_sound R p p' _ h1 ⟨hl1, g1⟩
    have k2 := snapL_sound R r r' _ h2 ⟨hl2, g2⟩
    exact .fn k1.1 k1.2 k2.1 k2.2
  ·cases h
 | .ifc t p, q, v, h, hp => by
  simp only [snap, Option.map_eq_some_iff] at h
  obtain ⟨q', hq, rfl⟩ := h
  cases hp with
  | ifc h => exact .ifc (snap_sound R p q' _ hq h)
 | .bot, q, v, h, hp => by simp only [snap, Option.some.injEq] at h; subst h; exact toCall hp rfl
 | .int k n, q, v, h, hp => by simp only [snap, Option.some.injEq] at h; subst h; exact toCall hp rfl
 | .bool b, q, v, h, hp => by simp only [snap, Option.some.injEq] at h; subst h; exact toCall hp rfl
 | .str x, q, v, h, hp => by simp only [snap, Option.some.injEq] at h; subst h; exact toCall hp rfl
 | .nils, q, v, h, hp => by simp only [snap, Option.some.injEq] at h; subst h; exact toCall hp rfl
 | .slc rows, q, v, h, hp => by simp only [snap, Option.some.injEq] at h; subst h; exact toCall hp rfl
 | .fptr cs, q, v, h, hp => by simp only [snap, Option.some.injEq] at h; subst h; exact toCall hp rfl
 | .nilp, q, v, h, hp => by simp only [snap, Option.some.injEq] at h; subst h; exact toCall hp rfl
 | .nilf, q, v, h, hp => by simp only [snap, Option.some.injEq] at h; subst h; exact toCall hp rfl
 | .nili, q, v, h, hp => by simp only [snap, Option.some.injEq] at h; subst h; exact toCall hp rfl
theorem snapL_sound (R : RepW c F l s.ob w) {forb : List Nat} : ∀ (ps qs : List PV) (vs : List Value), snapL s.ob forb ps = some qs → RL w F l ps vs → RL w (callF F l) (fun _ => none) qs vs
 | [], qs, vs, h, hp => by
  simp only [snapL, Option.some.injEq] at h; subst h
  have := hp.nil_inv; subst this
  exact RL.nil
 | p :: ps, qs, vs, h, hp => by
  simp only [snapL] at h
  split at h
  ·rename_i q qs' h1 h2
   cases h
   obtain ⟨v, vs', rfl, hv, hvs⟩ := hp.cons_inv
   exact RL.cons (snap_sound R p q v h1 hv) (snapL_sound R ps qs' vs' h2 hvs)
  ·cases h
end
theorem call_run {o : Oper} {x : Operand} {cargs : Array Operand} {ts : Array TypeId} {f : Nat} {first cap : List Value} (hop : o.op = .call { callee := .value x, args := cargs, argTypes := ts }) (hx : a.eval x = .func (.func f) first.toArray cap.toArray) (hf : OkFn P f) :
  (execOp a.eval o).run P w = .ok (.enter f (first ++ (cargs.toList.map a.eval ++ cap)).toArray) w := by
 obtain ⟨fn, h1, h2, h3⟩ := hf
 have e : first.toArray ++ cargs.map a.eval ++ cap.toArray = (first ++ (cargs.toList.map a.eval ++ cap)).toArray := by
  apply Array.ext'; simp
 simp only [execOp, hop, resolve, Deferred.ofValue, hx, Sem.run_bind, Sem.run_pure, Result.andThen_ok, invoke, callFunc, run_program, h1]
 rw [if_neg (by rw [h2]; simp), if_neg (by rw [h3]; simp), Sem.run_pure, e]
theorem invoke_run {o : Oper} {r : Operand} {nm : String} {cargs : Array Operand} {ts : Array TypeId} {t : TypeId} {f : Nat} {v : Value} (hop : o.op = .call { callee := .invoke r nm, args := cargs, argTypes := ts }) (hx : a.eval r = .iface t v) (hm : MethOk P t nm f) (hf : OkFn P f) :
  (execOp a.eval o).run P w = .ok (.enter f (v :: cargs.toList.map a.eval).toArray) w := by
 obtain ⟨fn, h1, h2, h3⟩ := hf
 have e : #[v] ++ ((#[a.eval r] ++ cargs.map a.eval).extract 1 (#[a.eval r] ++ cargs.map a.eval).size) = (v :: cargs.toList.map a.eval).toArray := by
  apply Array.ext'; simp
  rw [List.take_of_length_le (by simp)]
 have hm' := hm v w
 simp only [execOp, hop, resolve, Sem.run_bind, Sem.run_pure, Result.andThen_ok, invoke]
 have e0 : (#[a.eval r] ++ cargs.map a.eval)[0]? = some (.iface t v) := by rw [hx, Array.getElem?_append]; simp
 simp only [e0, callMethod, Sem.run_bind, run_program, Result.andThen_ok, hm', callFunc, h1]
 rw [if_neg (by rw [h2]; simp), if_neg (by rw [h3]; simp), Sem.run_pure, e]
theorem res_sound {own : Bool} {nw d : Option Nat} {K : St → Prop} {K' : Act → World → Prop} {r : PV} {v : Value} {w' : World} {Fr : Nat → Prop} (R : RepW c F l s.ob w) (hs : SlotsOk w F l s a) (hm : Mono g.w g.F g.l w F l) (hdf : a.defers = []) (hsz : a.tmps.size = c.n) (hd : ∀ t, d = some t → t < c.n)
  (hB : Below w.heap.size w w') (hr : RR w' Fr w.heap.size r v) (hFr : r.flat = true ∨ ((∀ b, F b → Fr b) ∧ (∀ b, Fr b → F b ∨ w.heap.size ≤ b) ∧ (∀ b, Fr b → b < w'.heap.size)))
  (hk : ARes own nw d K r s) (hK : ∀ s' a' w', K s' → Rep c g s' a' w' → K' a' w') : K' (a.put d v) w' := by
 obtain ⟨R1', m1⟩ := R.ext hB
 have hput : ∀ {F2 : Nat → Prop} {l2 : Locs} {pv : PV} {ob : List AObj}, RepW c F2 l2 ob w' → Mono w F l w' F2 l2 → R1 w' F2 l2 pv v → Rep c g (s.put d pv ob) (a.put d v) w' := by
  intro F2 l2 pv ob hR hm2 hv
  exact ⟨F2, l2, by rw [put_ob]; exact hR, (hs.up hm2).put hv (fun t ht => by rw [hsz]; exact hd t ht), hm.trans hm2, by rw [put_defers]; exact hdf, by rw [put_tmps_size]; exact hsz⟩
 -- the blocks that are read by content from here on
 have hfr : ((∀ b, F b → Fr b) ∧ (∀ b, Fr b → F b ∨ w.heap.size ≤ b) ∧ (∀ b, Fr b → b < w'.heap.size)) → ∀ (keep : Nat → Prop), (∀ b, keep b → Fr b) → RepW c (fun b => F b ∨ keep b) l s.ob w' ∧ Mono w F l w' (fun b => F b ∨ keep b) l := by
  intro h keep hkeep
  have m : Mono w F l w' (fun b => F b ∨ keep b) l := ⟨fun _ h => .inl h, fun b hb => m1.heap b hb, LocExt.refl l⟩
  have m2 : Mono w' F l w' (fun b => F b ∨ keep b) l := ⟨fun _ h => .inl h, fun b hb => rfl, LocExt.refl l⟩
  refine ⟨⟨R1'.below, fun b hb => .inl (R.f0 b hb), ?_, ?_, R1'.lt, ?_, ?_, R1'.inj⟩, m⟩
  ·rintro b (hb | hb)
   ·exact R.fn b hb
   ·rcases h.2.1 b (hkeep b hb) with h1 | h1
    ·exact R.fn b h1
    ·exact .inr (Nat.le_trans R.below.size h1)
  ·rintro b (hb | hb)
   ·exact R1'.flt b hb
   ·exact h.2.2 b (hkeep b hb)
  ·intro o ao ho
   rcases R1'.objs o ao ho with g | ⟨L, g1, g2⟩
   ·exact .inl g
   ·exact .inr ⟨L, g1, g2.up m2 fun _ => rfl⟩
  ·intro o L ho hn
   have := R1'.own o L ho hn
   refine ⟨this.1, this.2.1, ?_⟩
   rintro (hb | hb)
   ·exact this.2.2 hb
   ·rcases h.2.1 _ (hkeep _ hb) with h1 | h1
    ·exact this.2.2 h1
    ·have := (R.own o L ho hn).2.1; omega
 unfold ARes at hk
 split at hk
 ·-- a list of the callee's own
  rename_i esz rows
  obtain ⟨L, hrep, hsv, hfresh⟩ := (hr : OwnR w' Fr w.heap.size esz rows v)
  rcases hFr with hflat | hFr
  ·simp [PV.flat] at hflat
  split at hk
  ·split at hk
   ·rename_i i ob hmk
    obtain ⟨h1, h2, h3, h4, h5⟩ := mkO_spec R rfl hmk
    obtain ⟨Ra, ma⟩ := hfr hFr Fr (fun _ h => h)
    have mF : Mono w' Fr (fun _ => none) w' (fun b => F b ∨ Fr b) (fun _ => none) := ⟨fun _ h => .inr h, fun _ _ => rfl, LocExt.refl _⟩
    obtain ⟨R2, m2⟩ := Ra.new (L := L) (i := i) (a := .list esz rows) h1 h2 h3 h4 h5
     (fun m => by
      have := hrep.up mF (fun _ => rfl)
      obtain ⟨g1, g2, g3, g4, g5⟩ := this
      exact ⟨g1, g2, g3, g4, g5⟩)
     (fun hn => by
      obtain ⟨g1, g2, g3⟩ := hfresh hn
      refine ⟨Nat.le_trans R.below.size g1, g2, ?_, fun o L' ho hn' e => by have := (R.own o L' ho hn').2.1; omega⟩
      rintro (hb | hb)
      ·exact g3 (hFr.1 _ hb)
      ·exact g3 hb)
    refine hK _ _ _ hk (hput R2 (ma.trans m2) ?_)
    refine .osl (updL_same _ _ _) hrep.1 (by have := hrep.2.1; omega) ?_ fun _ => hsv
    rcases hsv with ⟨_, _, _, rfl⟩ | ⟨_, _, ad, rfl, _⟩
    ·exact ⟨_, _, _, rfl⟩
    ·exact ⟨_, _, _, rfl⟩
   ·exact hk.elim
  ·by_cases hne : rows = []
   ·subst hne
    obtain ⟨Ra, ma⟩ := hfr hFr Fr (fun _ h => h)
    refine hK _ _ _ hk (hput Ra ma ?_)
    rcases hsv with ⟨_, _, _, rfl⟩ | ⟨_, _, ad, rfl, _⟩
    ·exact .slc0 _ _
    ·exact .slc0 _ _
   ·obtain ⟨g1, g2, g3, g4, g5⟩ := hrep
    rcases g5 with ⟨_, g6⟩ | ⟨g6, g7, g8, cc, e, fr, cv, g9, g10, g11, g12, g13, g14⟩
    ·exact absurd g6 hne
    obtain ⟨f1, f2, f3⟩ := hfresh g6
    obtain ⟨Ra, ma⟩ := hfr hFr Fr (fun _ h => h)
    obtain ⟨Rb, mb⟩ := Ra.freeze (b := L.blk) (Nat.le_trans R.below.size f1) f2 (fun o L' ho hn e => by have := (R.own o L' ho hn).2.1; omega)
    refine hK _ _ _ hk (hput Rb (ma.trans mb) ?_)
    rcases hsv with ⟨q, _⟩ | ⟨_, q1, ad, rfl, q2⟩
    ·rw [g6] at q; cases q
    ·have hst : L.st = 0 := by omega
     have hpos : 0 < rows.length := by
      cases rows with
      | nil => exact absurd rfl hne
      | cons _ _ => simp
     have hcap : 0 < L.cap := by omega
     have := q2 hcap
     subst this
     rw [hst] at g12
     simp only [List.drop_zero] at g12
     refine .slcN hne (by omega) (.inr rfl) ⟨⟨cc, e, fr, g9, fun j hj => by rw [← g13 j hj]; simp [hst]⟩, g14⟩ g4 g12.1 fun i c x h1 h2 => (g12.2 i c x h1 h2).mono (fun _ h => .inl (.inr h)) (fun _ _ => rfl) _ (LocExt.refl _)
 ·rename_i hno
  have hv : R1 w' Fr (fun _ => none) r v := by
   cases r <;> first | exact hr | exact absurd rfl (hno _ _)
  rcases hFr with hflat | hFr
  ·exact hK _ _ _ hk (hput R1' m1 (hv.ofFlat hflat _ _ _))
  ·obtain ⟨Ra, ma⟩ := hfr hFr Fr (fun _ h => h)
   exact hK _ _ _ hk (hput Ra ma (hv.mono (fun _ h => .inr h) (fun _ _ => rfl) _ (LocExt.ofNone _)))
theorem acall_sound {own : Bool} {forb : List Nat} {nw d : Option Nat} {f : Nat} {ps : List PV} {vs : List Value} {K : St → Prop} {K' : Act → World → Prop} {Q : Exit → Act → World → Prop} {o : Oper} (ho : o.dst = d) (R : RepW c F l s.ob w) (hs : SlotsOk w F l s a) (hm : Mono g.w g.F g.l w F l) (hdf : a.defers = []) (hsz : a.tmps.size = c.n) (hd : ∀ t, d = some t → t < c.n)
  (hps : RL w F l ps vs) (hk : ACall P own forb nw f ps d K s) (hK : ∀ s' a' w', K s' → Rep c g s' a' w' → K' a' w') (hrun : OkFn P f → (execOp a.eval o).run P w = .ok (.enter f vs.toArray) w) : o.wp P a w K' Q := by
 unfold ACall at hk
 split at hk
 ·rename_i hown
  obtain ⟨r, hp, hres⟩ := hk
  unfold Oper.wp
  rw [hrun hp.1, Oper.upon_enter]
  refine (hp.2 w F vs R.globOk R.flt (hps.noOwn hown _)).mono ?_
  rintro e w' ⟨v, F', rfl, hB, h1, h2, h3, hr⟩
  rw [ho]
  exact res_sound R hs hm hdf hsz hd hB hr (.inr ⟨h1, h2, h3⟩) hres hK
 ·split at hk
  ·rename_i qs hq
   obtain ⟨r, hp, hflat, hres⟩ := hk
   unfold Oper.wp
   rw [hrun hp.1, Oper.upon_enter]
   refine (hp.2 w (callF F l) vs R.globOk ?_ (snapL_sound R ps qs vs hq hps)).mono ?_
   ·rintro b (hb | ⟨o, L, h1, h2, h3⟩)
    ·exact R.flt b hb
    ·rw [← h3]; exact (R.own o L h1 h2).2.1
   ·rintro e w' ⟨v, F', rfl, hB, h1, h2, h3, hr⟩
    rw [ho]
    have hcF : ∀ b, F b → F' b := fun b hb => h1 b (.inl hb)
    obtain ⟨R1', m1⟩ := R.ext hB
    have hr' : RR w' F w.heap.size r v := by
     cases r with
     | own esz rows =>
      obtain ⟨L, ⟨g1, g2, g3, g4, g5⟩, hsv, hfr⟩ := (hr : OwnR w' F' w.heap.size esz rows v)
      have hfl : ∀ r ∈ rows, flatL r = true := by simpa [PV.flatR] using hflat
      refine (⟨L, ⟨g1, g2, g3, g4, ?_⟩, hsv, fun hn => ⟨(hfr hn).1, (hfr hn).2.1, fun hF => (hfr hn).2.2 (hcF _ hF)⟩⟩ : OwnR w' F w.heap.size esz rows v)
      rcases g5 with g5 | ⟨g5, g6, g7, cc, e, fr, cv, g8, g9, g10, g11, g12, g13⟩
      ·exact .inl g5
      ·refine .inr ⟨g5, g6, g7, cc, e, fr, cv, g8, g9, g10, ⟨g11.1, fun i c x hi hx => (g11.2 i c x hi hx).ofFlat ?_ _ _ _⟩, g12, g13⟩
       have hmem : c ∈ (rows.drop L.st).flatten := List.mem_of_getElem? hi
       obtain ⟨r, hr, hcr⟩ := List.mem_flatten.1 hmem
       exact (flatL_iff r).1 (hfl r (List.mem_of_mem_drop hr)) c hcr
     | _ => exact R1.ofFlat hr hflat _ _ _
    exact res_sound R hs hm hdf hsz hd hB hr' (.inr ⟨fun b hb => hb, fun b hb => .inl hb, R1'.flt⟩) hres hK
  ·exact hk.elim
theorem icall_sound {d : Option Nat} {f : Nat} {ps : List PV} {vs : List Value} {K : St → Prop} {K' : Act → World → Prop} {Q : Exit → Act → World → Prop} {o : Oper} (ho : o.dst = d) (R : RepW c F l s.ob w) (hs : SlotsOk w F l s a) (hm : Mono g.w g.F g.l w F l) (hdf : a.defers = []) (hsz : a.tmps.size = c.n) (hd : ∀ t, d = some t → t < c.n)
  (hps : RL w F l ps vs) (hk : ICall P f ps s.ob fun r ob => K (s.put d r ob)) (hK : ∀ s' a' w', K s' → Rep c g s' a' w' → K' a' w') (hrun : OkFn P f → (execOp a.eval o).run P w = .ok (.enter f vs.toArray) w) : o.wp P a w K' Q := by
 unfold Oper.wp
 rw [hrun hk.1.1, Oper.upon_enter]
 refine (hk.2 c w F l vs R hps).mono ?_
 rintro e w' ⟨v, r, ob', F', l', rfl, R', m', hv, hkk⟩
 rw [ho]
 exact hK _ _ _ hkk ⟨F', l', by rw [put_ob]; exact R', (hs.up m').put hv (fun t ht => by rw [hsz]; exact hd t ht), hm.trans m', by rw [put_defers]; exact hdf, by rw [put_tmps_size]; exact hsz⟩
theorem rcall_sound {d : Option Nat} {f : Nat} {ps : List PV} {vs : List Value} {K : St → Prop} {K' : Act → World → Prop} {Q : Exit → Act → World → Prop} {o : Oper} (ho : o.dst = d) (R : RepW c F l s.ob w) (hs : SlotsOk w F l s a) (hm : Mono g.w g.F g.l w F l) (hdf : a.defers = []) (hsz : a.tmps.size = c.n) (hd : ∀ t, d = some t → t < c.n)
  (hps : RL w F l ps vs) (hk : ∃ r, RCall P f ps s.ob r ∧ K (s.put d r s.ob)) (hK : ∀ s' a' w', K s' → Rep c g s' a' w' → K' a' w') (hrun : OkFn P f → (execOp a.eval o).run P w = .ok (.enter f vs.toArray) w) : o.wp P a w K' Q := by
 obtain ⟨r, hr, hk⟩ := hk
 unfold Oper.wp
 rw [hrun hr.1, Oper.upon_enter]
 refine (hr.2 c w F l vs R hps).mono ?_
 rintro e w' ⟨v, F', rfl, R', m', hv⟩
 rw [ho]
 exact hK _ _ _ hk ⟨F', l, by rw [put_ob]; exact R', (hs.up m').put hv (fun t ht => by rw [hsz]; exact hd t ht), hm.trans m', by rw [put_defers]; exact hdf, by rw [put_tmps_size]; exact hsz⟩
def compA (P : Program) (own : List Nat) (n : Nat) (ops : Array Oper) (o : Oper) : Option AOp :=
 match compAny P own o with
 | some ao =>
  if o.dst.all (fun d => decide (d < n)) then
   match o.guard with
   | none => some { dst := o.dst, ao }
   | some (j, want) =>
    match (ops[j]?).bind (·.dst) with
    | some g => some { dst := o.dst, ao, guard := some (g, want) }
    | none => none
  else none
 | none => none
theorem okFn_spec {f : Nat} (h : okFn P f = true) : OkFn P f := by
 unfold okFn at h
 split at h
 ·rename_i fn hfn
  simp only [Bool.and_eq_true, Bool.not_eq_true'] at h
  exact ⟨fn, hfn, h.1, h.2⟩
 ·cases h
theorem opns_sound {s : St} {a : Act} {w : World} {F : Nat → Prop} {l : Locs} (hs : SlotsOk w F l s a) (b : Bool) : ∀ xs : List Operand, RL w F l ((xs.map (opn b)).map s.val) (xs.map a.eval)
 | [] => RL.nil
 | x :: xs => .cons (opn_sound hs b x) (opns_sound hs b xs)
theorem exec_sound {own : List Nat} {Q : Exit → Act → World → Prop} {bs : Nat} {o : Oper} {ao : AO} {gd : Option (Nat × Bool)} {nw tgt : Option Nat} {forb : List Nat} {K : St → Prop} {K' : Act → World → Prop} (hao : compAny P own o = some ao) (hd : ∀ t, o.dst = some t → t < c.n) (hR : Rep c g s a w) (hk : AExec P bs { dst := o.dst, ao, guard := gd, nw, forb, tgt } K s)
  (hK : ∀ s' a' w', K s' → Rep c g s' a' w' → K' a' w') : o.wp P a w K' Q := by
 obtain ⟨F, l, R, hs, hm, hdf, hsz⟩ := hR
 unfold compAny at hao
 split at hao
 ·rename_i f args ts hop
  split at hao
  ·split at hao
   ·simp only [Option.some.injEq] at hao; subst hao
    simp only [AExec] at hk
    refine rcall_sound rfl R hs hm hdf hsz hd (vs := args.toList.map a.eval) (opxs_sound hs args.toList) hk hK fun hf => ?_
    have := call_run (P := P) (w := w) (a := a) (first := []) (cap := []) hop rfl hf
    simpa using this
   split at hao
   ·simp only [Option.some.injEq] at hao; subst hao
    simp only [AExec] at hk
    refine icall_sound rfl R hs hm hdf hsz hd (vs := args.toList.map a.eval) (opns_sound hs _ args.toList) hk hK fun hf => ?_
    have := call_run (P := P) (w := w) (a := a) (first := []) (cap := []) hop rfl hf
    simpa using this
   simp only [Option.some.injEq] at hao; subst hao
   simp only [AExec] at hk
   refine acall_sound rfl R hs hm hdf hsz hd (vs := args.toList.map a.eval) (opns_sound hs _ args.toList) hk hK fun hf => ?_
   have := call_run (P := P) (w := w) (a := a) (first := []) (cap := []) hop rfl hf
   simpa using this
  ·split at hao
   ·simp only [Option.some.injEq] at hao; subst hao
    simp only [AExec] at hk
    obtain ⟨v, r, ob', w', F', l', hrun, R', m', hv, hkk⟩ := hk.2 c w F l (args.toList.map a.eval) R (opxs_sound hs args.toList)
    unfold Oper.wp
    have e : (#[] ++ args.map a.eval ++ #[] : Array Value) = (args.toList.map a.eval).toArray := by apply Array.ext'; simp
    have h1 : (execOp a.eval o).run P w = .ok (.value v) w' := by
     simp only [execOp, hop, resolve, Deferred.ofValue, Act.eval, Sem.run_bind, Sem.run_pure, Result.andThen_ok, invoke, e, hrun]
    rw [h1, Oper.upon_value]
    exact hK _ _ _ hkk ⟨F', l', by rw [put_ob]; exact R', (hs.up m').put hv (fun t ht => by rw [hsz]; exact hd t ht), hm.trans m', by rw [put_defers]; exact hdf, by rw [put_tmps_size]; exact hsz⟩
   simp only [Option.some.injEq] at hao; subst hao; simp only [AExec, ev] at hk; exact hk.2.elim
 ·rename_i t args ts hop
  split at hao
  ·simp only [Option.some.injEq] at hao; subst hao
   simp only [AExec] at hk
   split at hk
   ·rename_i f first cap hv
    have hx := hs t
    rw [show s.sl t = .fn (.func f) first cap from hv] at hx
    generalize hxv : a.tmps.getD t undef = xv at hx
    cases hx with
    | @fn l f' p q xs ys hp1 hp2 hq1 hq2 =>
     refine icall_sound rfl R hs hm hdf hsz hd (vs := xs ++ (args.toList.map a.eval ++ ys)) ?_ hk hK fun hf => ?_
     ·exact (show RL w F l first xs from ⟨hp1, hp2⟩).append ((opxs_sound hs args.toList).append ⟨hq1, hq2⟩)
     ·exact call_run (P := P) (w := w) (a := a) hop hxv hf
   ·exact hk.elim
  simp only [Option.some.injEq] at hao; subst hao
  simp only [AExec] at hk
  split at hk
  ·rename_i f first cap hv
   have hx := hs t
   rw [show s.sl t = .fn (.func f) first cap from hv] at hx
   generalize hxv : a.tmps.getD t undef = xv at hx
   cases hx with
   | @fn l f' p q xs ys hp1 hp2 hq1 hq2 =>
    refine acall_sound rfl R hs hm hdf hsz hd (vs := xs ++ (args.toList.map a.eval ++ ys)) ?_ hk hK fun hf => ?_
    ·exact (show RL w F l first xs from ⟨hp1, hp2⟩).append ((opxs_sound hs args.toList).append ⟨hq1, hq2⟩)
    ·exact call_run (P := P) (w := w) (a := a) hop hxv hf
  ·exact hk.elim
 ·rename_i r nm args ts hop
  split at hao
  ·simp only [Option.some.injEq] at hao; subst hao
   simp only [AExec] at hk
   split at hk
   ·rename_i t p hv
    obtain ⟨f, hmt, hk⟩ := hk
    have hx := opx_sound hs r
    rw [hv] at hx
    generalize hxv : a.eval r = xv at hx
    cases hx with
    | @ifc _ _ _ v' hp =>
     refine rcall_sound rfl R hs hm hdf hsz hd (vs := v' :: args.toList.map a.eval) (.cons hp (opxs_sound hs args.toList)) hk hK fun hf => ?_
     exact invoke_run hop hxv hmt hf
   ·exact hk.elim
  simp only [Option.some.injEq] at hao; subst hao
  simp only [AExec] at hk
  split at hk
  ·rename_i t p hv
   obtain ⟨f, hmt, hk⟩ := hk
   have hx := opx_sound hs r
   rw [hv] at hx
   generalize hxv : a.eval r = xv at hx
   cases hx with
   | @ifc _ _ _ v' hp =>
    refine icall_sound rfl R hs hm hdf hsz hd (vs := v' :: args.toList.map a.eval) (.cons hp (opxs_sound hs args.toList)) hk hK fun hf => ?_
    exact invoke_run hop hxv hmt hf
  ·exact hk.elim
 ·split at hao
  ·-- slices over boxes: those that may change one
   rename_i ao' hc
   simp only [Option.some.injEq] at hao; subst hao
   unfold arrOn at hc
   split at hc
   ·obtain ⟨m, args, rfl⟩ := cArrM_mop hc
    simp only [AExec] at hk
    obtain ⟨pv, ob, ⟨v, w', F', l', hrun, R', hv, m'⟩, hk⟩ := cArrM_of hc R hs hk
    have hrep : Rep c g (s.put o.dst pv ob) (a.put o.dst v) w' :=
     ⟨F', l', by rw [put_ob]; exact R', (hs.up m').put hv (fun t ht => by rw [hsz]; exact hd t ht), hm.trans m', by rw [put_defers]; exact hdf, by rw [put_tmps_size]; exact hsz⟩
    unfold Oper.wp
    rcases hrun with h1 | ⟨h1, h2⟩
    ·rw [h1, Oper.upon_value]; exact hK _ _ _ hk hrep
    ·rw [h1, Oper.upon_skip]; subst h2; exact hK _ _ _ hk hrep
   ·cases hc
  split at hao
  ·-- and those that change none
   rename_i ao' hc
   simp only [Option.some.injEq] at hao; subst hao
   unfold arrOn at hc
   split at hc
   ·have hk2 : ∃ pv ob, ev (forb.map (rsv bs s)) (nw.map (bs + ·)) s ao' = some (pv, ob) ∧ K (s.put o.dst pv ob) := by
     rcases cArrE_isE hc with ⟨op, xs, rfl⟩ | ⟨z, n, ps, rfl⟩
     all_goals
      simp only [AExec] at hk
      replace hk := hk.2
      split at hk
      ·rename_i pv ob hev; exact ⟨pv, ob, hev, hk⟩
      ·exact hk.elim
    obtain ⟨pv, ob, hev, hk⟩ := hk2
    obtain ⟨v, w', F', l', hrun, R', hv, m'⟩ := arr_sound hc R hs hev
    have hrep : Rep c g (s.put o.dst pv ob) (a.put o.dst v) w' :=
     ⟨F', l', by rw [put_ob]; exact R', (hs.up m').put hv (fun t ht => by rw [hsz]; exact hd t ht), hm.trans m', by rw [put_defers]; exact hdf, by rw [put_tmps_size]; exact hsz⟩
    unfold Oper.wp
    rcases hrun with h1 | ⟨h1, h2⟩
    ·rw [h1, Oper.upon_value]; exact hK _ _ _ hk hrep
    ·rw [h1, Oper.upon_skip]; subst h2; exact hK _ _ _ hk hrep
   ·cases hc
  split at hao
  ·-- maps
   rename_i ao' hc
   simp only [Option.some.injEq] at hao; subst hao
   obtain ⟨m, args, rfl⟩ := cMop_mop hc
   simp only [AExec] at hk
   obtain ⟨pv, ob, ⟨v, w', F', l', hrun, R', hv, m'⟩, hk⟩ := mop_sound hc R hs hk
   have hrep : Rep c g (s.put o.dst pv ob) (a.put o.dst v) w' :=
    ⟨F', l', by rw [put_ob]; exact R', (hs.up m').put hv (fun t ht => by rw [hsz]; exact hd t ht), hm.trans m', by rw [put_defers]; exact hdf, by rw [put_tmps_size]; exact hsz⟩
   unfold Oper.wp
   rcases hrun with h1 | ⟨h1, h2⟩
   ·rw [h1, Oper.upon_value]; exact hK _ _ _ hk hrep
   ·rw [h1, Oper.upon_skip]; subst h2; exact hK _ _ _ hk hrep
  split at hao
  ·rename_i ao' hc
   split at hao
   ·simp only [Option.some.injEq] at hao; subst hao; simp only [AExec, ev] at hk; exact hk.2.elim
   ·rename_i hnc
    simp only [Option.some.injEq] at hao; subst hao
    unfold AExec at hk
    simp only [] at hk
    split at hk
    ·simp [AO.isCall] at hnc
    ·simp [AO.isCall] at hnc
    ·simp [AO.isCall] at hnc
    ·simp [AO.isCall] at hnc
    ·simp [AO.isCall] at hnc
    ·simp [AO.isCall] at hnc
    ·simp [AO.isCall] at hnc
    ·simp [AO.isCall] at hnc
    ·simp [AO.isCall] at hnc
    ·replace hk := hk.2
     split at hk
     ·rename_i pv ob hev
      obtain ⟨v, w', F', l', hrun, R', hv, m'⟩ := ev_sound hc R hs hev
      have hrep : Rep c g (s.put o.dst pv ob) (a.put o.dst v) w' :=
       ⟨F', l', by rw [put_ob]; exact R', (hs.up m').put hv (fun t ht => by rw [hsz]; exact hd t ht), hm.trans m', by rw [put_defers]; exact hdf, by rw [put_tmps_size]; exact hsz⟩
      unfold Oper.wp
      rcases hrun with h1 | ⟨h1, h2⟩
      ·rw [h1, Oper.upon_value]; exact hK _ _ _ hk hrep
      ·rw [h1, Oper.upon_skip]; subst h2; exact hK _ _ _ hk hrep
     ·exact hk.elim
  ·simp only [Option.some.injEq] at hao; subst hao; simp only [AExec, ev] at hk; exact hk.2.elim
theorem astep_sound {own : List Nat} {ops : Array Oper} {Q : Exit → Act → World → Prop} {i bs : Nat} {o : Oper} {ap : AOp} {nw tgt : Option Nat} {forb : List Nat} {K : St → Prop} {K' : Act → World → Prop} (hi : ops[i]? = some o) (hc : compA P own c.n ops o = some ap) (hR : Rep c g s a w) (hk : AStep P bs { ap with nw, forb, tgt } K s)
  (hK : ∀ s' a' w', K s' → Rep c g s' a' w' → K' a' w') : wpOp P ops Q i K' a w := by
 unfold wpOp
 simp only [hi]
 unfold compA at hc
 split at hc
 ·rename_i ao hao
  split at hc
  ·rename_i hdst
   have hd : ∀ t, o.dst = some t → t < c.n := by
    intro t ht
    rw [ht] at hdst
    simpa using hdst
   split at hc
   ·rename_i hg
    simp only [Option.some.injEq] at hc; subst hc
    have hw : Region.wanted o (yielded ops a.tmps) = true := by simp [Region.wanted, hg]
    rw [if_pos hw]
    exact .inl (exec_sound (gd := none) hao hd hR hk hK)
   ·rename_i j want hg
    split at hc
    ·rename_i gs hgs
     simp only [Option.some.injEq] at hc; subst hc
     simp only [AStep] at hk
     have hyld : ∀ t, gdec (s.sl gs) want = some t → (yielded ops a.tmps j == some want) = t := by
      intro t ht
      obtain ⟨F, l, R, hs, hm, hdf, hsz⟩ := hR
      have hx := hs gs
      unfold yielded
      rw [hgs]
      simp only [Option.bind_some]
      by_cases hlt : gs < a.tmps.size
      ·have he : a.tmps[gs]? = some (a.tmps.getD gs undef) := by
        rw [Array.getElem?_eq_getElem hlt]
        congr 1
        simp [hlt]
       rw [he]
       generalize s.sl gs = y at ht hx
       unfold gdec at ht
       split at ht
       ·have hv := hx.bool_inv
        rw [hv]
        simp only [Option.some.injEq] at ht
        rw [← ht]
        rename_i b
        cases b <;> cases want <;> rfl
       ·obtain ⟨xs, hv, hxs⟩ := hx.tup_inv
        rw [hv]
        simp only [Option.some.injEq] at ht
        rw [← ht]
        rfl
       ·cases ht
      ·have he : a.tmps[gs]? = none := by simp at hlt; simp [hlt]
       rw [he]
       have hu : a.tmps.getD gs undef = undef := by simp [hlt]
       rw [hu] at hx
       generalize s.sl gs = y at ht hx
       unfold gdec at ht
       split at ht
       ·have hv := hx.bool_inv; cases hv
       ·simp only [Option.some.injEq] at ht
        rw [← ht]
        rfl
       ·cases ht
     split at hk
     ·rename_i ht
      have hw : Region.wanted o (yielded ops a.tmps) = true := by simp only [Region.wanted, hg]; exact hyld _ ht
      rw [if_pos hw]
      exact .inl (exec_sound (gd := some (gs, want)) hao hd hR hk hK)
     ·rename_i ht
      have hw : Region.wanted o (yielded ops a.tmps) = false := by simp only [Region.wanted, hg]; exact hyld _ ht
      rw [hw]
      simp only [Bool.false_eq_true, if_false]
      refine hK _ _ _ hk ?_
      obtain ⟨F, l, R, hs, hm, hdf, hsz⟩ := hR
      exact ⟨F, l, by rw [put_ob]; exact R, hs.put (.tup rfl fun i c x h => by simp at h) (fun t ht => by rw [hsz]; exact hd t ht), hm, by rw [put_defers]; exact hdf, by rw [put_tmps_size]; exact hsz⟩
     ·exact hk.elim
    ·cases hc
  ·cases hc
 ·cases hc
theorem aops_sound {own : List Nat} {ops : Array Oper} {Q : Exit → Act → World → Prop} {bs : Nat} {K : St → Prop} (hQ : ∀ s' a' w', K s' → Rep c g s' a' w' → Q .normal a' w') : ∀ (aps : List AOp) (k : Nat) (s : St) (a : Act) (w : World),
  (∀ j ap, aps[j]? = some ap → ∃ o, ops[k + j]? = some o ∧ compA P own c.n ops o = some ap) → Rep c g s a w → AOps P bs aps K s → wpOps P ops Q (List.range' k aps.length) a w
 | [], k, s, a, w, _, hR, hk => by
  simp only [List.length_nil, List.range'_zero, wpOps]
  exact hQ _ _ _ hk hR
 | ap :: aps, k, s, a, w, h, hR, hk => by
  rw [List.length_cons, List.range'_succ, wpOps_cons]
  obtain ⟨o, ho, hc⟩ := h 0 ap rfl
  simp only [AOps] at hk
  have hap : ap = { ap with nw := none, forb := [], tgt := none } := by
   unfold compA at hc
   split at hc
   ·split at hc
    ·split at hc
     ·simp only [Option.some.injEq] at hc; subst hc; rfl
     ·split at hc
      ·simp only [Option.some.injEq] at hc; subst hc; rfl
      ·cases hc
    ·cases hc
   ·cases hc
  rw [hap] at hk
  refine astep_sound ho hc hR hk fun s' a' w' hk' hR' => ?_
  exact aops_sound hQ aps (k + 1) s' a' w' (fun j ap' hj => by have := h (j + 1) ap' (by simpa using hj); rwa [show k + (j + 1) = k + 1 + j by omega] at this) hR' hk'
end
end Go.Proofs.YtdgpiobmncohjaaGreatDoor.Aw
