/-
 That the walk through abstract code tells the truth: whole code, results, and the contract of a function.
-/
import Derived.Test.YtdgpiobmncohjaaGreatDoorKai
set_option linter.all false
namespace Go.Proofs.YtdgpiobmncohjaaGreatDoor.Aw
open Go.RowKit
theorem wp_loop_ghost {P : Program} {Q : Exit → Act → World → Prop} {c : Code} (I : Nat → Act → World → Prop) (round : ∀ m a w, I m a w → c.wp P (Exit.then (fun a' w' => ∃ m', m' < m ∧ I m' a' w') Q) a w) :
  ∀ m a w, I m a w → (Code.loop c).wp P Q a w := by
 intro m0 a0 w0 h0 b k cs
 have key : ∀ m a w, I m a w → ∃ e a' w', Q e a' w' ∧ Arrives P (lone (b.at a (.code c :: .inLoop c :: k)) cs w) b k cs e a' w' := by
  intro m
  induction m using Nat.strongRecOn with
  | _ m ih =>
   intro a w hI
   obtain ⟨e, a₁, w₁, hq, harr⟩ := round m a w hI b (.inLoop c :: k) cs
   cases e with
   | normal =>
    obtain ⟨m', hlt, hI₁⟩ := hq
    obtain ⟨e₂, a₂, w₂, hq₂, harr₂⟩ := ih m' hlt a₁ w₁ hI₁
    exact ⟨e₂, a₂, w₂, hq₂, .of_steps (Steps.trans harr (.one step_inLoop)) harr₂⟩
   | exit id => exact ⟨_, a₁, w₁, hq, .pass (x := .inLoop c) rfl (fun _ _ => .inl (by simp)) harr⟩
   | goto l => exact ⟨_, a₁, w₁, hq, .pass (x := .inLoop c) rfl (fun _ _ => .inl (by simp)) harr⟩
   | ret => exact ⟨_, a₁, w₁, hq, .pass (x := .inLoop c) rfl (fun _ _ => .inl (by simp)) harr⟩
   | panic ch => exact ⟨_, a₁, w₁, hq, .pass (x := .inLoop c) rfl (fun _ _ => .inl (by simp)) harr⟩
   | outgrown => exact ⟨_, a₁, w₁, hq, .pass (x := .inLoop c) rfl (fun _ _ => .inl (by simp)) harr⟩
 obtain ⟨e, a', w', hq, harr⟩ := key m0 a0 w0 h0
 exact ⟨e, a', w', hq, .of_steps (.one step_loop) harr⟩
def cutL (n : Nat) (l : Locs) : Locs := fun o => if o < n then l o else none
theorem undL_iff {n : Nat} : ∀ (ps : List PV), undL n ps = true ↔ ∀ p ∈ ps, p.und n = true
 | [] => by simp [undL]
 | p :: r => by simp [undL, undL_iff r]
theorem R1.cut {w : World} {F : Nat → Prop} {l : Locs} {n : Nat} {p : PV} {v : Value} (h : R1 w F l p v) : p.und n = true → R1 w F (cutL n l) p v := by
 induction h with
 | bot v => exact fun _ => .bot v
 | int k n => exact fun _ => .int k n
 | bool b => exact fun _ => .bool b
 | str s => exact fun _ => .str s
 | agg hl _ ih => exact fun ho => .agg hl fun i c x hc hx => ih i c x hc hx ((undL_iff _).1 (by simpa [PV.und] using ho) c (List.mem_of_getElem? hc))
 | tup hl _ ih => exact fun ho => .tup hl fun i c x hc hx => ih i c x hc hx ((undL_iff _).1 (by simpa [PV.und] using ho) c (List.mem_of_getElem? hc))
 | nils => exact fun _ => .nils
 | slc0 a cap => exact fun _ => .slc0 a cap
 | slcN h1 h2 h3 h4 h5 h6 h7 _ => exact fun _ => .slcN h1 h2 h3 h4 h5 h6 h7
 | osl ho hb hn hv h => intro hu; simp only [PV.und, decide_eq_true_eq] at hu; exact .osl (by simp [cutL, hu, ho]) hb hn hv h
 | ref ho hb => intro hu; simp only [PV.und, decide_eq_true_eq] at hu; exact .ref (by simp [cutL, hu, ho]) hb
 | lref ho hb hn hv h => intro hu; simp [PV.und] at hu
 | bsl ho hb hn => intro hu; simp only [PV.und, decide_eq_true_eq] at hu; exact .bsl (by simp [cutL, hu, ho]) hb hn
 | fptr h1 h2 h3 h4 _ => exact fun _ => .fptr h1 h2 h3 h4
 | nilp => exact fun _ => .nilp
 | fn hp _ hq _ ih1 ih2 =>
  intro ho
  simp only [PV.und, Bool.and_eq_true] at ho
  exact .fn hp (fun i c x h1 h2 => ih1 i c x h1 h2 ((undL_iff _).1 ho.1 c (List.mem_of_getElem? h1))) hq fun i c x h1 h2 => ih2 i c x h1 h2 ((undL_iff _).1 ho.2 c (List.mem_of_getElem? h1))
 | nilf => exact fun _ => .nilf
 | ifc _ ih => exact fun ho => .ifc (ih (by simpa [PV.und] using ho))
 | nili => exact fun _ => .nili
 | mp ho hb => intro hu; simp only [PV.und, decide_eq_true_eq] at hu; exact .mp (by simp [cutL, hu, ho]) hb
 | nilm => exact fun _ => .nilm
 | asl ho hb hn ha => intro hu; simp only [PV.und, decide_eq_true_eq] at hu; exact .asl (by simp [cutL, hu, ho]) hb hn ha
theorem R1.cutV {w : World} {F : Nat → Prop} {l : Locs} (n : Nat) {p : PV} {v : Value} (h : R1 w F l p v) : R1 w F (cutL n l) (cutV n p) v := by
 unfold Aw.cutV
 split
 ·rename_i hu; exact h.cut hu
 ·exact .bot v
theorem RL.cutV {w : World} {F : Nat → Prop} {l : Locs} (n : Nat) {ps : List PV} {vs : List Value} (h : RL w F l ps vs) : RL w F (cutL n l) (ps.map (Aw.cutV n)) vs := by
 refine ⟨by simpa using h.1, fun i c x hc hx => ?_⟩
 rw [List.getElem?_map] at hc
 cases hp : ps[i]? with
 | none => simp [hp] at hc
 | some p =>
  simp only [hp, Option.map_some, Option.some.injEq] at hc
  subst hc
  exact (h.2 i p x hp hx).cutV n
theorem keep_sound {c : Ctx} {g : Start} {s : St} {a : Act} {w : World} (L : List Nat) (n : Nat) (hn : g.base ≤ n) (h : Rep c g s a w) : Rep c g (s.keep L n) a w := by
 obtain ⟨F, l, R, hs, hm, hdf, hsz⟩ := h
 refine ⟨F, cutL n l, ⟨R.below, R.f0, R.fn, R.flt, ?_, ?_, ?_, ?_⟩, ?_, ⟨hm.frz, hm.heap, fun o L ho => ?_⟩, hdf, hsz⟩
 ·intro o L' ho
  unfold cutL at ho
  split at ho
  ·have := R.lt o L' ho; simp [St.keep]; omega
  ·cases ho
 ·intro o ao ho
  simp only [St.keep, List.getElem?_map, List.getElem?_take] at ho
  split at ho
  ·rename_i hlt
   cases hob : s.ob[o]? with
   | none => simp [hob] at ho
   | some b =>
    simp only [hob, Option.map_some, Option.some.injEq] at ho
    subst ho
    rcases R.objs o b hob with ⟨rfl, h2⟩ | ⟨L', h1, h2⟩
    ·exact .inl ⟨rfl, by simp [cutL, hlt, h2]⟩
    ·refine .inr ⟨L', by simp [cutL, hlt, h1], ?_⟩
     cases b with
     | none => exact h2
     | box cells =>
      obtain ⟨g1, g2, cv, e, g3, g4, g5⟩ := h2
      exact ⟨g1, g2, cv, e, g3, g4.cutV n, g5⟩
     | tbox t cells =>
      obtain ⟨g1, g2, cv, g3, g4, g5⟩ := h2
      exact ⟨g1, g2, cv, g3, g4.cutV n, g5⟩
     | buf u bs => exact h2
     | junk => exact h2
     | map ck es =>
      obtain ⟨g1, g2, ms, g3, g4⟩ := h2
      refine ⟨g1, g2, ms, g3, by simpa using g4.1, fun i e x hi hx => ?_⟩
      rw [List.getElem?_map] at hi
      cases hp : es[i]? with
      | none => simp [hp] at hi
      | some q =>
       simp only [hp, Option.map_some, Option.some.injEq] at hi
       subst hi
       have := g4.2 i q x hp hx
       exact ⟨this.1, this.2.1, this.2.2.cutV n⟩
     | iter m a b d =>
      simp only [cutO]
      split
      ·rename_i hm
       obtain ⟨g1, g2, Lm, g3, g4, g5⟩ := h2
       exact ⟨g1, g2, Lm, by simp [cutL, hm, g3], g4, g5⟩
      ·exact .inl h2.1
     | list esz rows => exact h2
  ·cases ho
 ·intro o L' ho hn
  unfold cutL at ho
  split at ho
  ·exact R.own o L' ho hn
  ·cases ho
 ·intro o o' L1 L2 ho ho' hn hn' hb
  unfold cutL at ho ho'
  split at ho <;> split at ho'
  ·exact R.inj o o' L1 L2 ho ho' hn hn' hb
  ·cases ho'
  ·cases ho
  ·cases ho
 ·intro t
  simp only [St.keep]
  have key : ∀ (ts : List Nat), R1 w F (cutL n l) (ofL (ts.map fun t => (t, Aw.cutV n (s.sl t))) t) (a.tmps.getD t undef) := by
   intro ts
   induction ts with
   | nil => exact .bot _
   | cons u us ih =>
    simp only [List.map_cons, ofL]
    split
    ·rename_i e; subst e; exact (hs t).cutV n
    ·exact ih
  exact key L
 ·obtain ⟨L', h1, h2⟩ := hm.loc o L ho
  exact ⟨L', by simp [cutL, Nat.lt_of_lt_of_le (g.h o L ho) hn, h1], h2⟩
theorem keepA_sound {c : Ctx} {g : Start} {s : St} {a : Act} {w : World} (L : List Nat) (h : Rep c g s a w) : Rep c g (s.keepA L) a w := by
 obtain ⟨F, l, R, hs, hm, hdf, hsz⟩ := h
 refine ⟨F, l, R, ?_, hm, hdf, hsz⟩
 intro t
 have key : ∀ (ts : List Nat), R1 w F l (ofL (ts.map fun t => (t, s.sl t)) t) (a.tmps.getD t undef) := by
  intro ts
  induction ts with
  | nil => exact .bot _
  | cons u us ih =>
   simp only [List.map_cons, ofL]
   split
   ·rename_i e; subst e; exact hs t
   ·exact ih
 exact key L
theorem keepB_sound {c : Ctx} {g : Start} {s : St} {a : Act} {w : World} (L : List Nat) (bb n : Nat) (hn : g.base ≤ bb + n) (h : Rep c g s a w) : Rep c g (s.keepB L bb n) a w := by
 unfold St.keepB
 split
 ·exact keepA_sound L h
 ·exact keep_sound L _ hn h
def compOps (P : Program) (own : List Nat) (n : Nat) (ops : Array Oper) : Option (List AOp) := ops.toList.mapM (compA P own n ops)
def compC (P : Program) (own : List Nat) (n : Nat) (dr : Array Oper → Option AC) : Code → List (List Nat × Nat) → Option (AC × List (List Nat × Nat))
 | .skip, h => some (.skip, h)
 | .label _, h => some (.skip, h)
 | .region _ ops false, h => (compOps P own n ops).map fun aps => (.reg aps, h)
 | .region _ ops true, h => (dr ops).map fun ac => (ac, h)
 | .seq a b, h =>
  match compC P own n dr a h with
  | some (a', h1) => match compC P own n dr b h1 with
   | some (b', h2) => some (.seq a' b', h2)
   | none => none
  | none => none
 | .cond c a b, h =>
  match compC P own n dr a h with
  | some (a', h1) => match compC P own n dr b h1 with
   | some (b', h2) => some (.cond (opx c) a' b', h2)
   | none => none
  | none => none
 | .block id b, h => (compC P own n dr b h).map fun (b', h1) => (.block id b', h1)
 | .loop b, h =>
  match h with
  | (L, k) :: h1 => (compC P own n dr b h1).map fun (b', h2) => (.loop L k b', h2)
  | [] => none
 | .exit id, h => some (.exit id, h)
 | .ret, h => some (.ret, h)
 | _, h => some (.fail, h)
def conv (c : Ctx) (g : Start) (Q : Ex → St → Prop) : Exit → Act → World → Prop
 | .normal, a, w => ∃ s, Q .n s ∧ Rep c g s a w
 | .exit id, a, w => ∃ s, Q (.x id) s ∧ Rep c g s a w
 | .ret, a, w => ∃ s, Q .r s ∧ Rep c g s a w
 | _, _, _ => False
def DrSound (P : Program) (own : List Nat) (c : Ctx) (g : Start) (dr : Array Oper → Option AC) : Prop :=
 ∀ ops ac, dr ops = some ac → ∀ id Q s a w, AWP P g.base ac Q s → Rep c g s a w → (Code.region id ops true).wp P (conv c g Q) a w
theorem mapM_get {α β : Type} (f : α → Option β) : ∀ (xs : List α) (ys : List β), xs.mapM f = some ys → ∀ (j : Nat) y, ys[j]? = some y → ∃ x, xs[j]? = some x ∧ f x = some y
 | [], ys, h, j, y, hy => by
  simp only [List.mapM_nil, Option.pure_def, Option.some.injEq] at h; subst h; simp at hy
 | x :: xs, ys, h, j, y, hy => by
  simp only [List.mapM_cons, Option.bind_eq_bind, Option.pure_def, Option.bind_eq_some_iff, Option.some.injEq] at h
  obtain ⟨y0, h1, ys', h2, rfl⟩ := h
  cases j with
  | zero => simp only [List.getElem?_cons_zero, Option.some.injEq] at hy; subst hy; exact ⟨x, rfl, h1⟩
  | succ j => exact mapM_get f xs ys' h2 j y (by simpa using hy)
theorem mapM_length {α β : Type} (f : α → Option β) : ∀ (xs : List α) (ys : List β), xs.mapM f = some ys → ys.length = xs.length
 | [], ys, h => by simp only [List.mapM_nil, Option.pure_def, Option.some.injEq] at h; subst h; rfl
 | x :: xs, ys, h => by
  simp only [List.mapM_cons, Option.bind_eq_bind, Option.pure_def, Option.bind_eq_some_iff, Option.some.injEq] at h
  obtain ⟨y0, h1, ys', h2, rfl⟩ := h
  simp [mapM_length f xs ys' h2]
theorem code_sound {P : Program} {own : List Nat} {c : Ctx} {g : Start} {dr : Array Oper → Option AC} (hdr : DrSound P own c g dr) : ∀ (code : Code) (h : List (List Nat × Nat)) (ac : AC) (h' : List (List Nat × Nat)), compC P own c.n dr code h = some (ac, h') →
  ∀ (Q : Ex → St → Prop) (s : St) (a : Act) (w : World), AWP P g.base ac Q s → Rep c g s a w → code.wp P (conv c g Q) a w
 | .skip, h, ac, h', hc, Q, s, a, w, hk, hR => by
  simp only [compC, Option.some.injEq, Prod.mk.injEq] at hc; obtain ⟨rfl, rfl⟩ := hc
  exact wp_skip ⟨s, hk, hR⟩
 | .label _, h, ac, h', hc, Q, s, a, w, hk, hR => by
  simp only [compC, Option.some.injEq, Prod.mk.injEq] at hc; obtain ⟨rfl, rfl⟩ := hc
  exact wp_label ⟨s, hk, hR⟩
 | .region id ops false, h, ac, h', hc, Q, s, a, w, hk, hR => by
  simp only [compC, Option.map_eq_some_iff, Prod.mk.injEq] at hc
  obtain ⟨aps, haps, rfl, rfl⟩ := hc
  refine wp_region ?_
  have hl := mapM_length _ _ _ haps
  have hl' : aps.length = ops.size := by simpa using hl
  rw [← hl', List.range_eq_range']
  refine aops_sound (own := own) (c := c) (K := Q .n) (fun s' a' w' h1 h2 => ⟨s', h1, h2⟩) aps 0 s a w (fun j ap hj => ?_) hR hk
  obtain ⟨o, h1, h2⟩ := mapM_get _ _ _ haps j ap hj
  exact ⟨o, by rw [Nat.zero_add]; simpa using h1, h2⟩
 | .region id ops true, h, ac, h', hc, Q, s, a, w, hk, hR => by
  simp only [compC, Option.map_eq_some_iff, Prod.mk.injEq] at hc
  obtain ⟨ac', hac, rfl, rfl⟩ := hc
  exact hdr ops ac' hac id Q s a w hk hR
 | .seq x y, h, ac, h', hc, Q, s, a, w, hk, hR => by
  simp only [compC] at hc
  split at hc
  ·rename_i x' h1 hx
   split at hc
   ·rename_i y' h2 hy
    simp only [Option.some.injEq, Prod.mk.injEq] at hc; obtain ⟨rfl, rfl⟩ := hc
    refine wp_seq (wp_mono (code_sound hdr x h x' h1 hx _ s a w hk hR) fun e a' w' hh => ?_)
    cases e <;> first | exact hh.elim | skip
    ·obtain ⟨s', g1, g2⟩ := hh; exact code_sound hdr y h1 y' h2 hy Q s' a' w' g1 g2
    ·obtain ⟨s', g1, g2⟩ := hh; exact ⟨s', g1, g2⟩
    ·obtain ⟨s', g1, g2⟩ := hh; exact ⟨s', g1, g2⟩
   ·cases hc
  ·cases hc
 | .cond x y z, h, ac, h', hc, Q, s, a, w, hk, hR => by
  simp only [compC] at hc
  split at hc
  ·rename_i y' h1 hy
   split at hc
   ·rename_i z' h2 hz
    simp only [Option.some.injEq, Prod.mk.injEq] at hc; obtain ⟨rfl, rfl⟩ := hc
    simp only [AWP] at hk
    split at hk
    ·rename_i t ht
     obtain ⟨F, l, R, hs, hm, hdf, hsz⟩ := hR
     have hx := opx_sound hs x
     rw [ht] at hx
     have hR' : Rep c g s a w := ⟨F, l, R, hs, hm, hdf, hsz⟩
     cases t with
     | true => exact wp_cond_true hx.bool_inv (code_sound hdr y h y' h1 hy Q s a w (hk.1 rfl) hR')
     | false => exact wp_cond_false hx.bool_inv (code_sound hdr z h1 z' h2 hz Q s a w (hk.2 rfl) hR')
    ·exact hk.elim
   ·cases hc
  ·cases hc
 | .block id x, h, ac, h', hc, Q, s, a, w, hk, hR => by
  simp only [compC, Option.map_eq_some_iff, Prod.mk.injEq] at hc
  obtain ⟨⟨x', h1⟩, hx, rfl, rfl⟩ := hc
  refine wp_block (wp_mono (code_sound hdr x h x' h1 hx _ s a w hk hR) fun e a' w' hh => ?_)
  cases e <;> first | exact hh.elim | skip
  ·obtain ⟨s', g1, g2⟩ := hh; exact ⟨s', g1, g2⟩
  ·rename_i j
   obtain ⟨s', g1, g2⟩ := hh
   simp only [kblk] at g1
   simp only [Exit.inBlock]
   split
   ·rename_i e; rw [if_pos e] at g1; exact ⟨s', g1, g2⟩
   ·rename_i e; rw [if_neg e] at g1; exact ⟨s', g1, g2⟩
  ·obtain ⟨s', g1, g2⟩ := hh; exact ⟨s', g1, g2⟩
 | .loop x, h, ac, h', hc, Q, s, a, w, hk, hR => by
  cases h with
  | nil => simp [compC] at hc
  | cons Lk h0 =>
   obtain ⟨L, k⟩ := Lk
   simp only [compC, Option.map_eq_some_iff, Prod.mk.injEq] at hc
   obtain ⟨⟨x', h1⟩, hx, rfl, rfl⟩ := hc
   simp only [AWP] at hk
   obtain ⟨I, μ, hI, hround⟩ := hk
   refine wp_loop_ghost (fun m a w => ∃ s, I s ∧ μ s = m ∧ Rep c g s a w) ?_ _ a w ⟨_, hI, rfl, keepB_sound L _ _ (Nat.le_add_right _ _) hR⟩
   rintro m a w ⟨s, hIs, rfl, hRs⟩
   refine wp_mono (code_sound hdr x h0 x' h1 hx _ s a w (hround s hIs) hRs) fun e a' w' hh => ?_
   cases e <;> first | exact hh.elim | skip
   ·obtain ⟨s', g1, g2⟩ := hh; exact ⟨_, g1.2, _, g1.1, rfl, keepB_sound L _ _ (Nat.le_add_right _ _) g2⟩
   ·obtain ⟨s', g1, g2⟩ := hh; exact ⟨s', g1, g2⟩
   ·obtain ⟨s', g1, g2⟩ := hh; exact ⟨s', g1, g2⟩
 | .exit id, h, ac, h', hc, Q, s, a, w, hk, hR => by
  simp only [compC, Option.some.injEq, Prod.mk.injEq] at hc; obtain ⟨rfl, rfl⟩ := hc
  exact wp_exit ⟨s, hk, hR⟩
 | .ret, h, ac, h', hc, Q, s, a, w, hk, hR => by
  simp only [compC, Option.some.injEq, Prod.mk.injEq] at hc; obtain ⟨rfl, rfl⟩ := hc
  exact wp_ret ⟨s, hk, hR⟩
 | .rangeFunc .., h, ac, h', hc, Q, s, a, w, hk, hR => by
  simp only [compC, Option.some.injEq, Prod.mk.injEq] at hc; obtain ⟨rfl, rfl⟩ := hc
  exact hk.elim
 | .scope _, h, ac, h', hc, Q, s, a, w, hk, hR => by
  simp only [compC, Option.some.injEq, Prod.mk.injEq] at hc; obtain ⟨rfl, rfl⟩ := hc
  exact hk.elim
 | .goto _, h, ac, h', hc, Q, s, a, w, hk, hR => by
  simp only [compC, Option.some.injEq, Prod.mk.injEq] at hc; obtain ⟨rfl, rfl⟩ := hc
  exact hk.elim
 | .refuse _, h, ac, h', hc, Q, s, a, w, hk, hR => by
  simp only [compC, Option.some.injEq, Prod.mk.injEq] at hc; obtain ⟨rfl, rfl⟩ := hc
  exact hk.elim
def compRes (P : Program) : ResultVar → Option ARV
 | .tmp t => some (.t t)
 | .cell a t => (nOf P t).map fun n => .c a n
theorem arv_sound {P : Program} {c : Ctx} {F : Nat → Prop} {l : Locs} {w : World} {s : St} {a : Act} {x : ResultVar} {y : ARV} {pv : PV} (hc : compRes P x = some y) (R : RepW c F l s.ob w) (hs : SlotsOk w F l s a) (he : y.val s = some pv) :
  ∃ v, ((match x with | .tmp t => pure (a.tmps.getD t undef) | .cell b t => do loadVar t (← asAddr (a.tmps.getD b undef)) : Sem Value)).run P w = .ok v w ∧ R1 w F l pv v := by
 cases x with
 | tmp t =>
  simp only [compRes, Option.some.injEq] at hc; subst hc
  simp only [ARV.val, Option.some.injEq] at he; subst he
  exact ⟨_, rfl, hs t⟩
 | cell b t =>
  simp only [compRes, Option.map_eq_some_iff] at hc
  obtain ⟨n, hn, rfl⟩ := hc
  unfold nOf at hn
  split at hn
  ·rename_i d hu
   split at hn
   ·rename_i hagg
    cases hi : P.info? t with
    | none => simp [hi] at hn
    | some i =>
     simp only [hi, Option.map_some, Option.some.injEq] at hn; subst hn
     simp only [ARV.val, Option.map_eq_some_iff] at he
     obtain ⟨cs, hcs, rfl⟩ := he
     obtain ⟨⟨blk, off, cvv, hv, hr, hcell, _⟩, hlen⟩ := ldC_sound R (hs b) hcs
     have hl : cvv.length = i.size := by rw [← hr.1, hlen]
     refine ⟨.agg cvv.toArray, ?_, R1.mkAgg hr⟩
     simp only [hv, asAddr, Sem.run_bind, Sem.run_pure, Result.andThen_ok, loadVar, isAgg_run hu, hagg, if_true, sizeOf_run hi, run_loadCells_ptr hl hcell]
   ·rename_i hagg
    simp only [Option.some.injEq] at hn; subst hn
    simp only [ARV.val] at he
    split at he
    ·rename_i v0 hld
     simp only [Option.some.injEq] at he; subst he
     obtain ⟨⟨blk, off, cvv, hv, hr, hcell, _⟩, hlen⟩ := ldC_sound R (hs b) hld
     obtain ⟨u, us, rfl, hu', hus⟩ := hr.cons_inv
     have hc0 := hcell 0 u rfl
     simp only [Nat.add_zero] at hc0
     refine ⟨u, ?_, hu'⟩
     simp only [hv, asAddr, Sem.run_bind, Sem.run_pure, Result.andThen_ok, loadVar, isAgg_run hu, hagg, Bool.false_eq_true, if_false, run_load, hc0]
    ·cases he
  ·cases hn
theorem retV_sound {c : Ctx} {F : Nat → Prop} {l : Locs} {w : World} {s : St} (R : RepW c F l s.ob w) {p r : PV} {v : Value} (h : retV s p = some r) (hp : R1 w F l p v) : ∃ F', (∀ b, F b → F' b) ∧ (∀ b, F' b → F b ∨ c.w0.heap.size ≤ b) ∧ (∀ b, F' b → b < w.heap.size) ∧ RR w F' c.w0.heap.size r v := by
 have hcf : (∀ b, F b → callF F l b) ∧ (∀ b, callF F l b → F b ∨ c.w0.heap.size ≤ b) ∧ (∀ b, callF F l b → b < w.heap.size) := by
  refine ⟨fun b hb => .inl hb, ?_, ?_⟩
  ·rintro b (hb | ⟨o, L, h1, h2, h3⟩)
   ·exact .inl hb
   ·exact .inr (h3 ▸ (R.own o L h1 h2).1)
  ·rintro b (hb | ⟨o, L, h1, h2, h3⟩)
   ·exact R.flt b hb
   ·exact h3 ▸ (R.own o L h1 h2).2.1
 have hgen : ∀ q, snap s.ob [] p = some q → (∀ e rs, q ≠ .own e rs) → ∃ F', (∀ b, F b → F' b) ∧ (∀ b, F' b → F b ∨ c.w0.heap.size ≤ b) ∧ (∀ b, F' b → b < w.heap.size) ∧ RR w F' c.w0.heap.size q v := by
  intro q hq hne
  refine ⟨callF F l, hcf.1, hcf.2.1, hcf.2.2, ?_⟩
  have := snap_sound R p q v hq hp
  cases q <;> first | exact this | exact absurd rfl (hne _ _)
 have hsn : ∀ (p q : PV), snap s.ob [] p = some q → ∀ e rs, q ≠ .own e rs := by
  intro p q hq e rs hqe
  subst hqe
  cases p <;> simp only [snap] at hq <;> (try (simp at hq; done))
  ·split at hq
   ·cases hq
   ·split at hq
    ·split at hq <;> cases hq
    ·cases hq
  ·split at hq <;> cases hq
 unfold retV at h
 split at h
 ·rename_i o i n
  split at h
  ·rename_i esz rows hob
   split at h
   ·rename_i hcur
    simp only [Option.some.injEq] at h; subst h
    cases hp with
    | @osl l o i n L v hl hb hn hv hh =>
     rcases R.objs o _ hob with g0 | ⟨L', g0, g1⟩
     ·simp at g0
     rw [hl] at g0; cases g0
     obtain ⟨g2, g3, g4, g5, g6⟩ := g1
     rcases hh (by omega) with ⟨k1, k2, k3, k4⟩ | ⟨k1, k2, ad, k3, k4⟩
     ·subst k2; subst k3; subst k4
      have hre : rows = [] := List.eq_nil_of_length_eq_zero (by omega)
      subst hre
      exact ⟨F, fun b hb => hb, fun b hb => .inl hb, R.flt, ⟨⟨0, 0, 0, 0, 0, esz, true, false⟩, ⟨rfl, rfl, rfl, by simp, .inl ⟨rfl, rfl⟩⟩, .inl ⟨rfl, rfl, rfl, rfl⟩, fun h => nomatch h⟩⟩
     ·subst k3
      rcases g6 with ⟨q, _⟩ | ⟨g6, g7, g8, cc, e, fr, cvv, g9, g10, g11, g12, g13, g14⟩
      ·rw [q] at k1; cases k1
      have hd : ∀ r ∈ rows.drop L.st, r.length = esz := fun r hr => g5 r (List.mem_of_mem_drop hr)
      have e1 : (rows.drop i).flatten = (rows.drop L.st).flatten.drop ((i - L.st) * esz) := by
       rw [← flatten_drop _ _ hd, List.drop_drop]; congr 2; omega
      have hoff : (i - L.st) * esz + (L.cap - i) * esz = (L.cap - L.st) * esz := by
       rw [← Nat.add_mul]; congr 1; omega
      have hlen : (rows.drop i).length = n := by simp; omega
      refine ⟨F, fun b hb => hb, fun b hb => .inl hb, R.flt, ⟨⟨L.blk, L.off + (i - L.st) * esz, 0, L.cap - i, n, esz, false, false⟩, ⟨rfl, hlen.symm, rfl, fun r hr => g5 r (List.mem_of_mem_drop hr), .inr ⟨rfl, Nat.zero_le _, by rw [hlen]; show n ≤ L.cap - i; omega, cc, e, fr, cvv.drop ((i - L.st) * esz), g9, g10, ?_, ?_, fun j hj => ?_, fun x hx => g14 x (List.mem_of_mem_drop hx)⟩⟩, .inr ⟨rfl, Nat.le_refl _, ad, by rw [hlen]; rfl, fun hlt => ?_⟩, fun _ => R.own o L hl k1⟩⟩
      ·show L.off + (i - L.st) * esz + (L.cap - i - 0) * esz ≤ cc.size
       rw [Nat.sub_zero]; omega
      ·show RL _ _ _ ((rows.drop i).drop 0).flatten _
       rw [List.drop_zero, e1]; exact g12.drop _
      ·show cc[L.off + (i - L.st) * esz + j]? = _
       rw [List.getElem?_drop, Nat.add_assoc]
       exact g13 _ (by simp at hj; omega)
      ·have hlt' : i < L.cap := by
        have : 0 < L.cap - i := hlt
        omega
       rw [k4 hlt', g4]; simp
   ·cases h
  ·cases h
 ·exact hgen r h (hsn _ _ h)
def resF (a : Act) : ResultVar → Sem Value
 | .tmp t => pure (a.tmps.getD t undef)
 | .cell b t => do loadVar t (← asAddr (a.tmps.getD b undef))
theorem results_run {P : Program} {w : World} {fn : Func} {a : Act} {vs : List Value} (h : (fn.results.toList.mapM (resF a)).run P w = .ok vs w) : (results fn a.tmps).run P w = .ok (if h : vs.length = 1 then vs[0] else .tuple vs.toArray) w := by
 have e : results fn a.tmps = (do let vs ← fn.results.mapM (resF a); pure (if h : vs.size = 1 then vs[0] else .tuple vs)) := by
  unfold results
  congr 1
 rw [e, Array.mapM_eq_mapM_toList]
 simp only [Sem.run_bind, Sem.run_map, h, Result.andThen_ok, Sem.run_pure, List.size_toArray]
 congr 1
theorem arvs_sound {P : Program} {c : Ctx} {F : Nat → Prop} {l : Locs} {w : World} {s : St} {a : Act} (R : RepW c F l s.ob w) (hs : SlotsOk w F l s a) : ∀ (xs : List ResultVar) (ys : List ARV) (ps : List PV), xs.mapM (compRes P) = some ys → ys.mapM (ARV.val s) = some ps → ∃ vs, (xs.mapM (resF a)).run P w = .ok vs w ∧ RL w F l ps vs
 | [], ys, ps, h1, h2 => by
  simp only [List.mapM_nil, Option.pure_def, Option.some.injEq] at h1; subst h1
  simp only [List.mapM_nil, Option.pure_def, Option.some.injEq] at h2; subst h2
  exact ⟨[], by simp, RL.nil⟩
 | x :: xs, ys, ps, h1, h2 => by
  simp only [List.mapM_cons, Option.bind_eq_bind, Option.pure_def, Option.bind_eq_some_iff, Option.some.injEq] at h1
  obtain ⟨y, hy, ys', hys, rfl⟩ := h1
  simp only [List.mapM_cons, Option.bind_eq_bind, Option.pure_def, Option.bind_eq_some_iff, Option.some.injEq] at h2
  obtain ⟨p, hp, ps', hps, rfl⟩ := h2
  obtain ⟨v, hv, hr⟩ := arv_sound (a := a) hy R hs hp
  obtain ⟨vs, hvs, hrs⟩ := arvs_sound R hs xs ys' ps' hys hps
  have hv' : (resF a x).run P w = .ok v w := by cases x <;> exact hv
  exact ⟨v :: vs, by simp [List.mapM_cons, hv', hvs], RL.cons hr hrs⟩
theorem fin_sound {P : Program} {c : Ctx} {g : Start} {w : World} {s : St} {a : Act} {fn : Func} {rs : List ARV} {r : PV} (hrs : fn.results.toList.mapM (compRes P) = some rs) (hR : Rep c g s a w) (h : retOf s rs = some r) :
  a.defers = [] ∧ ∃ v, (results fn a.tmps).run P w = .ok v w ∧ ∃ F', Below c.w0.heap.size c.w0 w ∧ (∀ b, c.F0 b → F' b) ∧ (∀ b, F' b → c.F0 b ∨ c.w0.heap.size ≤ b) ∧ (∀ b, F' b → b < w.heap.size) ∧ RR w F' c.w0.heap.size r v := by
 obtain ⟨F, l, R, hs, hm, hdf, hsz⟩ := hR
 refine ⟨hdf, ?_⟩
 unfold retOf at h
 split at h
 ·rename_i y
  simp only [Option.bind_eq_some_iff] at h
  obtain ⟨p, hp, hret⟩ := h
  obtain ⟨vs, hrun, hrl⟩ := arvs_sound (a := a) R hs fn.results.toList [y] [p] hrs (by simp [hp])
  obtain ⟨v, vs', rfl, hv, hvs⟩ := hrl.cons_inv
  have := hvs.nil_inv; subst this
  obtain ⟨F', h1, h2, h3, h4⟩ := retV_sound R hret hv
  refine ⟨v, by rw [results_run hrun]; rfl, F', R.below, fun b hb => h1 b (R.f0 b hb), fun b hb => ?_, h3, h4⟩
  rcases h2 b hb with hb | hb
  ·exact R.fn b hb
  ·exact .inr hb
 ·rename_i hne
  simp only [Option.bind_eq_some_iff, Option.map_eq_some_iff] at h
  obtain ⟨ps, hps, qs, hqs, rfl⟩ := h
  obtain ⟨vs, hrun, hrl⟩ := arvs_sound (a := a) R hs fn.results.toList rs ps hrs hps
  have hl1 : ps.length = rs.length := mapM_length _ _ _ hps
  have hl2 := hrl.1
  have hne1 : vs.length ≠ 1 := by
   intro e
   have : rs.length = 1 := by omega
   match rs, this with
   | [y], _ => exact hne y rfl
  refine ⟨.tuple vs.toArray, by rw [results_run hrun, dif_neg hne1], callF F l, R.below, fun b hb => .inl (R.f0 b hb), ?_, ?_, ?_⟩
  ·rintro b (hb | ⟨o, L, h1, h2, h3⟩)
   ·exact R.fn b hb
   ·exact .inr (h3 ▸ (R.own o L h1 h2).1)
  ·rintro b (hb | ⟨o, L, h1, h2, h3⟩)
   ·exact R.flt b hb
   ·exact h3 ▸ (R.own o L h1 h2).2.1
  ·exact R1.mkTup (snapL_sound R ps qs vs hqs hrl)
theorem ofL_zip {w : World} {F : Nat → Prop} {l : Locs} (n : Nat) : ∀ (ps : List PV) (vs : List Value) (k : Nat), RL w F l ps vs → ∀ t, R1 w F l (ofL ((List.range' k ps.length).zip ps) t) ((vs ++ List.replicate n undef)[t - k]?.getD undef) ∨ t < k ∧ ofL ((List.range' k ps.length).zip ps) t = .bot
 | [], vs, k, h, t => by
  by_cases e : t < k
  ·exact .inr ⟨e, rfl⟩
  ·exact .inl (.bot _)
 | p :: ps, vs, k, h, t => by
  obtain ⟨v, vs', rfl, hv, hvs⟩ := h.cons_inv
  simp only [List.length_cons, List.range'_succ, List.zip_cons_cons, ofL]
  by_cases e : t = k
  ·subst e
   left
   simp; exact hv
  ·rw [if_neg e]
   rcases ofL_zip n ps vs' (k + 1) hvs t with h1 | ⟨h1, h2⟩
   ·by_cases e2 : t < k
    ·right
     refine ⟨e2, ?_⟩
     have : ∀ (qs : List PV) (m : Nat), t < m → ofL ((List.range' m qs.length).zip qs) t = .bot := by
      intro qs
      induction qs with
      | nil => intro m _; rfl
      | cons q qs ih => intro m hm; simp only [List.length_cons, List.range'_succ, List.zip_cons_cons, ofL]; rw [if_neg (by omega)]; exact ih (m + 1) (by omega)
     exact this ps (k + 1) (by omega)
    ·left
     have : t - k = (t - (k + 1)) + 1 := by omega
     rw [this, List.cons_append, List.getElem?_cons_succ]
     exact h1
   ·right
    exact ⟨by omega, h2⟩
theorem init_slots {w : World} {F : Nat → Prop} {l : Locs} {args : List PV} {vs : List Value} (n : Nat) (h : RL w F l args vs) : SlotsOk w F l (init args) { tmps := vs.toArray ++ Array.replicate n undef, defers := [] } := by
 intro t
 have := ofL_zip n args vs 0 h t
 rw [← List.range_eq_range'] at this
 rcases this with h1 | ⟨h1, _⟩
 ·have e : (vs.toArray ++ Array.replicate n undef).getD t undef = (vs ++ List.replicate n undef)[t - 0]?.getD undef := by
   rw [Array.getD_eq_getD_getElem?, ← Array.getElem?_toList]; simp
  rw [e]; exact h1
 ·omega
theorem pcall_of {P : Program} {f : Nat} {fn : Func} {code : Code} {own : List Nat} {dr : Array Oper → Option AC} {hints rest : List (List Nat × Nat)} {ac : AC} {rs : List ARV} {args : List PV} {r : PV}
  (hf : P.funcs[f]? = some fn) (hb : fn.body = some code) (hname : (fn.name == "runtime.NumGoroutine") = false) (hc : compC P own fn.ntmps dr code hints = some (ac, rest)) (hrs : fn.results.toList.mapM (compRes P) = some rs) (hn : args.length ≤ fn.ntmps)
  (hdr : ∀ (c : Ctx) (g : Start), c.n = fn.ntmps → DrSound P own c g dr) (h : AWP P 0 ac (AFin rs r) (init args)) : PCall P f args r := by
 refine ⟨⟨fn, hf, hname, by simp [hb]⟩, ?_⟩
 intro w F vs hGl hF hvs
 have hlen := hvs.1
 have hsz : (vs.toArray ++ Array.replicate (fn.ntmps - vs.toArray.size) undef).size = fn.ntmps := by simp; omega
 let c : Ctx := ⟨w, F, fn.ntmps, hGl⟩
 let g : Start := ⟨w, F, fun _ => none, 0, fun _ _ h => nomatch h⟩
 have hR : Rep c g (init args) { tmps := vs.toArray ++ Array.replicate (fn.ntmps - vs.toArray.size) undef, defers := [] } w :=
  ⟨F, fun _ => none, ⟨Below.refl _ _, (fun b hb => hb), (fun b hb => .inl hb), hF, (fun o L ho => nomatch ho), (fun o a ho => by simp [init] at ho), (fun o L ho => nomatch ho), (fun o o' L L' ho => nomatch ho)⟩, init_slots _ hvs, Mono.refl _ _ _, rfl, hsz⟩
 refine calls_of_wp hf hb (wp_mono (code_sound (c := c) (g := g) (hdr c g rfl) code hints ac rest hc _ _ _ _ h hR) fun e a' w' hh => ?_)
 cases e <;> first | exact hh.elim | skip
 ·obtain ⟨s', g1, g2⟩ := hh
  obtain ⟨h1, v, h2, F', h3, h4, h5, h6, h7⟩ := fin_sound hrs g2 g1
  exact ⟨h1, v, h2, v, F', rfl, h3, h4, h5, h6, h7⟩
 ·obtain ⟨s', g1, g2⟩ := hh; exact g1.elim
 ·obtain ⟨s', g1, g2⟩ := hh
  obtain ⟨h1, v, h2, F', h3, h4, h5, h6, h7⟩ := fin_sound hrs g2 g1
  exact ⟨h1, v, h2, v, F', rfl, h3, h4, h5, h6, h7⟩
theorem icall_of {P : Program} {f : Nat} {fn : Func} {code : Code} {own : List Nat} {dr : Array Oper → Option AC} {hints rest : List (List Nat × Nat)} {ac : AC} {rs : List ARV} {args : List PV} {ob : List AObj} {K : PV → List AObj → Prop}
  (hf : P.funcs[f]? = some fn) (hb : fn.body = some code) (hname : (fn.name == "runtime.NumGoroutine") = false) (hc : compC P own fn.ntmps dr code hints = some (ac, rest)) (hrs : fn.results.toList.mapM (compRes P) = some rs) (hn : args.length ≤ fn.ntmps)
  (hdr : ∀ (c : Ctx) (g : Start), c.n = fn.ntmps → DrSound P own c g dr) (h : AWP P ob.length ac (AEnd rs K) ⟨(init args).sl, ob⟩) : ICall P f args ob K := by
 have hex : ∃ r ob', K r ob' := by
  obtain ⟨e, s', h'⟩ := AWP_ex ac h
  cases e with
  | n => obtain ⟨r, _, h'⟩ := h'; exact ⟨_, _, h'⟩
  | x i => exact h'.elim
  | r => obtain ⟨r, _, h'⟩ := h'; exact ⟨_, _, h'⟩
 refine ⟨⟨⟨fn, hf, hname, by simp [hb]⟩, hex⟩, ?_⟩
 intro c0 w F l vs hRW hvs
 have hlen := hvs.1
 have hsz : (vs.toArray ++ Array.replicate (fn.ntmps - vs.toArray.size) undef).size = fn.ntmps := by simp; omega
 let c : Ctx := ⟨c0.w0, c0.F0, fn.ntmps, c0.glob⟩
 let g : Start := ⟨w, F, l, ob.length, fun o L ho => hRW.lt o L ho⟩
 have hR : Rep c g ⟨(init args).sl, ob⟩ { tmps := vs.toArray ++ Array.replicate (fn.ntmps - vs.toArray.size) undef, defers := [] } w :=
  ⟨F, l, ⟨hRW.below, hRW.f0, hRW.fn, hRW.flt, hRW.lt, hRW.objs, hRW.own, hRW.inj⟩, init_slots _ hvs, Mono.refl _ _ _, rfl, hsz⟩
 have key : ∀ s' a' w', (∃ r, rawOf s' rs = some r ∧ K r s'.ob) → Rep c g s' a' w' → a'.defers = [] ∧ ∃ v, (results fn a'.tmps).run P w' = .ok v w' ∧ ∃ v0 r ob' F' l', Ending.returned v = .returned v0 ∧ RepW c0 F' l' ob' w' ∧ Mono w F l w' F' l' ∧ R1 w' F' l' r v0 ∧ K r ob' := by
  rintro s' a' w' ⟨r, hr, hk⟩ ⟨F', l', R', hs, hm, hdf, hz⟩
  have R0 : RepW c0 F' l' s'.ob w' := ⟨R'.below, R'.f0, R'.fn, R'.flt, R'.lt, R'.objs, R'.own, R'.inj⟩
  refine ⟨hdf, ?_⟩
  unfold rawOf at hr
  split at hr
  ·rename_i y
   obtain ⟨vs', hrun, hrl⟩ := arvs_sound (a := a') R' hs fn.results.toList [y] [r] hrs (by simp [hr])
   obtain ⟨v, vs'', rfl, hv, hvs'⟩ := hrl.cons_inv
   have := hvs'.nil_inv; subst this
   exact ⟨v, by rw [results_run hrun]; rfl, v, r, s'.ob, F', l', rfl, R0, hm, hv, hk⟩
  ·rename_i hne
   simp only [Option.map_eq_some_iff] at hr
   obtain ⟨ps, hps, rfl⟩ := hr
   obtain ⟨vs', hrun, hrl⟩ := arvs_sound (a := a') R' hs fn.results.toList rs ps hrs hps
   have hl1 : ps.length = rs.length := mapM_length _ _ _ hps
   have hl2 := hrl.1
   have hne1 : vs'.length ≠ 1 := by
    intro e
    have : rs.length = 1 := by omega
    match rs, this with
    | [y], _ => exact hne y rfl
   exact ⟨.tuple vs'.toArray, by rw [results_run hrun, dif_neg hne1], _, .tup ps, s'.ob, F', l', rfl, R0, hm, R1.mkTup hrl, hk⟩
 refine calls_of_wp hf hb (wp_mono (code_sound (c := c) (g := g) (hdr c g rfl) code hints ac rest hc _ _ _ _ h hR) fun e a' w' hh => ?_)
 cases e <;> first | exact hh.elim | skip
 ·obtain ⟨s', g1, g2⟩ := hh; exact key s' a' w' g1 g2
 ·obtain ⟨s', g1, g2⟩ := hh; exact g1.elim
 ·obtain ⟨s', g1, g2⟩ := hh; exact key s' a' w' g1 g2
end Go.Proofs.YtdgpiobmncohjaaGreatDoor.Aw
