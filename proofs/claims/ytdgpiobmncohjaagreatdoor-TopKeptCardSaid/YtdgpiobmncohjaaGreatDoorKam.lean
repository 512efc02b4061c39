/-
 Regions whose order is drawn: that the text's order tells all orders.
-/
import Derived.Test.YtdgpiobmncohjaaGreatDoorKal
import Derived.Test.YtdgpiobmncohjaaGreatDoorKak
set_option linter.all false
namespace Go.Proofs.YtdgpiobmncohjaaGreatDoor.Aw
open Go.RowKit
def AO.isI : AO → Bool
 | .icall .. | .icallv .. | .icalli .. | .mop .. | .ecall .. => true
 | _ => false
def AO.isR : AO → Bool
 | .rcall .. | .rcalli .. => true
 | _ => false
def ResE (own : Bool) (nw : Option Nat) (r : PV) (s : St) (v : PV) (ob' : List AObj) : Prop :=
 match r with
 | .own esz rows =>
  if own then
   match mkO s nw (.list esz rows) with
   | some (i, ob) => v = .osl i 0 rows.length ∧ ob' = ob
   | none => False
  else v = .slc rows ∧ ob' = s.ob
 | r => v = r ∧ ob' = s.ob
def CallE (P : Program) (own : Bool) (forb : List Nat) (nw : Option Nat) (f : Nat) (ps : List PV) (s : St) (v : PV) (ob' : List AObj) : Prop :=
 if ownL ps = false then ∃ r, PCall P f ps r ∧ ResE own nw r s v ob'
 else
  match snapL s.ob forb ps with
  | some qs => ∃ r, PCall P f qs r ∧ r.flatR = true ∧ ResE own nw r s v ob'
  | none => False
def ExecE (P : Program) (bs : Nat) (o : AOp) (s : St) (v : PV) (ob' : List AObj) : Prop :=
 match o.ao with
 | .call own f args => CallE P own (o.forb.map (rsv bs s)) (o.nw.map (bs + ·)) f (args.map s.val) s v ob'
 | .callv x args =>
  match s.val x with
  | .fn (.func f) first cap => CallE P false (o.forb.map (rsv bs s)) (o.nw.map (bs + ·)) f (first ++ (args.map s.val ++ cap)) s v ob'
  | _ => False
 | .icall .. => False
 | .icallv .. => False
 | .icalli .. => False
 | .mop .. => False
 | .ecall .. => False
 | .rcall f args => RCall P f (args.map s.val) s.ob v ∧ ob' = s.ob
 | .rcalli nm x args =>
  match s.val x with
  | .ifc t p => (∃ f, MethOk P t nm f ∧ RCall P f (p :: args.map s.val) s.ob v) ∧ ob' = s.ob
  | _ => False
 | ao => tgtOk bs s o.tgt ao ∧ ev (o.forb.map (rsv bs s)) (o.nw.map (bs + ·)) s ao = some (v, ob')
def StepE (P : Program) (bs : Nat) (o : AOp) (s : St) (v : PV) (ob' : List AObj) : Prop :=
 match o.guard with
 | none => ExecE P bs o s v ob'
 | some (g, want) =>
  match gdec (s.sl g) want with
  | some true => ExecE P bs o s v ob'
  | some false => v = skipV ∧ ob' = s.ob
  | none => False
section
variable {P : Program} {bs : Nat} {s s' : St} {K K' : St → Prop} {v : PV} {ob' : List AObj}
theorem ares_iff {own : Bool} {nw d : Option Nat} {r : PV} : ARes own nw d K r s ↔ ∃ v ob', ResE own nw r s v ob' ∧ K (s.put d v ob') := by
 cases r with
 | own esz rows =>
  simp only [ARes, ResE]
  by_cases h : own = true
  ·simp only [h, if_true]
   cases mkO s nw (.list esz rows) with
   | none => simp
   | some x =>
    obtain ⟨i, ob⟩ := x
    constructor
    ·intro hk; exact ⟨_, _, ⟨rfl, rfl⟩, hk⟩
    ·rintro ⟨v, ob', ⟨rfl, rfl⟩, hk⟩; exact hk
  ·simp only [h]
   constructor
   ·intro hk; exact ⟨_, _, ⟨rfl, rfl⟩, hk⟩
   ·rintro ⟨v, ob', ⟨rfl, rfl⟩, hk⟩; exact hk
 | _ =>
  simp only [ARes, ResE]
  constructor
  ·intro hk; exact ⟨_, _, ⟨rfl, rfl⟩, hk⟩
  ·rintro ⟨v, ob', ⟨rfl, rfl⟩, hk⟩; exact hk
theorem acall_iff {own : Bool} {forb : List Nat} {nw d : Option Nat} {f : Nat} {ps : List PV} : ACall P own forb nw f ps d K s ↔ ∃ v ob', CallE P own forb nw f ps s v ob' ∧ K (s.put d v ob') := by
 unfold ACall CallE
 by_cases h : ownL ps = false
 ·simp only [h, if_true]
  constructor
  ·rintro ⟨r, h1, h2⟩
   obtain ⟨v, ob', h3, h4⟩ := ares_iff.1 h2
   exact ⟨v, ob', ⟨r, h1, h3⟩, h4⟩
  ·rintro ⟨v, ob', ⟨r, h1, h3⟩, h4⟩
   exact ⟨r, h1, ares_iff.2 ⟨v, ob', h3, h4⟩⟩
 ·simp only [h]
  cases snapL s.ob forb ps with
  | none => simp
  | some qs =>
   constructor
   ·rintro ⟨r, h1, h0, h2⟩
    obtain ⟨v, ob', h3, h4⟩ := ares_iff.1 h2
    exact ⟨v, ob', ⟨r, h1, h0, h3⟩, h4⟩
   ·rintro ⟨v, ob', ⟨r, h1, h0, h3⟩, h4⟩
    exact ⟨r, h1, h0, ares_iff.2 ⟨v, ob', h3, h4⟩⟩
theorem evk_iff {d : Option Nat} {T : Prop} {x : Option (PV × List AObj)} : (T ∧ match x with | some (v, ob) => K (s.put d v ob) | none => False) ↔ ∃ v ob', (T ∧ x = some (v, ob')) ∧ K (s.put d v ob') := by
 cases x with
 | none => simp
 | some y =>
  obtain ⟨v, ob⟩ := y
  constructor
  ·intro hk; exact ⟨_, _, ⟨hk.1, rfl⟩, hk.2⟩
  ·rintro ⟨v', ob', ⟨ht, he⟩, hk⟩
   simp only [Option.some.injEq, Prod.mk.injEq] at he
   obtain ⟨rfl, rfl⟩ := he; exact ⟨ht, hk⟩
theorem aexec_iff {o : AOp} (hI : o.ao.isI = false) : AExec P bs o K s ↔ ∃ v ob', ExecE P bs o s v ob' ∧ K (s.put o.dst v ob') := by
 obtain ⟨d, ao, g, nw, fb, tg⟩ := o
 cases ao
 case icall => cases hI
 case icallv => cases hI
 case icalli => cases hI
 case mop => cases hI
 case ecall => cases hI
 case rcall f args =>
  simp only [AExec, ExecE]
  constructor
  ·rintro ⟨r, h1, h2⟩; exact ⟨r, s.ob, ⟨h1, rfl⟩, h2⟩
  ·rintro ⟨r, ob', ⟨h1, rfl⟩, h2⟩; exact ⟨r, h1, h2⟩
 case rcalli nm x args =>
  simp only [AExec, ExecE]
  generalize s.val x = y
  cases y with
  | ifc t p =>
   constructor
   ·rintro ⟨f, hm, r, h1, h2⟩; exact ⟨r, s.ob, ⟨⟨f, hm, h1⟩, rfl⟩, h2⟩
   ·rintro ⟨r, ob', ⟨⟨f, hm, h1⟩, rfl⟩, h2⟩; exact ⟨f, hm, r, h1, h2⟩
  | _ => simp
 case call own f args => exact acall_iff
 case callv x args =>
  simp only [AExec, ExecE]
  generalize s.val x = y
  cases y with
  | fn f first cap =>
   cases f with
   | func f => exact acall_iff
   | _ => simp
  | _ => simp
 case mv x => exact evk_iff (K := K) (d := d) (T := tgtOk bs s tg (.mv x)) (x := some (s.val x, s.ob))
 case mkfn f a b => exact evk_iff (K := K) (d := d) (T := tgtOk bs s tg (.mkfn f a b)) (x := some (PV.fn f (a.map s.val) (b.map s.val), s.ob))
 case mki t x => exact evk_iff (K := K) (d := d) (T := tgtOk bs s tg (.mki t x)) (x := some (PV.ifc t (s.val x), s.ob))
 case fail => exact evk_iff (K := K) (d := d) (T := tgtOk bs s tg .fail) (x := none)
 case lenc n => exact evk_iff (K := K) (d := d) (T := tgtOk bs s tg (.lenc n)) (x := some (PV.int .i64 n, s.ob))
 all_goals exact evk_iff (T := tgtOk bs s tg _) (x := ev (fb.map (rsv bs s)) (nw.map (bs + ·)) s _)
theorem astep_iff {o : AOp} (hI : o.ao.isI = false) : AStep P bs o K s ↔ ∃ v ob', StepE P bs o s v ob' ∧ K (s.put o.dst v ob') := by
 unfold AStep StepE
 cases o.guard with
 | none => exact aexec_iff hI
 | some g =>
  obtain ⟨g, want⟩ := g
  simp only []
  cases gdec (s.sl g) want with
  | none => simp
  | some t =>
   cases t with
   | true => exact aexec_iff hI
   | false =>
    constructor
    ·intro hk; exact ⟨_, _, ⟨rfl, rfl⟩, hk⟩
    ·rintro ⟨v, ob', ⟨rfl, rfl⟩, hk⟩; exact hk
def gLooks : Option (Nat × Bool) → List Nat
 | none => []
 | some g => [g.1]
def kLooks (l : List Nat) : List Nat := l.filterMap fun k => if k < 1000000 then none else some (k - 1000000)
def AOp.looks (o : AOp) : List Nat := gLooks o.guard ++ (kLooks (o.forb ++ o.tgt.toList) ++ o.ao.looks)
theorem rsv_agree {l : List Nat} (h : agreeOn (kLooks l) s s') : ∀ k ∈ l, rsv bs s' k = rsv bs s k := by
 intro k hk
 unfold rsv
 split
 ·rfl
 ·rename_i hlt
  rw [h (k - 1000000) (List.mem_filterMap.2 ⟨k, hk, by rw [if_neg hlt]⟩)]
theorem forb_agree {o : AOp} (h : agreeOn (kLooks (o.forb ++ o.tgt.toList)) s s') : o.forb.map (rsv bs s') = o.forb.map (rsv bs s) :=
 List.map_congr_left fun k hk => rsv_agree h k (List.mem_append_left _ hk)
theorem tgt_agree {o : AOp} (h : agreeOn (kLooks (o.forb ++ o.tgt.toList)) s s') {ao : AO} (hl : agreeOn ao.looks s s') (ht : tgtOk bs s o.tgt ao) : tgtOk bs s' o.tgt ao := by
 unfold tgtOk at ht ⊢
 cases hk : o.tgt with
 | none => trivial
 | some k =>
  rw [hk] at ht
  simp only [] at ht ⊢
  rw [wObj_agree hl, ht, rsv_agree h k (by simp [hk])]
theorem step_via {o : AOp} {ob1 : List AObj} (hg : agreeOn (gLooks o.guard) s s') (he : ExecE P bs o s v ob' → ExecE P bs o s' v ob1) (hb : v = skipV → ob' = s.ob → ob1 = s'.ob) (h : StepE P bs o s v ob') : StepE P bs o s' v ob1 := by
 unfold StepE at h ⊢
 cases hgd : o.guard with
 | none => rw [hgd] at h; exact he h
 | some g =>
  obtain ⟨g, want⟩ := g
  rw [hgd] at h hg
  simp only [] at h ⊢
  rw [hg g (by simp [gLooks])]
  generalize gdec (s.sl g) want = y at h
  cases y with
  | none => exact h.elim
  | some t =>
   cases t with
   | true => exact he h
   | false => exact ⟨h.1, hb h.1 h.2⟩
theorem resE_ob {own : Bool} {nw : Option Nat} {r : PV} (hob : s'.ob = s.ob) (h : ResE own nw r s v ob') : ResE own nw r s' v ob' := by
 unfold ResE at h ⊢
 split at h
 ·rename_i esz rows
  by_cases hw : own = true
  ·simp only [hw, if_true] at h ⊢; rw [mkO_ob hob]; exact h
  ·simp only [hw] at h ⊢; rw [hob]; exact h
 ·rw [hob]; exact h
theorem exec_looks {o : AOp} (hkl : agreeOn (kLooks (o.forb ++ o.tgt.toList)) s s') (hl : agreeOn o.ao.looks s s') (hob : s'.ob = s.ob) (h : ExecE P bs o s v ob') : ExecE P bs o s' v ob' := by
 have hcall : ∀ {own : Bool} {forb : List Nat} {nw : Option Nat} {f : Nat} {ps : List PV}, CallE P own forb nw f ps s v ob' → CallE P own forb nw f ps s' v ob' := by
  intro own forb nw f ps h
  unfold CallE at h ⊢
  rw [hob]
  split at h
  ·rename_i hc; rw [if_pos hc]; obtain ⟨r, h1, h2⟩ := h; exact ⟨r, h1, resE_ob hob h2⟩
  ·rename_i hc; rw [if_neg hc]
   split at h
   ·obtain ⟨r, h1, h0, h2⟩ := h; exact ⟨r, h1, h0, resE_ob hob h2⟩
   ·exact h
 unfold ExecE at h ⊢
 rw [forb_agree hkl]
 split at h
 ·rename_i own f args hao
  simp only [hao, AO.looks] at hl
  rw [map_agree hl]; exact hcall h
 ·rename_i x args hao
  simp only [hao, AO.looks] at hl
  rw [map_agree (agree_right hl), val_agree (agree_left hl)]
  split at h
  ·exact hcall h
  ·exact h.elim
 ·exact h.elim
 ·exact h.elim
 ·exact h.elim
 ·exact h.elim
 ·exact h.elim
 ·rename_i f args hao
  simp only [hao, AO.looks] at hl
  rw [map_agree hl, hob]; exact h
 ·rename_i nm x args hao
  simp only [hao, AO.looks] at hl
  rw [map_agree (agree_right hl), val_agree (agree_left hl), hob]; exact h
 ·rw [ev_looks hl hob]; exact ⟨tgt_agree hkl hl h.1, h.2⟩
theorem step_looks {o : AOp} (hl : agreeOn o.looks s s') (hob : s'.ob = s.ob) (h : StepE P bs o s v ob') : StepE P bs o s' v ob' :=
 step_via (agree_left hl) (exec_looks (agree_left (agree_right hl)) (agree_right (agree_right hl)) hob) (fun _ e => e.trans hob.symm) h
theorem exec_pure {o : AOp} (hp : o.ao.pure = true) (hkl : agreeOn (kLooks (o.forb ++ o.tgt.toList)) s s') (hl : agreeOn o.ao.looks s s') (h : ExecE P bs o s v ob') : ob' = s.ob ∧ ExecE P bs o s' v s'.ob := by
 unfold ExecE at h ⊢
 split at h
 ·rename_i hao; rw [hao] at hp; simp [AO.pure] at hp
 ·rename_i hao; rw [hao] at hp; simp [AO.pure] at hp
 ·exact h.elim
 ·exact h.elim
 ·exact h.elim
 ·exact h.elim
 ·exact h.elim
 ·rename_i hao; rw [hao] at hp; simp [AO.pure] at hp
 ·rename_i hao; rw [hao] at hp; simp [AO.pure] at hp
 ·rw [forb_agree hkl]
  obtain ⟨h1, h2⟩ := ev_pure hp h.2 hl
  exact ⟨h1, tgt_agree hkl hl h.1, h2⟩
theorem step_pure {o : AOp} (hp : o.ao.pure = true) (hl : agreeOn o.looks s s') (h : StepE P bs o s v ob') : ob' = s.ob ∧ StepE P bs o s' v s'.ob := by
 refine ⟨?_, step_via (agree_left hl) (fun he => (exec_pure hp (agree_left (agree_right hl)) (agree_right (agree_right hl)) he).2) (fun _ _ => rfl) h⟩
 unfold StepE at h
 split at h
 ·exact (exec_pure hp (agree_left (agree_right hl)) (agree_right (agree_right hl)) h).1
 ·split at h
  ·exact (exec_pure hp (agree_left (agree_right hl)) (agree_right (agree_right hl)) h).1
  ·exact h.2
  ·exact h.elim
theorem resE_frame {own : Bool} {nw : Option Nat} {r : PV} (hn : own = true → nw ≠ none) (hnw : ∀ p, nw = some p → s.ob[p]? = some .none → s'.ob[p]? = some .none) (h : ResE own nw r s v ob') :
  ∃ e, (∀ p a, e = some (p, a) → nw = some p) ∧ ob' = appE e s.ob ∧ ResE own nw r s' v (appE e s'.ob) := by
 unfold ResE at h ⊢
 split at h
 ·rename_i esz rows
  by_cases hw : own = true
  ·simp only [hw, if_true] at h ⊢
   cases hnn : nw with
   | none => exact absurd hnn (hn hw)
   | some p =>
    rw [hnn] at h
    split at h
    ·rename_i i ob hmk
     obtain ⟨rfl, h3, rfl⟩ := mkO_some hmk
     obtain ⟨h1, rfl⟩ := h
     refine ⟨some (i, .list esz rows), fun p a h => by cases h; rfl, rfl, ?_⟩
     rw [mkO_at (hnw i hnn h3)]; exact ⟨h1, rfl⟩
    ·exact h.elim
  ·simp only [hw] at h ⊢
   exact ⟨none, fun _ _ h => (nomatch h), h.2, h.1, rfl⟩
 ·exact ⟨none, fun _ _ h => (nomatch h), h.2, h.1, rfl⟩
theorem exec_frame {o : AOp} (hRc : o.ao.isR = false) (hw : o.ao.writes = false) (hn : o.ao.news = true → o.nw ≠ none) (hkl : agreeOn (kLooks (o.forb ++ o.tgt.toList)) s s') (hl : agreeOn o.ao.looks s s') (ho : obAgree (o.forb.map (rsv bs s)) s.ob s'.ob)
  (hnw : ∀ p, o.nw.map (bs + ·) = some p → s.ob[p]? = some .none → s'.ob[p]? = some .none) (h : ExecE P bs o s v ob') :
  ∃ e, (∀ p a, e = some (p, a) → o.nw.map (bs + ·) = some p) ∧ ob' = appE e s.ob ∧ ExecE P bs o s' v (appE e s'.ob) := by
 have hn' : o.ao.news = true → o.nw.map (bs + ·) ≠ none := fun h e => hn h (by simpa using e)
 have hcall : ∀ {own : Bool} {f : Nat} {ps : List PV}, (own = true → o.nw.map (bs + ·) ≠ none) → CallE P own (o.forb.map (rsv bs s)) (o.nw.map (bs + ·)) f ps s v ob' →
   ∃ e, (∀ p a, e = some (p, a) → o.nw.map (bs + ·) = some p) ∧ ob' = appE e s.ob ∧ CallE P own (o.forb.map (rsv bs s)) (o.nw.map (bs + ·)) f ps s' v (appE e s'.ob) := by
  intro own f ps hown h
  unfold CallE at h ⊢
  split at h
  ·rename_i hc; simp only [if_pos hc]
   obtain ⟨r, h1, h2⟩ := h
   obtain ⟨e, g1, g2, g3⟩ := resE_frame hown hnw h2
   exact ⟨e, g1, g2, r, h1, g3⟩
  ·rename_i hc; simp only [if_neg hc, snapL_agree ho]
   split at h
   ·obtain ⟨r, h1, h0, h2⟩ := h
    obtain ⟨e, g1, g2, g3⟩ := resE_frame hown hnw h2
    exact ⟨e, g1, g2, r, h1, h0, g3⟩
   ·exact h.elim
 unfold ExecE at h ⊢
 rw [forb_agree hkl]
 split at h
 ·rename_i own f args hao
  simp only [hao, AO.looks] at hl
  rw [map_agree hl]
  exact hcall (fun h => hn' (by simp only [hao, AO.news]; exact h)) h
 ·rename_i x args hao
  simp only [hao, AO.looks] at hl
  rw [map_agree (agree_right hl), val_agree (agree_left hl)]
  split at h
  ·exact hcall (fun h => nomatch h) h
  ·exact h.elim
 ·exact h.elim
 ·exact h.elim
 ·exact h.elim
 ·exact h.elim
 ·exact h.elim
 ·rename_i hao; rw [hao] at hRc; cases hRc
 ·rename_i hao; rw [hao] at hRc; cases hRc
 ·obtain ⟨e, g1, g2, g3⟩ := ev_frame hw hn' h.2 hl ho hnw
  exact ⟨e, g1, g2, tgt_agree hkl hl h.1, g3⟩
theorem step_frame {o : AOp} (hRc : o.ao.isR = false) (hw : o.ao.writes = false) (hn : o.ao.news = true → o.nw ≠ none) (hl : agreeOn o.looks s s') (ho : obAgree (o.forb.map (rsv bs s)) s.ob s'.ob)
  (hnw : ∀ p, o.nw.map (bs + ·) = some p → s.ob[p]? = some .none → s'.ob[p]? = some .none) (h : StepE P bs o s v ob') :
  ∃ e, (∀ p a, e = some (p, a) → o.nw.map (bs + ·) = some p) ∧ ob' = appE e s.ob ∧ StepE P bs o s' v (appE e s'.ob) := by
 have hgl := agree_left hl
 unfold StepE at h ⊢
 cases hgd : o.guard with
 | none => rw [hgd] at h; exact exec_frame hRc hw hn (agree_left (agree_right hl)) (agree_right (agree_right hl)) ho hnw h
 | some g =>
  obtain ⟨g, want⟩ := g
  rw [hgd] at h hgl
  simp only [] at h ⊢
  rw [hgl g (by simp [gLooks])]
  generalize gdec (s.sl g) want = y at h
  cases y with
  | none => exact h.elim
  | some t =>
   cases t with
   | true => exact exec_frame hRc hw hn (agree_left (agree_right hl)) (agree_right (agree_right hl)) ho hnw h
   | false => exact ⟨none, fun _ _ h => (nomatch h), h.2, h.1, rfl⟩
theorem step_frameW {o : AOp} {k : Nat} (hW : o.ao.writes = true) (hI : o.ao.isI = false) (htg : o.tgt = some k) (hl : agreeOn o.looks s s') (ho : obAgree (o.forb.map (rsv bs s)) s.ob s'.ob) (h : StepE P bs o s v ob') :
  (ob' = s.ob ∧ StepE P bs o s' v s'.ob) ∨ (rsv bs s k ∉ o.forb.map (rsv bs s) ∧ s.ob[rsv bs s k]? ≠ some .none ∧ ∃ a', a' ≠ .none ∧ ob' = s.ob.set (rsv bs s k) a' ∧ StepE P bs o s' v (s'.ob.set (rsv bs s k) a')) := by
 have hgl := agree_left hl
 have hkl := agree_left (agree_right hl)
 have hel : agreeOn o.ao.looks s s' := agree_right (agree_right hl)
 have he : ∀ {ob' : List AObj}, ExecE P bs o s v ob' → (rsv bs s k ∉ o.forb.map (rsv bs s) ∧ s.ob[rsv bs s k]? ≠ some .none ∧ ∃ a', a' ≠ .none ∧ ob' = s.ob.set (rsv bs s k) a' ∧ ExecE P bs o s' v (s'.ob.set (rsv bs s k) a')) := by
  intro ob' h
  unfold ExecE at h ⊢
  rw [forb_agree hkl]
  split at h
  ·rename_i hao; rw [hao] at hW; simp [AO.writes] at hW
  ·rename_i hao; rw [hao] at hW; simp [AO.writes] at hW
  ·exact h.elim
  ·exact h.elim
  ·exact h.elim
  ·exact h.elim
  ·exact h.elim
  ·rename_i hao; rw [hao] at hW; simp [AO.writes] at hW
  ·rename_i hao; rw [hao] at hW; simp [AO.writes] at hW
  ·obtain ⟨h1, h2⟩ := h
   have hwo : wObj s o.ao = some (rsv bs s k) := by rw [htg] at h1; exact h1
   obtain ⟨g1, g2, a', g3, g4, g5⟩ := ev_frameW hwo h2 hel ho
   exact ⟨g1, g2, a', g3, g4, tgt_agree hkl hel h1, g5⟩
 unfold StepE at h ⊢
 cases hgd : o.guard with
 | none => rw [hgd] at h; exact .inr (he h)
 | some g =>
  obtain ⟨g, want⟩ := g
  rw [hgd] at h hgl
  simp only [] at h ⊢
  rw [hgl g (by simp [gLooks])]
  generalize gdec (s.sl g) want = y at h
  cases y with
  | none => exact h.elim
  | some t =>
   cases t with
   | true => exact .inr (he h)
   | false => exact .inl ⟨h.2, h.1, trivial⟩
def AOp.wr (x y : AOp) : Bool :=
 !y.ao.isR && (  x.ao.writes && !x.ao.isI && !y.ao.writes && (!y.ao.news || y.nw.isSome) &&
 (match x.tgt with
  | some k => y.forb.contains k
  | none => false) &&
 (match y.nw with
  | some p => x.forb.contains p && decide (p < 1000000)
  | none => true))
def AOp.fr (x y : AOp) : Bool :=
 (!x.ao.isR && !y.ao.isR) && (  !x.ao.writes && !y.ao.writes && (!x.ao.news || x.nw.isSome) && (!y.ao.news || y.nw.isSome) &&
 (match x.nw with
  | some p => y.forb.contains p && y.nw != some p
  | none => true) &&
 (match y.nw with
  | some p => x.forb.contains p
  | none => true))
def AOp.qt (x : AOp) : Bool := !x.ao.writes && (!x.ao.news && (!x.ao.isI && x.nw.isNone))
def AOp.apart (x y : AOp) : Bool :=
 (match x.dst with
  | some d => !y.looks.contains d && y.dst != some d
  | none => true) &&
 ((match y.dst with
  | some d => !x.looks.contains d
  | none => true) &&
 ((x.ao.pure || (y.ao.pure || ((x.qt && y.qt) || (x.fr y || (x.wr y || y.wr x))))) &&
 ((match x.nw with
  | some p => decide (p < 1000000)
  | none => true) &&
 (match y.nw with
  | some p => decide (p < 1000000)
  | none => true))))
theorem put_agree {l : List Nat} {d : Option Nat} {ob1 : List AObj} (h : ∀ t, d = some t → l.contains t = false) : agreeOn l s (s.put d v ob1) := by
 intro t ht
 cases d with
 | none => rfl
 | some d =>
  have hne : t ≠ d := by
   rintro rfl
   have := h t rfl
   simp at this; exact this ht
  simp only [St.put]; exact upd_ne hne
theorem put_agree' {l : List Nat} {d : Option Nat} {ob1 : List AObj} (h : ∀ t, d = some t → l.contains t = false) : agreeOn l (s.put d v ob1) s := fun t ht => (put_agree (v := v) (ob1 := ob1) h t ht).symm
theorem put_put {d1 d2 : Option Nat} {v1 v2 : PV} {o1 o2 ob2 : List AObj} (h : ∀ t, d1 = some t → d2 ≠ some t) : (s.put d1 v1 o1).put d2 v2 ob2 = (s.put d2 v2 o2).put d1 v1 ob2 := by
 cases d1 with
 | none => cases d2 <;> rfl
 | some d1 =>
  cases d2 with
  | none => rfl
  | some d2 =>
   have hne : d2 ≠ d1 := fun e => h d1 rfl (by rw [e])
   simp only [St.put]
   congr 1
   funext j
   simp only [upd]
   by_cases h1 : j = d1
   ·subst h1; simp [Ne.symm hne]
   ·simp [h1]
theorem appE_comm {e1 e2 : Option (Nat × AObj)} {ob : List AObj} (h : ∀ p a q b, e1 = some (p, a) → e2 = some (q, b) → p ≠ q) : appE e1 (appE e2 ob) = appE e2 (appE e1 ob) := by
 cases e1 with
 | none => rfl
 | some x =>
  cases e2 with
  | none => rfl
  | some y =>
   obtain ⟨p, a⟩ := x; obtain ⟨q, b⟩ := y
   exact List.set_comm _ _ (Ne.symm (h p a q b rfl rfl))
theorem step_det {o : AOp} (hp : o.ao.pure = true) {v' : PV} {ob2 : List AObj} (h : StepE P bs o s v ob') (h' : StepE P bs o s v' ob2) : v = v' := by
 have he : ∀ {v v' : PV} {ob' ob2 : List AObj}, ExecE P bs o s v ob' → ExecE P bs o s v' ob2 → v = v' := by
  intro v v' ob' ob2 h h'
  unfold ExecE at h h'
  split at h
  ·rename_i hao; rw [hao] at hp; simp [AO.pure] at hp
  ·rename_i hao; rw [hao] at hp; simp [AO.pure] at hp
  ·exact h.elim
  ·exact h.elim
  ·exact h.elim
  ·exact h.elim
  ·exact h.elim
  ·rename_i hao; rw [hao] at hp; simp [AO.pure] at hp
  ·rename_i hao; rw [hao] at hp; simp [AO.pure] at hp
  ·split at h'
   ·rename_i hao; rw [hao] at hp; simp [AO.pure] at hp
   ·rename_i hao; rw [hao] at hp; simp [AO.pure] at hp
   ·exact h'.elim
   ·exact h'.elim
   ·exact h'.elim
   ·exact h'.elim
   ·exact h'.elim
   ·rename_i hao; rw [hao] at hp; simp [AO.pure] at hp
   ·rename_i hao; rw [hao] at hp; simp [AO.pure] at hp
   ·have h1 := h.2; have h2 := h'.2
    rw [h1] at h2; cases h2; rfl
 unfold StepE at h h'
 cases hgd : o.guard with
 | none => rw [hgd] at h h'; exact he h h'
 | some g =>
  obtain ⟨g, want⟩ := g
  rw [hgd] at h h'
  simp only [] at h h'
  generalize gdec (s.sl g) want = y at h h'
  cases y with
  | none => exact h.elim
  | some t =>
   cases t with
   | true => exact he h h'
   | false => rw [h.1, h'.1]
theorem pure_notI {ao : AO} (h : ao.pure = true) : ao.isI = false := by cases ao <;> first | rfl | (simp [AO.pure] at h)
theorem stepI {o : AOp} (hI : o.ao.isI = true) (hl : agreeOn o.looks s s') (hob : s'.ob = s.ob) (hk : ∀ v ob, K (s.put o.dst v ob) → K' (s'.put o.dst v ob)) (h : AStep P bs o K s) : AStep P bs o K' s' := by
 have hgl := agree_left hl
 have hel : agreeOn o.ao.looks s s' := agree_right (agree_right hl)
 have he : AExec P bs o K s → AExec P bs o K' s' := by
  intro h
  unfold AExec at h ⊢
  split at h
  ·rename_i hao; rw [hao] at hI; cases hI
  ·rename_i hao; rw [hao] at hI; cases hI
  ·rename_i f args hao
   rw [hao] at hel
   simp only [AO.looks] at hel
   rw [map_agree hel, hob]
   exact ICall_mono (fun r ob => hk r ob) h
  ·rename_i x args hao
   rw [hao] at hel
   simp only [AO.looks] at hel
   rw [map_agree (agree_right hel), val_agree (agree_left hel), hob]
   split at h
   ·exact ICall_mono (fun r ob => hk r ob) h
   ·exact h.elim
  ·rename_i nm x args hao
   rw [hao] at hel
   simp only [AO.looks] at hel
   rw [map_agree (agree_right hel), val_agree (agree_left hel), hob]
   split at h
   ·obtain ⟨f, hm, h⟩ := h; exact ⟨f, hm, ICall_mono (fun r ob => hk r ob) h⟩
   ·exact h.elim
  ·rename_i m args hao
   rw [hao] at hel
   simp only [AO.looks] at hel
   rw [map_agree hel, hob]
   exact MStep_mono (fun r ob => hk r ob) h
  ·rename_i hao; rw [hao] at hI; cases hI
  ·rename_i f args hao
   rw [hao] at hel
   simp only [AO.looks] at hel
   rw [map_agree hel, hob]
   exact ECall_mono (fun r ob => hk r ob) h
  ·rename_i hao; rw [hao] at hI; cases hI
  ·rename_i n1 n2 n3 n4 n4b n5 n6 n7 n8
   revert hI
   generalize o.ao = ao at n3 n4 n4b n5 n7
   intro hI
   cases ao <;> first | exact absurd rfl (n7 _ _) | exact absurd rfl (n3 _ _) | exact absurd rfl (n4 _ _) | exact absurd rfl (n4b _ _ _) | exact absurd rfl (n5 _ _) | cases hI
 unfold AStep at h ⊢
 cases hgd : o.guard with
 | none => rw [hgd] at h; exact he h
 | some g =>
  obtain ⟨g, want⟩ := g
  rw [hgd] at h hgl
  simp only [] at h ⊢
  rw [hgl g (by simp [gLooks])]
  generalize gdec (s.sl g) want = y at h
  cases y with
  | none => exact h.elim
  | some t =>
   cases t with
   | true => exact he h
   | false => simp only [] at h ⊢; rw [hob]; exact hk _ _ h
theorem place_in {l : List Nat} {p : Nat} (hp : p < 1000000) (h : l.contains p = true) : bs + p ∈ l.map (rsv bs s) :=
 List.mem_map.2 ⟨p, by simpa using h, by unfold rsv; rw [if_pos hp]⟩
theorem appE_get {e : Option (Nat × AObj)} {ob : List AObj} {i : Nat} (h : ∀ p a, e = some (p, a) → p ≠ i) : (appE e ob)[i]? = ob[i]? := by
 cases e with
 | none => rfl
 | some x => obtain ⟨p, a⟩ := x; exact List.getElem?_set_ne (h p a rfl)
theorem swap_wr {x y : AOp} (xI : x.ao.isI = false) (yI : y.ao.isI = false) (hw : x.wr y = true) (d1 : ∀ t, x.dst = some t → y.looks.contains t = false) (d3 : ∀ t, y.dst = some t → x.looks.contains t = false) (d2 : ∀ t, x.dst = some t → y.dst ≠ some t)
  (h : AStep P bs x (AStep P bs y K) s) : AStep P bs y (AStep P bs x K) s := by
 obtain ⟨v1, ob1, hx, h⟩ := (astep_iff xI).1 h
 obtain ⟨v2, ob2, hy, hk⟩ := (astep_iff yI).1 h
 simp only [AOp.wr, Bool.and_eq_true, Bool.not_eq_true', Bool.or_eq_true] at hw
 obtain ⟨ry, ⟨⟨⟨⟨w1, -⟩, w2⟩, n2⟩, b1⟩, b2⟩ := hw
 have n2' : y.ao.news = true → y.nw ≠ none := by
  intro h e; rcases n2 with g | g
  ·rw [h] at g; cases g
  ·rw [e] at g; cases g
 cases htg : x.tgt with
 | none => rw [htg] at b1; cases b1
 | some k =>
  rw [htg] at b1
  simp only [] at b1
  have hky : rsv bs s k ∈ y.forb.map (rsv bs s) := List.mem_map.2 ⟨k, by simpa using b1, rfl⟩
  have hny : ∀ p, y.nw.map (bs + ·) = some p → p ∈ x.forb.map (rsv bs s) := by
   intro p hp
   cases hy' : y.nw with
   | none => rw [hy'] at hp; cases hp
   | some q =>
    rw [hy'] at hp b2
    simp only [Option.map_some, Option.some.injEq] at hp
    subst hp
    simp only [Bool.and_eq_true, decide_eq_true_eq] at b2
    exact place_in b2.2 b2.1
  have hfy : y.forb.map (rsv bs (s.put x.dst v1 ob1)) = y.forb.map (rsv bs s) := forb_agree (agree_left (agree_right (put_agree (v := v1) (ob1 := ob1) d1)))
  -- what x does, at s
  rcases step_frameW (s' := s) w1 xI htg (fun _ _ => rfl) (fun _ _ => rfl) hx with ⟨e1, -⟩ | ⟨g1, g2, a', g3, g4, -⟩
  ·subst e1
   obtain ⟨e2, f1, f2, f3⟩ := step_frame (s' := s) ry w2 n2' (put_agree' d1) (by intro i _; rw [put_ob]) (by intro p _ hn; rw [put_ob] at hn; exact hn) hy
   rw [put_ob] at f2
   have hag : obAgree (x.forb.map (rsv bs s)) s.ob (s.put y.dst v2 (appE e2 s.ob)).ob := by
    intro i hi
    rw [put_ob]
    exact appE_get fun p a he hpi => hi (hpi ▸ hny p (f1 p a he))
   rcases step_frameW (s' := s.put y.dst v2 (appE e2 s.ob)) w1 xI htg (put_agree d3) hag hx with ⟨-, k2⟩ | ⟨k1, -, a', -, k4, k5⟩
   ·rw [put_ob] at k2
    refine (astep_iff yI).2 ⟨v2, _, f3, (astep_iff xI).2 ⟨v1, _, k2, ?_⟩⟩
    rw [← put_put d2 (o1 := s.ob), ← f2]; exact hk
   ·rw [put_ob] at k5
    refine (astep_iff yI).2 ⟨v2, _, f3, (astep_iff xI).2 ⟨v1, _, k5, ?_⟩⟩
    have : (appE e2 s.ob).set (rsv bs s k) a' = appE e2 s.ob := by
     have e0 : (s.ob.set (rsv bs s k) a')[rsv bs s k]? = s.ob[rsv bs s k]? := by rw [← k4]
     apply List.ext_getElem?
     intro i
     by_cases hi : rsv bs s k = i
     ·subst hi
      have hne : ∀ p a, e2 = some (p, a) → p ≠ rsv bs s k := fun p a he hpi => k1 (hpi ▸ hny p (f1 p a he))
      rw [appE_get hne]
      by_cases hlt : rsv bs s k < s.ob.length
      ·rw [List.getElem?_set_self hlt] at e0
       have hlt2 : rsv bs s k < (appE e2 s.ob).length := by
        cases e2 with
        | none => exact hlt
        | some q => obtain ⟨q1, q2⟩ := q; simpa [appE] using hlt
       rw [List.getElem?_set_self hlt2]; exact e0
      ·have hlt2 : ¬ rsv bs s k < (appE e2 s.ob).length := by
        cases e2 with
        | none => exact hlt
        | some q => obtain ⟨q1, q2⟩ := q; simpa [appE] using hlt
       rw [List.getElem?_eq_none (by simp; omega), List.getElem?_eq_none (by omega)]
     ·rw [List.getElem?_set_ne hi]
    rw [this, ← put_put d2 (o1 := s.ob), ← f2]; exact hk
  ·subst g4
   obtain ⟨e2, f1, f2, f3⟩ := step_frame (s' := s) ry w2 n2' (put_agree' d1) (by
     intro i hi
     rw [hfy] at hi
     rw [put_ob, List.getElem?_set_ne]
     rintro rfl; exact hi hky) (by
     intro p hp hn
     rw [put_ob] at hn
     by_cases hpo : rsv bs s k = p
     ·subst hpo
      have hlt : rsv bs s k < s.ob.length := by
       have := (List.getElem?_eq_some_iff.1 hn).1; simpa using this
      rw [List.getElem?_set_self hlt] at hn
      simp only [Option.some.injEq] at hn; exact absurd hn g3
     ·rw [List.getElem?_set_ne hpo] at hn; exact hn) hy
   rw [put_ob] at f2
   have hne : ∀ p a, e2 = some (p, a) → p ≠ rsv bs s k := fun p a he hpi => g1 (hpi ▸ hny p (f1 p a he))
   have hag : obAgree (x.forb.map (rsv bs s)) s.ob (s.put y.dst v2 (appE e2 s.ob)).ob := by
    intro i hi
    rw [put_ob]
    exact appE_get fun p a he hpi => hi (hpi ▸ hny p (f1 p a he))
   have hcomm : ∀ a, (appE e2 s.ob).set (rsv bs s k) a = appE e2 (s.ob.set (rsv bs s k) a) := by
    intro a
    cases e2 with
    | none => rfl
    | some q => obtain ⟨q1, q2⟩ := q; exact List.set_comm _ _ (hne q1 q2 rfl)
   rcases step_frameW (s' := s.put y.dst v2 (appE e2 s.ob)) w1 xI htg (put_agree d3) hag hx with ⟨k1, k2⟩ | ⟨-, -, a2, -, k4, k5⟩
   ·rw [put_ob] at k2
    refine (astep_iff yI).2 ⟨v2, _, f3, (astep_iff xI).2 ⟨v1, _, k2, ?_⟩⟩
    rw [← put_put d2 (o1 := s.ob)]
    rw [f2, k1] at hk; exact hk
   ·rw [put_ob] at k5
    refine (astep_iff yI).2 ⟨v2, _, f3, (astep_iff xI).2 ⟨v1, _, k5, ?_⟩⟩
    rw [hcomm, ← k4, ← put_put d2 (o1 := s.ob.set (rsv bs s k) a'), ← f2]; exact hk
theorem swap_wr' {x y : AOp} (xI : x.ao.isI = false) (yI : y.ao.isI = false) (hw : y.wr x = true) (d1 : ∀ t, x.dst = some t → y.looks.contains t = false) (d3 : ∀ t, y.dst = some t → x.looks.contains t = false) (d2 : ∀ t, x.dst = some t → y.dst ≠ some t)
  (h : AStep P bs x (AStep P bs y K) s) : AStep P bs y (AStep P bs x K) s := by
 obtain ⟨v1, ob1, hx, h⟩ := (astep_iff xI).1 h
 obtain ⟨v2, ob2, hy, hk⟩ := (astep_iff yI).1 h
 simp only [AOp.wr, Bool.and_eq_true, Bool.not_eq_true', Bool.or_eq_true] at hw
 obtain ⟨ry, ⟨⟨⟨⟨w1, -⟩, w2⟩, n2⟩, b1⟩, b2⟩ := hw
 have n2' : x.ao.news = true → x.nw ≠ none := by
  intro h e; rcases n2 with g | g
  ·rw [h] at g; cases g
  ·rw [e] at g; cases g
 cases htg : y.tgt with
 | none => rw [htg] at b1; cases b1
 | some k =>
  rw [htg] at b1
  simp only [] at b1
  have hkx : rsv bs s k ∈ x.forb.map (rsv bs s) := List.mem_map.2 ⟨k, by simpa using b1, rfl⟩
  have hnx : ∀ p, x.nw.map (bs + ·) = some p → p ∈ y.forb.map (rsv bs s) := by
   intro p hp
   cases hx' : x.nw with
   | none => rw [hx'] at hp; cases hp
   | some q =>
    rw [hx'] at hp b2
    simp only [Option.map_some, Option.some.injEq] at hp
    subst hp
    simp only [Bool.and_eq_true, decide_eq_true_eq] at b2
    exact place_in b2.2 b2.1
  have hagy := put_agree (s := s) (v := v1) (ob1 := ob1) d1
  have hfy : y.forb.map (rsv bs (s.put x.dst v1 ob1)) = y.forb.map (rsv bs s) := forb_agree (agree_left (agree_right hagy))
  have hky : rsv bs (s.put x.dst v1 ob1) k = rsv bs s k := rsv_agree (agree_left (agree_right hagy)) k (by simp [htg])
  obtain ⟨e1, g1, g2, -⟩ := step_frame (s' := s) ry w2 n2' (fun t _ => rfl) (fun i _ => rfl) (fun p _ h => h) hx
  have hag : obAgree (y.forb.map (rsv bs (s.put x.dst v1 ob1))) (s.put x.dst v1 ob1).ob s.ob := by
   intro i hi
   rw [hfy] at hi
   rw [put_ob, g2]
   exact (appE_get (i := i) fun p a he hpi => hi (hpi ▸ hnx p (g1 p a he))).symm
  rcases step_frameW (s' := s) w1 yI htg (put_agree' d1) hag hy with ⟨k1, k2⟩ | ⟨k1, k2, a', k3, k4, k5⟩
  ·rw [put_ob] at k1; subst k1
   refine (astep_iff yI).2 ⟨v2, s.ob, k2, (astep_iff xI).2 ⟨v1, ob2, step_looks (put_agree d3) (put_ob _ _ _ _) hx, by rw [← put_put d2 (o1 := ob2)]; exact hk⟩⟩
  ·rw [hky] at k1 k2 k4 k5
   rw [hfy] at k1
   rw [put_ob] at k2 k4
   obtain ⟨e3, g7, g8, g9⟩ := step_frame (s' := s.put y.dst v2 (s.ob.set (rsv bs s k) a')) ry w2 n2' (put_agree d3) (by
     intro i hi
     rw [put_ob, List.getElem?_set_ne]
     rintro rfl; exact hi hkx) (by
     intro p hp hn
     rw [put_ob]
     by_cases hpo : rsv bs s k = p
     ·exact absurd (hpo ▸ hnx p hp) k1
     ·rw [List.getElem?_set_ne hpo]; exact hn) hx
   rw [put_ob] at g9
   refine (astep_iff yI).2 ⟨v2, _, k5, (astep_iff xI).2 ⟨v1, _, g9, ?_⟩⟩
   have hcomm : appE e3 (s.ob.set (rsv bs s k) a') = (appE e3 s.ob).set (rsv bs s k) a' := by
    cases e3 with
    | none => rfl
    | some q =>
     obtain ⟨q1, q2⟩ := q
     exact List.set_comm _ _ (fun e => k1 (e ▸ hnx q1 (g7 q1 q2 rfl)))
   rw [hcomm, ← g8, ← k4, ← put_put d2 (o1 := ob1)]
   exact hk
theorem swap_fr {x y : AOp} (xI : x.ao.isI = false) (yI : y.ao.isI = false) (hw : x.fr y = true) (hpx : ∀ p, x.nw = some p → p < 1000000) (hpy : ∀ p, y.nw = some p → p < 1000000) (d1 : ∀ t, x.dst = some t → y.looks.contains t = false) (d3 : ∀ t, y.dst = some t → x.looks.contains t = false) (d2 : ∀ t, x.dst = some t → y.dst ≠ some t)
  (h : AStep P bs x (AStep P bs y K) s) : AStep P bs y (AStep P bs x K) s := by
 obtain ⟨v1, ob1, hx, h⟩ := (astep_iff xI).1 h
 obtain ⟨v2, ob2, hy, hk⟩ := (astep_iff yI).1 h
 refine (astep_iff yI).2 ?_
 simp only [AOp.fr, Bool.and_eq_true, Bool.not_eq_true', Bool.or_eq_true] at hw
 obtain ⟨⟨rx, ry⟩, ⟨⟨⟨⟨w1, w2⟩, n1⟩, n2⟩, b1⟩, b2⟩ := hw
 have n1' : x.ao.news = true → x.nw ≠ none := by
  intro h e; rcases n1 with g | g
  ·rw [h] at g; cases g
  ·rw [e] at g; cases g
 have n2' : y.ao.news = true → y.nw ≠ none := by
  intro h e; rcases n2 with g | g
  ·rw [h] at g; cases g
  ·rw [e] at g; cases g
 have hfy : y.forb.map (rsv bs (s.put x.dst v1 ob1)) = y.forb.map (rsv bs s) := forb_agree (agree_left (agree_right (put_agree (v := v1) (ob1 := ob1) d1)))
 have b1' : ∀ p, x.nw.map (bs + ·) = some p → p ∈ y.forb.map (rsv bs s) ∧ y.nw.map (bs + ·) ≠ some p := by
  intro p hp
  cases hx' : x.nw with
  | none => rw [hx'] at hp; cases hp
  | some q =>
   rw [hx'] at hp b1
   simp only [Option.map_some, Option.some.injEq] at hp
   subst hp
   simp only [Bool.and_eq_true, bne_iff_ne] at b1
   refine ⟨place_in (hpx q hx') b1.1, fun e => b1.2 ?_⟩
   cases hy' : y.nw with
   | none => rw [hy'] at e; cases e
   | some r => rw [hy'] at e; simp only [Option.map_some, Option.some.injEq] at e; congr 1; omega
 have b2' : ∀ p, y.nw.map (bs + ·) = some p → p ∈ x.forb.map (rsv bs s) := by
  intro p hp
  cases hy' : y.nw with
  | none => rw [hy'] at hp; cases hp
  | some q =>
   rw [hy'] at hp b2
   simp only [Option.map_some, Option.some.injEq] at hp
   subst hp
   exact place_in (hpy q hy') b2
 obtain ⟨e1, g1, g2, -⟩ := step_frame (s' := s) rx w1 n1' (fun t _ => rfl) (fun i _ => rfl) (fun p _ h => h) hx
 obtain ⟨e2, g4, g5, g6⟩ := step_frame (s' := s) ry w2 n2' (put_agree' (v := v1) (ob1 := ob1) d1) (by
   intro i hi
   rw [hfy] at hi
   rw [put_ob, g2]
   exact (appE_get (i := i) fun p a he hpi => hi (hpi ▸ (b1' p (g1 p a he)).1)).symm) (by
   intro q hq hn
   rw [put_ob, g2, appE_get] at hn
   ·exact hn
   ·rintro p a he rfl; exact (b1' p (g1 p a he)).2 hq) hy
 rw [put_ob] at g5
 obtain ⟨e3, g7, g8, g9⟩ := step_frame (s' := s.put y.dst v2 (appE e2 s.ob)) rx w1 n1' (put_agree d3) (by
   intro i hi
   rw [put_ob]
   exact appE_get fun p a he hpi => hi (hpi ▸ b2' p (g4 p a he))) (by
   intro p hp hn
   rw [put_ob, appE_get]
   ·exact hn
   ·rintro q a he rfl; exact (b1' q hp).2 (g4 q a he)) hx
 refine ⟨v2, appE e2 s.ob, g6, (astep_iff xI).2 ⟨v1, _, g9, ?_⟩⟩
 rw [put_ob, appE_comm (fun p a q b h1 h2 e => by subst e; exact (b1' p (g7 p a h1)).2 (g4 p b h2)), ← g8, ← g5, ← put_put d2 (o1 := ob1)]
 exact hk
theorem qt_ob {o : AOp} (hq : o.qt = true) (h : StepE P bs o s v ob') : ob' = s.ob := by
 simp only [AOp.qt, Bool.and_eq_true, Bool.not_eq_true'] at hq
 obtain ⟨h1, h2, h3, h4⟩ := hq
 by_cases hr : o.ao.isR = true
 ·have he : ∀ {v ob'}, ExecE P bs o s v ob' → ob' = s.ob := by
   intro v ob' h
   unfold ExecE at h
   cases hao : o.ao <;> rw [hao] at hr h <;> first | (cases hr; done) | exact h.2 | (simp only [] at h; split at h; (exact h.2); (exact h.elim))
  unfold StepE at h
  cases hgd : o.guard with
  | none => rw [hgd] at h; exact he h
  | some g =>
   rw [hgd] at h
   simp only [] at h
   split at h
   ·exact he h
   ·exact h.2
   ·exact h.elim
 ·obtain ⟨e, g1, g2, -⟩ := step_frame (s' := s) (by simpa using hr) h1 (fun h => by rw [h2] at h; cases h) (fun t _ => rfl) (fun i _ => rfl) (fun p _ h => h) h
  cases e with
  | none => exact g2
  | some q =>
   have := g1 q.1 q.2 rfl
   rw [Option.isNone_iff_eq_none.1 h4] at this
   cases this
theorem swap_q {x y : AOp} (hx : x.qt = true) (hy : y.qt = true) (d1 : ∀ t, x.dst = some t → y.looks.contains t = false) (d3 : ∀ t, y.dst = some t → x.looks.contains t = false) (d2 : ∀ t, x.dst = some t → y.dst ≠ some t)
  (h : AStep P bs x (AStep P bs y K) s) : AStep P bs y (AStep P bs x K) s := by
 have xI : x.ao.isI = false := by simp only [AOp.qt, Bool.and_eq_true, Bool.not_eq_true'] at hx; exact hx.2.2.1
 have yI : y.ao.isI = false := by simp only [AOp.qt, Bool.and_eq_true, Bool.not_eq_true'] at hy; exact hy.2.2.1
 obtain ⟨v1, ob1, h1, h⟩ := (astep_iff xI).1 h
 have e1 := qt_ob hx h1
 subst e1
 obtain ⟨v2, ob2, h2, hk⟩ := (astep_iff yI).1 h
 have e2 := qt_ob hy h2
 rw [put_ob] at e2
 subst e2
 refine (astep_iff yI).2 ⟨v2, s.ob, step_looks (put_agree' d1) (put_ob _ _ _ _).symm h2, (astep_iff xI).2 ⟨v1, s.ob, step_looks (put_agree d3) (put_ob _ _ _ _) h1, ?_⟩⟩
 rw [← put_put d2 (o1 := s.ob)]; exact hk
theorem swap {x y : AOp} (hap : x.apart y = true) (h : AStep P bs x (AStep P bs y K) s) : AStep P bs y (AStep P bs x K) s := by
 simp only [AOp.apart, Bool.and_eq_true] at hap
 obtain ⟨a1, a2, a3, a4, a5⟩ := hap
 have d1 : ∀ t, x.dst = some t → y.looks.contains t = false := by
  intro t ht; rw [ht] at a1; simp only [Bool.and_eq_true, Bool.not_eq_true'] at a1; exact a1.1
 have d2 : ∀ t, x.dst = some t → y.dst ≠ some t := by
  intro t ht; rw [ht] at a1; simp only [Bool.and_eq_true, bne_iff_ne] at a1; exact a1.2
 have d3 : ∀ t, y.dst = some t → x.looks.contains t = false := by
  intro t ht; rw [ht] at a2; simpa using a2
 have hpx : ∀ p, x.nw = some p → p < 1000000 := by
  intro p hp; rw [hp] at a4; simpa using a4
 have hpy : ∀ p, y.nw = some p → p < 1000000 := by
  intro p hp; rw [hp] at a5; simpa using a5
 by_cases xI : x.ao.isI = true
 ·have px : x.ao.pure = false := by
   cases hp : x.ao.pure with
   | false => rfl
   | true => rw [pure_notI hp] at xI; cases xI
  have wx : x.ao.writes = true := by
   revert xI; cases x.ao <;> first | (intro; rfl) | (intro h; cases h)
  have py : y.ao.pure = true := by
   simpa [px, wx, xI, AOp.fr, AOp.wr, AOp.qt] using a3
  have yI := pure_notI py
  obtain ⟨r0, ob0, h0⟩ := AStep_ex h
  obtain ⟨v2, ob2, hy, _⟩ := (astep_iff yI).1 h0
  obtain ⟨-, e2⟩ := step_pure (s' := s) py (put_agree' d1) hy
  refine (astep_iff yI).2 ⟨v2, s.ob, e2, stepI xI (put_agree d3) (put_ob _ _ _ _) (fun r ob hk => ?_) h⟩
  obtain ⟨v3, ob3, hy3, hk3⟩ := (astep_iff yI).1 hk
  obtain ⟨e3, e4⟩ := step_pure (s' := s) py (put_agree' d1) hy3
  rw [put_ob] at e3; subst e3
  have := step_det py e2 e4; subst this
  rw [← put_put d2 (o1 := ob3)]; exact hk3
 by_cases yI : y.ao.isI = true
 ·have py : y.ao.pure = false := by
   cases hp : y.ao.pure with
   | false => rfl
   | true => rw [pure_notI hp] at yI; cases yI
  have wy : y.ao.writes = true := by
   revert yI; cases y.ao <;> first | (intro; rfl) | (intro h; cases h)
  have px : x.ao.pure = true := by
   simpa [py, wy, yI, AOp.fr, AOp.wr, AOp.qt] using a3
  have xI' := pure_notI px
  obtain ⟨v1, ob1, hx, h⟩ := (astep_iff xI').1 h
  obtain ⟨e1, -⟩ := step_pure (s' := s) px (fun _ _ => rfl) hx
  subst e1
  refine stepI yI (put_agree' d1) (put_ob _ _ _ _).symm (fun r ob hk => ?_) h
  obtain ⟨-, e4⟩ := step_pure (s' := s.put y.dst r ob) px (put_agree d3) hx
  rw [put_ob] at e4
  refine (astep_iff xI').2 ⟨v1, ob, e4, ?_⟩
  rw [← put_put d2 (o1 := s.ob)]; exact hk
 have xI' : x.ao.isI = false := by simpa using xI
 have yI' : y.ao.isI = false := by simpa using yI
 by_cases py : y.ao.pure = true
 ·obtain ⟨v1, ob1, hx, h⟩ := (astep_iff xI').1 h
  obtain ⟨v2, ob2, hy, hk⟩ := (astep_iff yI').1 h
  obtain ⟨e1, e2⟩ := step_pure py (put_agree' (v := v1) (ob1 := ob1) d1) hy
  rw [put_ob] at e1; subst e1
  exact (astep_iff yI').2 ⟨v2, s.ob, e2, (astep_iff xI').2 ⟨v1, ob2, step_looks (put_agree d3) (put_ob _ _ _ _) hx, by rw [← put_put d2 (o1 := ob2)]; exact hk⟩⟩
 by_cases px : x.ao.pure = true
 ·obtain ⟨v1, ob1, hx, h⟩ := (astep_iff xI').1 h
  obtain ⟨v2, ob2, hy, hk⟩ := (astep_iff yI').1 h
  obtain ⟨e1, e2⟩ := step_pure px (put_agree (v := v2) (ob1 := ob2) d3) hx
  subst e1
  rw [put_ob] at e2
  exact (astep_iff yI').2 ⟨v2, ob2, step_looks (put_agree' d1) (put_ob _ _ _ _).symm hy, (astep_iff xI').2 ⟨v1, ob2, e2, by rw [← put_put d2 (o1 := s.ob)]; exact hk⟩⟩
 simp only [px, py, Bool.false_or, Bool.or_eq_true] at a3
 rcases a3 with a3 | a3 | a3 | a3
 ·simp only [Bool.and_eq_true] at a3; exact swap_q a3.1 a3.2 d1 d3 d2 h
 ·exact swap_fr xI' yI' a3 hpx hpy d1 d3 d2 h
 ·exact swap_wr xI' yI' a3 d1 d3 d2 h
 ·exact swap_wr' xI' yI' a3 d1 d3 d2 h
theorem move_front {ap : Nat → AOp} {i : Nat} {post : List Nat} : ∀ (pre : List Nat) (s : St), (∀ j ∈ pre, (ap j).apart (ap i) = true) → AOps P bs ((pre ++ i :: post).map ap) K s → AStep P bs (ap i) (AOps P bs ((pre ++ post).map ap) K) s
 | [], s, _, h => h
 | j :: pre, s, hap, h => by
  simp only [List.cons_append, List.map_cons, AOps] at h ⊢
  exact swap (hap j (by simp)) (AStep_mono (fun s' h' => move_front pre s' (fun k hk => hap k (List.mem_cons_of_mem _ hk)) h') h)
end
def predsOf (o : Oper) : List Nat := (o.after.toList.filter (Region.binds .any)).map (·.on)
def masks : List (List Nat) → List Nat → List Nat
 | [], acc => acc
 | ps :: r, acc => masks r (acc ++ [ps.foldl (fun m k => m ||| ((1 <<< k) ||| acc.getD k 0)) 0])
def Good (pl : List (List Nat)) (M : List Nat) : Prop :=
 M.length = pl.length ∧ ∀ i j, (M.getD i 0).testBit j = true → ∃ ps, pl[i]? = some ps ∧ ∃ k ∈ ps, k = j ∨ ((M.getD k 0).testBit j = true ∧ k < i)
theorem fold_bit {acc : List Nat} {j : Nat} : ∀ (ps : List Nat) (m : Nat), (ps.foldl (fun m k => m ||| ((1 <<< k) ||| acc.getD k 0)) m).testBit j = true → m.testBit j = true ∨ ∃ k ∈ ps, k = j ∨ (acc.getD k 0).testBit j = true
 | [], m, h => .inl h
 | k :: ps, m, h => by
  rcases fold_bit ps _ h with h1 | ⟨k', h1, h2⟩
  ·rw [Nat.testBit_or, Nat.testBit_or, Bool.or_eq_true, Bool.or_eq_true] at h1
   rcases h1 with h1 | h1 | h1
   ·exact .inl h1
   ·right
    refine ⟨k, by simp, .inl ?_⟩
    rw [Nat.one_shiftLeft, Nat.testBit_two_pow] at h1
    simpa using h1
   ·exact .inr ⟨k, by simp, .inr h1⟩
  ·exact .inr ⟨k', by simp [h1], h2⟩
theorem masks_good : ∀ (r : List (List Nat)) (pre : List (List Nat)) (acc : List Nat), Good pre acc → Good (pre ++ r) (masks r acc)
 | [], pre, acc, h => by rw [List.append_nil]; exact h
 | ps :: r, pre, acc, h => by
  have := masks_good r (pre ++ [ps]) (acc ++ [ps.foldl (fun m k => m ||| ((1 <<< k) ||| acc.getD k 0)) 0]) ?_
  ·rw [List.append_assoc] at this; exact this
  refine ⟨by simp [h.1], fun i j hij => ?_⟩
  have hget : ∀ k, k < acc.length → (acc ++ [ps.foldl (fun m k => m ||| ((1 <<< k) ||| acc.getD k 0)) 0]).getD k 0 = acc.getD k 0 := by
   intro k hk; simp [List.getD_eq_getElem?_getD, List.getElem?_append_left hk]
  rcases Nat.lt_trichotomy i acc.length with hlt | heq | hgt
  ·rw [hget i hlt] at hij
   obtain ⟨qs, h1, k, h2, h3⟩ := h.2 i j hij
   have hl : i < pre.length := by rw [← h.1]; exact hlt
   refine ⟨qs, by rw [List.getElem?_append_left hl]; exact h1, k, h2, ?_⟩
   rcases h3 with h3 | ⟨h3, h4⟩
   ·exact .inl h3
   ·exact .inr ⟨by rw [hget k (by omega)]; exact h3, h4⟩
  ·subst heq
   have e : (acc ++ [ps.foldl (fun m k => m ||| ((1 <<< k) ||| acc.getD k 0)) 0]).getD acc.length 0 = ps.foldl (fun m k => m ||| ((1 <<< k) ||| acc.getD k 0)) 0 := by
    simp [List.getD_eq_getElem?_getD]
   rw [e] at hij
   refine ⟨ps, by rw [h.1, List.getElem?_append_right (Nat.le_refl _)]; simp, ?_⟩
   rcases fold_bit ps 0 hij with h1 | ⟨k, h1, h2⟩
   ·simp at h1
   ·refine ⟨k, h1, ?_⟩
    rcases h2 with h2 | h2
    ·exact .inl h2
    ·have hk : k < acc.length := by
      rcases Nat.lt_or_ge k acc.length with hk | hk
      ·exact hk
      ·rw [List.getD_eq_getElem?_getD, List.getElem?_eq_none hk] at h2
       simp at h2
     exact .inr ⟨by rw [hget k hk]; exact h2, hk⟩
  ·rw [List.getD_eq_getElem?_getD, List.getElem?_eq_none (by simp; omega)] at hij
   simp at hij
def places : List AOp → Nat → List (Option Nat)
 | [], _ => []
 | o :: r, n => if o.ao.news then some n :: places r (n + 1) else none :: places r n
def rootOf (aps : List AOp) (pls : List (Option Nat)) : Nat → Nat → Nat
 | 0, t => 1000000 + t
 | fuel + 1, t =>
  match aps.findIdx? fun o => o.dst == some t with
  | none => 1000000 + t
  | some i =>
   match aps[i]? with
   | some o =>
    match o.ao with
    | .mv (.t u) | .nilck (.t u) | .faddr _ (.t u) | .iarr _ _ (.t u) _ | .isl _ (.t u) _ | .ssl _ (.t u) _ _ | .app _ _ _ (.t u) _ | .apps _ (.t u) _ => rootOf aps pls fuel u
    | _ => (pls.getD i none).getD (1000000 + t)
   | none => 1000000 + t
def tgtOf (aps : List AOp) (pls : List (Option Nat)) (o : AOp) : Option Nat :=
 match o.ao with
 | .store _ (.t u) _ => some (rootOf aps pls aps.length u)
 | .app _ _ _ (.t u) _ => some (rootOf aps pls aps.length u)
 | .apps _ (.t u) _ => some (rootOf aps pls aps.length u)
 | _ => none
def forbOf (pls tgs : List (Option Nat)) (own : Option Nat) (m i : Nat) : List Nat :=
 ((pls.zipIdx.filterMap fun (p, j) => if j == i || m.testBit j then none else p) ++ (tgs.zipIdx.filterMap fun (p, j) => if j == i || m.testBit j || p == own then none else p)).eraseDups
def needT (aps : List AOp) (M : List Nat) (i : Nat) : Bool :=
 aps.zipIdx.any fun (o, j) => j != i && !o.ao.pure && !(M.getD i 0).testBit j && !(M.getD j 0).testBit i
def ordM (M : List Nat) (i : Nat) : Nat := M.zipIdx.foldl (fun a (m, j) => if m.testBit i then a ||| (1 <<< j) else a) (M.getD i 0)
def drawL (aps : List AOp) (M : List Nat) : List AOp :=
 let pls := places aps 0
 let tgs := aps.zipIdx.map fun (ap, i) => if needT aps M i then tgtOf aps pls ap else none
 aps.zipIdx.map fun (ap, i) => if ap.ao.pure then ap else { ap with nw := pls.getD i none, forb := forbOf pls tgs (tgtOf aps pls ap) (ordM M i) i, tgt := tgs.getD i none }
def drawOk (l : List AOp) (pl : List (List Nat)) (M : List Nat) : Bool :=
 (pl.zipIdx.all fun (ps, i) => ps.all fun k => decide (k < i)) &&
 (l.zipIdx.all fun (y, i) => (l.take i).zipIdx.all fun (x, j) => (M.getD i 0).testBit j || x.apart y)
def drawOwn (own : List Nat) : List Nat := own.flatMap fun k => if 5000000 ≤ k ∧ k < 6000000 then [k - 1000000] else [k]
def drawR (P : Program) (own : List Nat) (n : Nat) (ops : Array Oper) : Option AC :=
 if P.follows .mixedOrders = true then
  match ops.toList.mapM (compA P (drawOwn own) n ops) with
  | some aps =>
   let pl := ops.toList.map predsOf
   let M := masks pl []
   let l := drawL aps M
   if drawOk l pl M = true then some (.dreg ((places aps 0).filterMap id).length l) else none
  | none => none
 else none
section
variable {P : Program} {c : Ctx} {g : Start} {own : List Nat} {ops : Array Oper}
def remL (n : Nat) (listed : Array Bool) : List Nat := (List.range n).filter fun i => !listed.getD i true
theorem mem_rem {n : Nat} {listed : Array Bool} {i : Nat} : i ∈ remL n listed ↔ i < n ∧ listed.getD i true = false := by
 simp [remL]
theorem getD_set {listed : Array Bool} {k : Nat} (i : Nat) (h : listed.getD k true = true) : (listed.setIfInBounds i true).getD k true = true := by
 by_cases hks : k < listed.size
 ·simp only [Array.getD, hks, Array.size_setIfInBounds, dif_pos, Array.getInternal_eq_getElem] at h ⊢
  rw [Array.getElem_setIfInBounds]
  split
  ·rfl
  ·exact h
 ·simp [Array.getD, hks]
theorem any_sound {Q : Exit → Act → World → Prop} {bs : Nat} {K : St → Prop} {ap : Nat → AOp} {M : List Nat} (x0 y0 : Nat) (hM : Good (ops.toList.map predsOf) M)
  (hcomp : ∀ i o, ops[i]? = some o → ∃ ap0 nw tgt forb, compA P own c.n ops o = some ap0 ∧ ap i = { ap0 with nw := nw, forb := forb, tgt := tgt })
  (hback : ∀ i o, ops[i]? = some o → ∀ k ∈ predsOf o, k < i) (hap : ∀ i j, j < i → i < ops.size → (M.getD i 0).testBit j = false → ¬ (j = y0 ∧ i = x0) → (ap j).apart (ap i) = true)
  (hQ : ∀ s' a' w', K s' → Rep c g s' a' w' → Q .normal a' w') :
  ∀ (fuel : Nat) (listed : Array Bool) (s : St) (a : Act) (w : World), listed.size = ops.size → (listed.getD x0 true = true ∨ listed.getD y0 true = true) → (∀ i o, ops[i]? = some o → listed.getD i true = true → ∀ k ∈ predsOf o, listed.getD k true = true) → (remL ops.size listed).length = fuel →
   Rep c g s a w → AOps P bs ((remL ops.size listed).map ap) K s → wpAny P .any ops Q fuel listed a w := by
 have hready : ∀ (listed : Array Bool) i, listed.size = ops.size → i ∈ Region.ready .any ops listed → i ∈ remL ops.size listed ∧ ∀ o, ops[i]? = some o → ∀ k ∈ predsOf o, listed.getD k true = true := by
  intro listed i hsz hi
  unfold Region.ready at hi
  simp only [List.mem_filter, List.mem_range, Bool.and_eq_true, Bool.not_eq_true'] at hi
  obtain ⟨h1, h2, h3⟩ := hi
  refine ⟨mem_rem.2 ⟨h1, h2⟩, fun o ho k hk => ?_⟩
  rw [ho] at h3
  simp only [Option.map_some, Option.getD_some, Array.all_eq_true'] at h3
  simp only [predsOf, List.mem_map, List.mem_filter] at hk
  obtain ⟨e, ⟨he, hb⟩, rfl⟩ := hk
  have := h3 e (by simpa using he)
  rw [hb] at this
  simp only [Bool.not_true, Bool.false_or] at this
  by_cases hlt : e.on < listed.size
  ·simpa [Array.getD, hlt] using this
  ·simp [Array.getD, hlt] at this
 intro fuel
 induction fuel with
 | zero =>
  intro listed s a w hsz hex hcl hlen hR hk
  have hnil : remL ops.size listed = [] := List.eq_nil_of_length_eq_zero hlen
  rw [hnil] at hk
  refine ⟨?_, hQ _ _ _ hk hR⟩
  apply List.eq_nil_iff_forall_not_mem.2
  intro i hi
  have := (hready listed i hsz hi).1
  rw [hnil] at this; cases this
 | succ fuel ih =>
  intro listed s a w hsz hex hcl hlen hR hk
  refine ⟨fun hr => ?_, fun i hi => ?_⟩
  ·exfalso
   have key : ∀ n, n ∈ remL ops.size listed → False := by
    intro n
    induction n using Nat.strongRecOn with
    | _ n ihn =>
     intro hn
     obtain ⟨h1, h2⟩ := mem_rem.1 hn
     have : n ∈ Region.ready .any ops listed := by
      unfold Region.ready
      simp only [List.mem_filter, List.mem_range, Bool.and_eq_true, Bool.not_eq_true']
      refine ⟨h1, h2, ?_⟩
      rw [Array.getElem?_eq_getElem h1]
      simp only [Option.map_some, Option.getD_some, Array.all_eq_true', Bool.or_eq_true, Bool.not_eq_true']
      intro e he
      by_cases hb : Region.binds .any e = true
      ·right
       have hp : e.on ∈ predsOf ops[n] := by
        simp only [predsOf, List.mem_map, List.mem_filter]
        exact ⟨e, ⟨by simpa using he, hb⟩, rfl⟩
       have hlt := hback n ops[n] (Array.getElem?_eq_getElem h1) _ hp
       have hin : e.on < listed.size := by omega
       cases hl : listed.getD e.on true with
       | true => simpa [Array.getD, hin] using hl
       | false => exact (ihn e.on hlt (mem_rem.2 ⟨by omega, hl⟩)).elim
      ·left; simpa using hb
     rw [hr] at this; cases this
   cases hrem : remL ops.size listed with
   | nil => rw [hrem] at hlen; cases hlen
   | cons n r => exact key n (by rw [hrem]; simp)
  ·obtain ⟨hi1, hi2⟩ := hready listed i hsz hi
   obtain ⟨hlt, hun⟩ := mem_rem.1 hi1
   obtain ⟨pre, post, hsplit⟩ := List.append_of_mem hi1
   have hpw : (remL ops.size listed).Pairwise (· < ·) := List.Pairwise.filter _ List.pairwise_lt_range
   rw [hsplit, List.pairwise_append] at hpw
   have hpre : ∀ j ∈ pre, j < i := fun j hj => hpw.2.2 j hj i (by simp)
   have hpost : ∀ j ∈ post, i < j := fun j hj => (List.pairwise_cons.1 hpw.2.1).1 j hj
   have hanc : ∀ n, (listed.getD n true = true) → n < ops.size → ∀ j, (M.getD n 0).testBit j = true → listed.getD j true = true := by
    intro n
    induction n using Nat.strongRecOn with
    | _ n ihn =>
     intro hl hn j hj
     obtain ⟨ps, h1, k, h2, h3⟩ := hM.2 n j hj
     simp only [List.getElem?_map, Array.getElem?_toList, Array.getElem?_eq_getElem hn, Option.map_some, Option.some.injEq] at h1
     subst h1
     have hlk := hcl n _ (Array.getElem?_eq_getElem hn) hl k h2
     rcases h3 with rfl | ⟨h3, h4⟩
     ·exact hlk
     ·exact ihn k h4 hlk (by omega) j h3
   have hapart : ∀ j ∈ pre, (ap j).apart (ap i) = true := by
    intro j hj
    refine hap i j (hpre j hj) hlt ?_ (by
     rintro ⟨rfl, rfl⟩
     have hjr : j ∈ remL ops.size listed := by rw [hsplit]; simp [hj]
     rcases hex with h | h
     ·rw [hun] at h; cases h
     ·rw [(mem_rem.1 hjr).2] at h; cases h)
    cases hb : (M.getD i 0).testBit j with
    | false => rfl
    | true =>
     exfalso
     have hjr : j ∈ remL ops.size listed := by rw [hsplit]; simp [hj]
     obtain ⟨ps, h1, k, h2, h3⟩ := hM.2 i j hb
     simp only [List.getElem?_map, Array.getElem?_toList, Array.getElem?_eq_getElem hlt, Option.map_some, Option.some.injEq] at h1
     subst h1
     have hlk := hi2 _ (Array.getElem?_eq_getElem hlt) k h2
     have : listed.getD j true = true := by
      rcases h3 with rfl | ⟨h3, h4⟩
      ·exact hlk
      ·exact hanc k hlk (by omega) j h3
     rw [(mem_rem.1 hjr).2] at this; cases this
   have hrem' : remL ops.size (listed.setIfInBounds i true) = pre ++ post := by
    have e : remL ops.size (listed.setIfInBounds i true) = (remL ops.size listed).filter fun j => decide (j ≠ i) := by
     unfold remL
     rw [List.filter_filter]
     apply List.filter_congr
     intro j hj
     have hjn : j < ops.size := List.mem_range.1 hj
     by_cases hji : j = i
     ·subst hji
      simp [Array.getD, hsz, hlt]
     ·simp [Array.getD, hsz, hjn, Array.getElem_setIfInBounds, Ne.symm hji, hji]
    rw [e, hsplit, List.filter_append, List.filter_cons_of_neg (by simp), List.filter_eq_self.2, List.filter_eq_self.2]
    ·intro j hj; have := hpost j hj; simp; omega
    ·intro j hj; have := hpre j hj; simp; omega
   rw [hsplit] at hk
   have hfront := move_front pre s hapart hk
   obtain ⟨ap0, nw, tgt, forb, hc, he⟩ := hcomp i ops[i] (Array.getElem?_eq_getElem hlt)
   rw [he] at hfront
   refine astep_sound (Array.getElem?_eq_getElem hlt) hc hR hfront fun s' a' w' hk' hR' => ?_
   refine ih _ s' a' w' (by simp [hsz]) (hex.imp (getD_set i) (getD_set i)) ?_ ?_ hR' (by rw [hrem']; exact hk')
   ·intro n o ho hl k hkp
    by_cases hni : n = i
    ·subst hni
     have := hi2 o ho k hkp
     by_cases hkn : k = n
     ·subst hkn; simp [Array.getD, hsz, hlt]
     ·by_cases hks : k < listed.size
      ·simp only [Array.getD, hks, Array.size_setIfInBounds, dif_pos, Array.getInternal_eq_getElem] at this ⊢
       rw [Array.getElem_setIfInBounds]; simp [Ne.symm hkn]; exact this
      ·simp [Array.getD, hks]
    ·have hns : n < ops.size := (Array.getElem?_eq_some_iff.1 ho).1
     have hl' : listed.getD n true = true := by
      simp only [Array.getD, Array.size_setIfInBounds, hsz, hns, dif_pos, Array.getInternal_eq_getElem, Array.getElem_setIfInBounds, Ne.symm hni, if_false] at hl ⊢
      exact hl
     have := hcl n o ho hl' k hkp
     by_cases hki : k = i
     ·subst hki; rw [hun] at this; cases this
     ·by_cases hks : k < listed.size
      ·simp only [Array.getD, hks, Array.size_setIfInBounds, dif_pos, Array.getInternal_eq_getElem] at this ⊢
       rw [Array.getElem_setIfInBounds]; simp [Ne.symm hki]; exact this
      ·simp [Array.getD, hks]
   ·rw [hrem']
    rw [hsplit] at hlen
    simp at hlen ⊢; omega
def Closed (ops : Array Oper) (listed : Array Bool) : Prop := ∀ i o, ops[i]? = some o → listed.getD i true = true → ∀ k ∈ predsOf o, listed.getD k true = true
theorem compA_plain {n : Nat} {o : Oper} {ap : AOp} (hc : compA P own n ops o = some ap) : ap = { ap with nw := none, forb := [], tgt := none } := by
 unfold compA at hc
 split at hc
 ·split at hc
  ·split at hc
   ·simp only [Option.some.injEq] at hc; subst hc; rfl
   ·split at hc
    ·simp only [Option.some.injEq] at hc; subst hc; rfl
    ·cases hc
  ·cases hc
 ·cases hc
theorem Rep.drew {s : St} {a : Act} {w : World} (h : Rep c g s a w) : Rep c g s a { w with drawn := w.drawn + 1 } := by
 obtain ⟨F, l, R, hs, hm, hd, hz⟩ := h
 obtain ⟨R', m⟩ := R.ext (w' := { w with drawn := w.drawn + 1 }) ⟨rfl, rfl, rfl, Nat.le_refl _, fun _ _ => rfl⟩
 exact ⟨F, l, R', hs.up m, hm.trans m, hd, hz⟩
theorem Rep.places {s : St} {a : Act} {w : World} (m : Nat) (h : Rep c g s a w) : Rep c g ⟨s.sl, s.ob ++ List.replicate m .none⟩ a w := by
 obtain ⟨F, l, R, hs, hm, hd, hz⟩ := h
 refine ⟨F, l, ⟨R.below, R.f0, R.fn, R.flt, fun o L ho => by have := R.lt o L ho; simp; omega, ?_, R.own, R.inj⟩, hs, hm, hd, hz⟩
 intro o ao ho
 by_cases hlt : o < s.ob.length
 ·rw [List.getElem?_append_left hlt] at ho; exact R.objs o ao ho
 ·rw [List.getElem?_append_right (by omega), List.getElem?_replicate] at ho
  split at ho
  ·cases ho
   refine .inl ⟨rfl, ?_⟩
   cases hl : l o with
   | none => rfl
   | some L => exact absurd (R.lt o L hl) hlt
  ·cases ho
theorem drawL_comp {aps : List AOp} {M : List Nat} (haps : ops.toList.mapM (compA P own c.n ops) = some aps) : ∀ i o, ops[i]? = some o → ∃ ap0 nw tgt forb, compA P own c.n ops o = some ap0 ∧ (drawL aps M).getD i ⟨none, .lenc 0, none, none, [], none⟩ = { ap0 with nw := nw, forb := forb, tgt := tgt } := by
 intro i o ho
 have hlen0 := mapM_length _ _ _ haps
 have hlen : aps.length = ops.size := by simpa using hlen0
 have hi : i < ops.size := (Array.getElem?_eq_some_iff.1 ho).1
 have hia : i < aps.length := by omega
 have hll : (drawL aps M).length = ops.size := by simp [drawL, hlen]
 obtain ⟨x, h1, h2⟩ := mapM_get _ _ _ haps i aps[i] (List.getElem?_eq_getElem hia)
 rw [Array.getElem?_toList, ho] at h1
 simp only [Option.some.injEq] at h1; subst h1
 have hli : (drawL aps M).getD i ⟨none, .lenc 0, none, none, [], none⟩ = (drawL aps M)[i]'(by omega) := by
  rw [List.getD_eq_getElem?_getD, List.getElem?_eq_getElem (by omega)]; rfl
 have hself := compA_plain h2
 by_cases hpu : aps[i].ao.pure = true
 ·refine ⟨aps[i], none, none, [], h2, ?_⟩
  rw [hli, ← hself]
  simp [drawL, hpu]
 ·have key : ∃ nw tgt forb, (drawL aps M)[i]'(by omega) = { aps[i] with nw := nw, forb := forb, tgt := tgt } := by
   simp only [drawL, List.getElem_map, List.getElem_zipIdx, Nat.zero_add]
   rw [if_neg hpu]
   exact ⟨_, _, _, rfl⟩
  obtain ⟨nw, tgt, forb, hkey⟩ := key
  exact ⟨aps[i], nw, tgt, forb, h2, by rw [hli]; exact hkey⟩
theorem drawR_sound (c : Ctx) (g : Start) : DrSound P own c g (drawR P own c.n) := by
 intro ops ac hdr id Q s a w hk hR
 unfold drawR at hdr
 generalize drawOwn own = own at hdr
 split at hdr
 ·rename_i hmix
  split at hdr
  ·rename_i aps haps
   simp only [] at hdr
   have hlen0 := mapM_length _ _ _ haps
   have hlen : aps.length = ops.size := by simpa using hlen0
   have hcomp := drawL_comp (c := c) (M := masks (ops.toList.map predsOf) []) haps
   generalize hl : drawL aps (masks (ops.toList.map predsOf) []) = l at hdr hcomp
   have hll : l.length = ops.size := by rw [← hl]; simp [drawL, hlen]
   have hget : ∀ i, i < ops.size → l[i]? = some (l.getD i ⟨none, .lenc 0, none, none, [], none⟩) := by
    intro i hi
    rw [List.getD_eq_getElem?_getD, List.getElem?_eq_getElem (by omega)]; rfl
   have hgood : Good (ops.toList.map predsOf) (masks (ops.toList.map predsOf) []) := by
    have := masks_good (ops.toList.map predsOf) [] [] ⟨rfl, fun i j h => by simp at h⟩
    simpa using this
   have hback : ∀ {b : Bool}, ((ops.toList.map predsOf).zipIdx.all fun (ps, i) => ps.all fun k => decide (k < i)) = true → ∀ i o, ops[i]? = some o → ∀ k ∈ predsOf o, k < i := by
    intro _ hok i o ho k hkp
    have h1 := List.all_eq_true.1 hok (predsOf o, i) (by
     rw [List.mem_zipIdx_iff_getElem?]
     simp [ho])
    exact of_decide_eq_true (List.all_eq_true.1 h1 k hkp)
   have hclo : Closed ops (Array.replicate ops.size false) := by
    intro i o ho hli
    have hi : i < ops.size := (Array.getElem?_eq_some_iff.1 ho).1
    simp [Array.getD, hi] at hli
   have hunl : ∀ i, i < ops.size → (Array.replicate ops.size false).getD i true = false := fun i hi => by simp [Array.getD, hi]
   have hmap : ∀ y m, y + m ≤ ops.size → (List.range' y m).map (fun i => l.getD i ⟨none, .lenc 0, none, none, [], none⟩) = (l.drop y).take m := by
    intro y m hym
    apply List.ext_getElem?
    intro i
    by_cases hi : i < m
    ·rw [List.getElem?_take, if_pos hi, List.getElem?_drop, hget _ (by omega)]; simp [hi]
    ·rw [List.getElem?_eq_none (by simp; omega), List.getElem?_eq_none (by simp; omega)]
   split at hdr
   ·rename_i hok
    simp only [Option.some.injEq] at hdr; subst hdr
    simp only [AWP] at hk
    unfold drawOk at hok
    rw [Bool.and_eq_true] at hok
    have hrem : remL ops.size (Array.replicate ops.size false) = List.range ops.size := by
     unfold remL
     apply List.filter_eq_self.2
     intro i hi
     have : i < ops.size := List.mem_range.1 hi
     simp [Array.getD, this]
    refine wp_region_any hmix (any_sound (P := P) (own := own) (c := c) (g := g) (bs := s.ob.length) (K := Q .n) (ap := fun i => l.getD i ⟨none, .lenc 0, none, none, [], none⟩) ops.size ops.size hgood hcomp (hback (b := true) hok.1) ?_ ?_ ops.size _ ⟨s.sl, s.ob ++ List.replicate ((places aps 0).filterMap _root_.id).length .none⟩ a _ (by simp) (.inl (by simp [Array.getD])) hclo (by rw [hrem]; simp) (hR.places _).drew ?_)
    ·intro i j hji hi hb _
     have h1 := List.all_eq_true.1 hok.2 (l.getD i ⟨none, .lenc 0, none, none, [], none⟩, i) (by rw [List.mem_zipIdx_iff_getElem?]; exact hget i hi)
     have h2 := List.all_eq_true.1 h1 (l.getD j ⟨none, .lenc 0, none, none, [], none⟩, j) (by
      rw [List.mem_zipIdx_iff_getElem?, List.getElem?_take]
      simp only [hji, if_true]
      exact hget j (by omega))
     simp only [hb, Bool.false_or] at h2
     exact h2
    ·intro s' a' w' h1 h2; exact ⟨s', h1, h2⟩
    ·rw [hrem]
     have e := hmap 0 ops.size (by omega)
     rw [List.drop_zero, List.take_of_length_le (by omega), ← List.range_eq_range'] at e
     rw [e]; exact hk
   ·cases hdr
  ·cases hdr
 ·cases hdr
theorem pcall_dr {f : Nat} {fn : Func} {hints : List (List Nat × Nat)} {ac : AC} {rs : List ARV} {args : List PV} {r : PV}
  (hf : P.funcs[f]? = some fn) (hc : compF P own (drawR P own fn.ntmps) hints args.length fn = some (ac, rs)) (h : AWP P 0 ac (AFin rs r) (init args)) : PCall P f args r :=
 pcall_of' hf hc (fun c g hn => by rw [← hn]; exact drawR_sound c g) h
theorem icall_dr {f : Nat} {fn : Func} {hints : List (List Nat × Nat)} {ac : AC} {rs : List ARV} {args : List PV} {ob : List AObj} {K : PV → List AObj → Prop}
  (hf : P.funcs[f]? = some fn) (hc : compF P own (drawR P own fn.ntmps) hints args.length fn = some (ac, rs)) (h : AWP P ob.length ac (AEnd rs K) ⟨(init args).sl, ob⟩) : ICall P f args ob K := by
 unfold compF at hc
 split at hc
 ·rename_i hn
  split at hc
  ·rename_i code hcode
   split at hc
   ·rename_i ac' rest hac
    simp only [Option.map_eq_some_iff, Prod.mk.injEq] at hc
    obtain ⟨rs', h1, rfl, rfl⟩ := hc
    exact icall_of hf hcode hn.1 hac h1 hn.2 (fun c g hn => by rw [← hn]; exact drawR_sound c g) h
   ·cases hc
  ·cases hc
 ·cases hc
end
end Go.Proofs.YtdgpiobmncohjaaGreatDoor.Aw
