/-
  Regions whose order is drawn: where all that may be swapped commutes, the text's order tells all orders.
-/
import Derived.Test.YtdgpiobmncohjaaGreatAwRun
namespace Go.Proofs.YtdgpiobmncohjaaGreat.Aw
open Go.RowKit

def AX.looks : AX → List Nat
  | .t i => [i]
  | .k _ => []
def looksO : Option AX → List Nat
  | none => []
  | some x => x.looks
def looksL (l : List AX) : List Nat := l.flatMap AX.looks

/-- The slots that an operation looks at. -/
def AO.looks : AO → List Nat
  | .mv x => x.looks
  | .pick c a b => c.looks ++ (a.looks ++ b.looks)
  | .alloc _ => []
  | .box x => x.looks
  | .build _ ps => ps.flatMap fun p => p.2.2.looks
  | .blds _ _ _ ps => ps.flatMap fun p => p.2.looks
  | .load _ a => a.looks
  | .store _ a x => a.looks ++ x.looks
  | .nilck x => x.looks
  | .bin _ x y => x.looks ++ y.looks
  | .eqs _ _ x y => x.looks ++ y.looks
  | .eqb _ x y => x.looks ++ y.looks
  | .un _ x => x.looks
  | .conv _ x => x.looks
  | .b2s x => x.looks
  | .s2b _ x => x.looks
  | .faddr _ x => x.looks
  | .fld _ _ x => x.looks
  | .iarr _ _ x i => x.looks ++ i.looks
  | .isl _ x i => x.looks ++ i.looks
  | .idxs x i => x.looks ++ i.looks
  | .idxa _ _ _ x i => x.looks ++ i.looks
  | .sstr x a b => x.looks ++ (looksO a ++ looksO b)
  | .ssl _ x a b => x.looks ++ (looksO a ++ looksO b)
  | .sarr _ _ x a b => x.looks ++ (looksO a ++ looksO b)
  | .ext _ x => x.looks
  | .mkfn _ a b => looksL a ++ looksL b
  | .mki _ x => x.looks
  | .tas _ x => x.looks
  | .lenc _ => []
  | .lens x => x.looks
  | .len x => x.looks
  | .app _ _ _ x y => x.looks ++ y.looks
  | .apps _ x y => x.looks ++ y.looks
  | .balloc _ _ => []
  | .usd x => x.looks
  | .ust _ x y => x.looks ++ y.looks
  | .fail => []
  | .icall _ xs => looksL xs
  | .icallv f xs => f.looks ++ looksL xs
  | .icalli _ x xs => x.looks ++ looksL xs
  | .mm _ xs => looksL xs
  | .mks _ _ _ x y => x.looks ++ y.looks
  | .nilown _ => []
  | .nilsl _ x => x.looks
  | .isn _ _ x => x.looks
  | .call _ _ xs => looksL xs
  | .callv f xs => f.looks ++ looksL xs
  | .mop _ xs => looksL xs
  | .rcall _ xs => looksL xs
  | .arr _ xs => looksL xs
  | .alit _ _ ps => ps.flatMap fun p => p.2.looks
  | .ecall _ xs => looksL xs
  | .rcalli _ x xs => x.looks ++ looksL xs

/-- It asks no objects. -/
def AO.pure : AO → Bool
  | .mv _ | .pick .. | .build .. | .nilck _ | .bin .. | .eqs .. | .eqb .. | .un .. | .conv .. | .faddr .. | .fld .. | .iarr .. | .idxs .. | .idxa .. | .sstr .. | .sarr .. | .ext .. | .mkfn .. | .mki .. | .tas .. | .lenc _ | .lens _ | .mm .. | .nilsl .. | .isn .. | .arr .. => true
  | _ => false

/-- It may change an object. -/
def AO.writes : AO → Bool
  | .store .. | .app .. | .apps .. | .balloc .. | .icall .. | .icallv .. | .icalli .. | .mop .. | .ecall .. => true
  | _ => false

/-- It may make one. -/
def AO.news : AO → Bool
  | .alloc _ | .box _ | .nilown _ | .app .. | .alit .. => true
  | .blds own .. | .s2b own _ | .mks own .. | .call own .. => own
  | _ => false

def agreeOn (l : List Nat) (s s' : St) : Prop := ∀ t ∈ l, s'.sl t = s.sl t

section
variable {s s' : St}
theorem val_agree {x : AX} (h : agreeOn x.looks s s') : s'.val x = s.val x := by
  cases x with
  | t i => exact h i (by simp [AX.looks])
  | k v => rfl
theorem agree_left {a b : List Nat} (h : agreeOn (a ++ b) s s') : agreeOn a s s' := fun t ht => h t (List.mem_append_left _ ht)
theorem agree_right {a b : List Nat} (h : agreeOn (a ++ b) s s') : agreeOn b s s' := fun t ht => h t (List.mem_append_right _ ht)
theorem optI_agree {x : Option AX} (h : agreeOn (looksO x) s s') : optI s' x = optI s x := by
  cases x with
  | none => rfl
  | some x => simp only [optI]; rw [val_agree (show agreeOn x.looks s s' from h)]
theorem map_agree : ∀ {l : List AX}, agreeOn (looksL l) s s' → l.map s'.val = l.map s.val
  | [], _ => rfl
  | x :: r, h => by
    simp only [looksL, List.flatMap_cons] at h
    rw [List.map_cons, List.map_cons, val_agree (agree_left h), map_agree (l := r) (agree_right h)]
theorem fillA_agree : ∀ (ps : List (Nat × Nat × AX)) (z : List PV), agreeOn (ps.flatMap fun p => p.2.2.looks) s s' → fillA s' z ps = fillA s z ps
  | [], z, _ => rfl
  | (off, sz, x) :: r, z, h => by
    simp only [List.flatMap_cons] at h
    simp only [fillA]
    rw [val_agree (agree_left h)]
    split
    · exact fillA_agree r _ (agree_right h)
    · rfl
theorem fillR_agree {n : Nat} : ∀ (ps : List (Nat × AX)) (z : List (List PV)), agreeOn (ps.flatMap fun p => p.2.looks) s s' → fillR s' n z ps = fillR s n z ps
  | [], z, _ => rfl
  | (i, x) :: r, z, h => by
    simp only [List.flatMap_cons] at h
    simp only [fillR]
    rw [val_agree (agree_left h)]
    split
    · exact fillR_agree r _ (agree_right h)
    · rfl
theorem mkO_ob {nw : Option Nat} {a : AObj} (h : s'.ob = s.ob) : mkO s' nw a = mkO s nw a := by simp only [mkO, h]

/-- Objects that are the same but for those that may not be asked. -/
def obAgree (forb : List Nat) (ob ob' : List AObj) : Prop := ∀ i, i ∉ forb → ob'[i]? = ob[i]?

theorem ldC_agree {forb : List Nat} {ob ob' : List AObj} (h : obAgree forb ob ob') (p : PV) (n : Nat) : ldC ob' forb p n = ldC ob forb p n := by
  cases p <;> simp only [ldC]
  · rename_i o off
    by_cases hc : forb.contains o = true
    · simp only [hc, if_true]
    · rw [h o (by simpa using hc)]
  · rename_i o i off len
    by_cases hc : forb.contains o = true
    · simp only [hc, if_true]
    · rw [h o (by simpa using hc)]
theorem rowsOf_agree {forb : List Nat} {ob ob' : List AObj} (h : obAgree forb ob ob') (p : PV) : rowsOf ob' forb p = rowsOf ob forb p := by
  cases p <;> simp only [rowsOf]
  · rename_i o i n
    by_cases hc : forb.contains o = true
    · simp only [hc, if_true]
    · rw [h o (by simpa using hc)]
  · rename_i o i n
    by_cases hc : forb.contains o = true
    · simp only [hc, if_true]
    · rw [h o (by simpa using hc)]

mutual
theorem snap_agree {forb : List Nat} {ob ob' : List AObj} (h : obAgree forb ob ob') : ∀ p, snap ob' forb p = snap ob forb p
  | .osl o i n => by simp only [snap, rowsOf_agree h]
  | .bsl o i n => by simp only [snap, rowsOf_agree h]
  | .ref o off => by
    simp only [snap]
    by_cases hc : forb.contains o = true
    · simp only [hc, if_true]
    · rw [h o (by simpa using hc)]
  | .lref .. => by simp only [snap]
  | .own .. => by simp only [snap]
  | .mp _ => by simp only [snap]
  | .asl .. => by simp only [snap]
  | .nilm => by simp only [snap]
  | .agg cs => by simp only [snap, snapL_agree h cs]
  | .tup cs => by simp only [snap, snapL_agree h cs]
  | .fn f a b => by simp only [snap, snapL_agree h a, snapL_agree h b]
  | .ifc t v => by simp only [snap, snap_agree h v]
  | .bot => by simp only [snap]
  | .int .. => by simp only [snap]
  | .bool _ => by simp only [snap]
  | .str _ => by simp only [snap]
  | .nils => by simp only [snap]
  | .slc _ => by simp only [snap]
  | .fptr _ => by simp only [snap]
  | .nilp => by simp only [snap]
  | .nilf => by simp only [snap]
  | .nili => by simp only [snap]
theorem snapL_agree {forb : List Nat} {ob ob' : List AObj} (h : obAgree forb ob ob') : ∀ ps, snapL ob' forb ps = snapL ob forb ps
  | [] => by simp only [snapL]
  | p :: r => by simp only [snapL, snap_agree h p, snapL_agree h r]
end

/-- Objects with one more. -/
def appE (e : Option (Nat × AObj)) (ob : List AObj) : List AObj :=
  match e with
  | none => ob
  | some (i, a) => ob.set i a

theorem mkO_some {i j : Nat} {a : AObj} {ob : List AObj} (h : mkO s (some i) a = some (j, ob)) : j = i ∧ s.ob[i]? = some .none ∧ ob = s.ob.set i a := by
  simp only [mkO] at h
  split at h
  · rename_i hk; cases h; exact ⟨rfl, hk, rfl⟩
  · cases h
theorem mkO_at {i : Nat} {a : AObj} (h : s.ob[i]? = some .none) : mkO s (some i) a = some (i, s.ob.set i a) := by simp only [mkO, h]

/-- What an operation yields hangs on what it looks at. -/
theorem ev_looks {forb : List Nat} {nw : Option Nat} {ao : AO} (h : agreeOn ao.looks s s') (hob : s'.ob = s.ob) : ev forb nw s' ao = ev forb nw s ao := by
  cases ao <;> simp only [AO.looks] at h <;> simp only [ev]
  case mv x => rw [val_agree h, hob]
  case pick c a b => rw [val_agree (agree_left h), val_agree (agree_left (agree_right h)), val_agree (agree_right (agree_right h)), hob]
  case alloc z => rw [mkO_ob hob]
  case box x => rw [val_agree h, mkO_ob hob]
  case build z ps => rw [fillA_agree ps z h, hob]
  case blds own z n ps => rw [fillR_agree ps _ h]; simp only [mkO_ob hob, hob]
  case load n a => cases n <;> simp only [] <;> rw [val_agree h, hob]
  case store n a x => rw [val_agree (agree_left h), val_agree (agree_right h), hob]
  case nilck x => rw [val_agree h, hob]
  case bin op x y => rw [val_agree (agree_left h), val_agree (agree_right h), hob]
  case eqs neg ks x y => rw [val_agree (agree_left h), val_agree (agree_right h), hob]
  case eqb neg x y => rw [val_agree (agree_left h), val_agree (agree_right h), hob]
  case un op x => rw [val_agree h, hob]
  case conv k x => rw [val_agree h, hob]
  case b2s x => rw [val_agree h, hob]
  case s2b own x => rw [val_agree h]; simp only [mkO_ob hob, hob]
  case faddr off x => rw [val_agree h, hob]
  case fld n off x => rw [val_agree h, hob]
  case iarr e l x i => rw [val_agree (agree_left h), val_agree (agree_right h), hob]
  case isl e x i => rw [val_agree (agree_left h), val_agree (agree_right h), hob]
  case idxs x i => rw [val_agree (agree_left h), val_agree (agree_right h), hob]
  case idxa n e l x i => rw [val_agree (agree_left h), val_agree (agree_right h), hob]
  case sstr x a b => rw [val_agree (agree_left h), optI_agree (agree_left (agree_right h)), optI_agree (agree_right (agree_right h)), hob]
  case ssl e x a b => rw [val_agree (agree_left h), optI_agree (agree_left (agree_right h)), optI_agree (agree_right (agree_right h)), hob]
  case sarr e l x a b => rw [val_agree (agree_left h), optI_agree (agree_left (agree_right h)), optI_agree (agree_right (agree_right h)), hob]
  case ext i x => rw [val_agree h, hob]
  case mkfn f a b => rw [map_agree (agree_left h), map_agree (agree_right h), hob]
  case mki t x => rw [val_agree h, hob]
  case tas t x => rw [val_agree h, hob]
  case lenc n => rw [hob]
  case lens x => rw [val_agree h, hob]
  case len x => rw [val_agree h, hob]
  case app e b z x y => rw [val_agree (agree_left h), val_agree (agree_right h)]; simp only [mkO_ob hob, hob]
  case apps e x y => rw [val_agree (agree_left h), val_agree (agree_right h), hob]
  case balloc t u => rw [hob]
  case usd x => rw [val_agree h, hob]
  case ust e x y => rw [val_agree (agree_left h), val_agree (agree_right h), hob]
  case mm m xs => rw [map_agree h, hob]
  case mks own z b x y => rw [val_agree (agree_left h), val_agree (agree_right h)]; simp only [mkO_ob hob, hob]
  case nilown e => rw [mkO_ob hob]
  case nilsl neg x => rw [val_agree h, hob]
  case isn k neg x => rw [val_agree h, hob]
  case arr op xs => rw [map_agree h, hob]
  case alit z n ps => rw [fillR_agree ps _ h]; simp only [mkO_ob hob]

/-- An operation that asks no objects yields the same whatever they are. -/
theorem ev_pure {forb : List Nat} {nw : Option Nat} {ao : AO} (hp : ao.pure = true) {v : PV} {ob' : List AObj} (h : ev forb nw s ao = some (v, ob')) (hl : agreeOn ao.looks s s') : ob' = s.ob ∧ ev forb nw s' ao = some (v, s'.ob) := by
  have h2 : ev forb nw ⟨s'.sl, s.ob⟩ ao = some (v, ob') := by
    rw [← h]; exact ev_looks (s := s) (s' := ⟨s'.sl, s.ob⟩) hl rfl
  have key : ∀ {g : Option PV}, g.map (fun v => (v, s.ob)) = some (v, ob') → ob' = s.ob ∧ g.map (fun v => (v, s'.ob)) = some (v, s'.ob) := by
    intro g hg
    cases g with
    | none => cases hg
    | some x => simp only [Option.map_some, Option.some.injEq, Prod.mk.injEq] at hg; obtain ⟨rfl, rfl⟩ := hg; exact ⟨rfl, rfl⟩
  have hval : ∀ x, St.val ⟨s'.sl, s.ob⟩ x = s'.val x := fun x => by cases x <;> rfl
  have hopt : ∀ x, optI ⟨s'.sl, s.ob⟩ x = optI s' x := fun x => by cases x <;> simp only [optI, hval]
  have hfa : ∀ (ps : List (Nat × Nat × AX)) z, fillA ⟨s'.sl, s.ob⟩ z ps = fillA s' z ps := by
    intro ps
    induction ps with
    | nil => intro z; rfl
    | cons p r ih => obtain ⟨a, b, x⟩ := p; intro z; simp only [fillA, hval, ih]
  have hmap : ∀ l : List AX, l.map (St.val ⟨s'.sl, s.ob⟩) = l.map s'.val := fun l => List.map_congr_left fun x _ => hval x
  cases ao <;> simp only [AO.pure, Bool.false_eq_true] at hp <;> simp only [ev, hval, hopt, hfa, hmap] at h2 ⊢
  case mv x => exact key (g := some (s'.val x)) h2
  case pick c a b =>
    split at h2
    · rename_i t; exact key (g := some _) h2
    · cases h2
  case build z ps =>
    simp only [Option.map_eq_some_iff] at h2
    obtain ⟨t, ht, he⟩ := h2
    simp only [Prod.mk.injEq] at he
    obtain ⟨rfl, rfl⟩ := he
    exact ⟨rfl, by rw [ht]; rfl⟩
  case nilck x =>
    split at h2
    · exact key (g := some _) h2
    · exact key (g := some _) h2
    · exact key (g := some _) h2
    · cases h2
  case bin op x y => exact key h2
  case eqs neg ks x y =>
    split at h2
    · simp only [Option.map_eq_some_iff] at h2
      obtain ⟨t, ht, he⟩ := h2
      simp only [Prod.mk.injEq] at he
      obtain ⟨rfl, rfl⟩ := he
      exact ⟨rfl, by rw [ht]; rfl⟩
    · cases h2
  case eqb neg x y =>
    split at h2
    · exact key (g := some _) h2
    · cases h2
  case un op x => exact key h2
  case conv k x =>
    split at h2
    · exact key (g := some _) h2
    · cases h2
  case faddr off x =>
    split at h2
    · exact key (g := some _) h2
    · exact key (g := some _) h2
    · split at h2
      · rename_i hc; rw [if_pos hc]; exact key (g := some _) h2
      · cases h2
    · cases h2
  case fld n off x =>
    split at h2
    · exact key h2
    · cases h2
  case iarr e l x i =>
    split at h2
    · split at h2
      · rename_i hc; rw [if_pos hc]; exact key (g := some _) h2
      · cases h2
    · split at h2
      · rename_i hc; rw [if_pos hc]; exact key (g := some _) h2
      · cases h2
    · cases h2
  case idxs x i =>
    split at h2
    · split at h2
      · rename_i hc
        rw [if_pos hc]
        simp only [Option.map_eq_some_iff] at h2
        obtain ⟨t, ht, he⟩ := h2
        simp only [Prod.mk.injEq] at he
        obtain ⟨rfl, rfl⟩ := he
        exact ⟨rfl, by rw [ht]; rfl⟩
      · cases h2
    · cases h2
  case idxa n e l x i =>
    split at h2
    · split at h2
      · rename_i hc; rw [if_pos hc]; exact key h2
      · cases h2
    · cases h2
  case sstr x a b =>
    split at h2
    · simp only [Option.map_eq_some_iff] at h2
      obtain ⟨t, ht, he⟩ := h2
      simp only [Prod.mk.injEq] at he
      obtain ⟨rfl, rfl⟩ := he
      exact ⟨rfl, by rw [ht]; rfl⟩
    · cases h2
  case sarr e l x a b =>
    split at h2
    · split at h2
      · split at h2
        · rename_i hc
          rw [if_pos hc]
          simp only [Option.map_eq_some_iff] at h2
          obtain ⟨t, ht, he⟩ := h2
          simp only [Prod.mk.injEq] at he
          obtain ⟨rfl, rfl⟩ := he
          exact ⟨rfl, by rw [ht]; rfl⟩
        · cases h2
      · cases h2
    · cases h2
  case ext i x =>
    split at h2
    · exact key h2
    · cases h2
  case mkfn f a b => exact key (g := some _) h2
  case mki t x => exact key (g := some _) h2
  case tas t x =>
    split at h2
    · exact key (g := some _) h2
    · exact key (g := some _) h2
    · cases h2
  case lenc n => exact key (g := some _) h2
  case lens x =>
    split at h2
    · exact key (g := some _) h2
    · cases h2
  case mm m xs =>
    split at h2
    · simp only [Option.map_eq_some_iff] at h2
      obtain ⟨t, ht, he⟩ := h2
      simp only [Prod.mk.injEq] at he
      obtain ⟨rfl, rfl⟩ := he
      exact ⟨rfl, by rw [ht]; rfl⟩
    · cases h2
  case nilsl neg x =>
    split at h2
    · exact key (g := some _) h2
    · exact key (g := some _) h2
    · cases h2
  case isn k neg x =>
    simp only [Option.map_eq_some_iff] at h2
    obtain ⟨t, ht, he⟩ := h2
    simp only [Prod.mk.injEq] at he
    obtain ⟨rfl, rfl⟩ := he
    exact ⟨rfl, by rw [ht]; rfl⟩
  case arr op xs =>
    simp only [Option.map_eq_some_iff] at h2
    obtain ⟨t, ht, he⟩ := h2
    simp only [Prod.mk.injEq] at he
    obtain ⟨rfl, rfl⟩ := he
    exact ⟨rfl, by rw [ht]; rfl⟩

/-- An operation that changes no object yields the same where what it may ask is the same; what it makes lies in the place kept for it. -/
theorem ev_frame {forb : List Nat} {nw : Option Nat} {ao : AO} (hw : ao.writes = false) (hn : ao.news = true → nw ≠ none) {v : PV} {ob' : List AObj} (h : ev forb nw s ao = some (v, ob')) (hl : agreeOn ao.looks s s')
    (ho : obAgree forb s.ob s'.ob) (hnw : ∀ p, nw = some p → s.ob[p]? = some .none → s'.ob[p]? = some .none) :
    ∃ e, (∀ p a, e = some (p, a) → nw = some p) ∧ ob' = appE e s.ob ∧ ev forb nw s' ao = some (v, appE e s'.ob) := by
  by_cases hp : ao.pure = true
  · obtain ⟨h1, h2⟩ := ev_pure hp h hl
    exact ⟨none, fun _ _ h => (nomatch h), h1, h2⟩
  have key : ∀ {g : Option PV}, g.map (fun v => (v, s.ob)) = some (v, ob') → ∃ e : Option (Nat × AObj), (∀ p a, e = some (p, a) → nw = some p) ∧ ob' = appE e s.ob ∧ g.map (fun v => (v, s'.ob)) = some (v, appE e s'.ob) := by
    intro g hg
    cases g with
    | none => cases hg
    | some x => simp only [Option.map_some, Option.some.injEq, Prod.mk.injEq] at hg; obtain ⟨rfl, rfl⟩ := hg; exact ⟨none, fun _ _ h => (nomatch h), rfl, rfl⟩
  have mk : ∀ {a : AObj} {k : Nat → PV}, nw ≠ none → (mkO s nw a).map (fun (o, ob) => (k o, ob)) = some (v, ob') → ∃ e : Option (Nat × AObj), (∀ p a, e = some (p, a) → nw = some p) ∧ ob' = appE e s.ob ∧ (mkO s' nw a).map (fun (o, ob) => (k o, ob)) = some (v, appE e s'.ob) := by
    intro a k hne hg
    cases hnw' : nw with
    | none => exact absurd hnw' hne
    | some p =>
      rw [hnw'] at hg
      simp only [Option.map_eq_some_iff] at hg
      obtain ⟨⟨o, ob1⟩, h1, h2⟩ := hg
      obtain ⟨rfl, h3, rfl⟩ := mkO_some h1
      simp only [Prod.mk.injEq] at h2
      obtain ⟨rfl, rfl⟩ := h2
      refine ⟨some (o, a), fun p a h => by cases h; rfl, rfl, ?_⟩
      rw [mkO_at (hnw o hnw' h3)]; rfl
  cases ao <;> simp only [AO.pure, not_true] at hp <;> simp only [AO.writes, Bool.true_eq_false] at hw <;> simp only [AO.looks] at hl <;> simp only [AO.news] at hn
  case alloc z => simp only [ev] at h ⊢; exact mk (k := fun o => .ref o 0) (hn trivial) h
  case box x =>
    simp only [ev] at h ⊢; rw [val_agree hl]
    split at h
    · rename_i hc; rw [if_pos hc]; exact mk (k := fun o => .ref o 0) (hn trivial) h
    · cases h
  case blds own z n ps =>
    simp only [ev] at h ⊢; rw [fillR_agree ps _ hl]
    simp only [Option.bind_eq_some_iff] at h ⊢
    obtain ⟨rows, hr, h⟩ := h
    split at h
    · rename_i hc
      split at h
      · rename_i hown
        obtain ⟨e, h1, h2, h3⟩ := mk (k := fun o => .osl o 0 rows.length) (hn hown) h
        exact ⟨e, h1, h2, rows, hr, by rw [if_pos hc, if_pos hown]; exact h3⟩
      · rename_i hown
        obtain ⟨e, h1, h2, h3⟩ := key (g := some _) h
        exact ⟨e, h1, h2, rows, hr, by rw [if_pos hc, if_neg hown]; exact h3⟩
    · cases h
  case load n a =>
    cases n with
    | none =>
      simp only [ev] at h ⊢; rw [val_agree hl, ldC_agree ho]
      split at h
      · exact key (g := some _) h
      · cases h
    | some n =>
      simp only [ev] at h ⊢; rw [val_agree hl, ldC_agree ho]
      simp only [Option.map_eq_some_iff] at h
      obtain ⟨cs, h1, h2⟩ := h
      simp only [Prod.mk.injEq] at h2
      obtain ⟨rfl, rfl⟩ := h2
      exact ⟨none, fun _ _ h => (nomatch h), rfl, by rw [h1]; rfl⟩
  case b2s x =>
    simp only [ev] at h ⊢; rw [val_agree hl, rowsOf_agree ho]
    simp only [Option.map_eq_some_iff] at h
    obtain ⟨cs, h1, h2⟩ := h
    simp only [Prod.mk.injEq] at h2
    obtain ⟨rfl, rfl⟩ := h2
    exact ⟨none, fun _ _ h => (nomatch h), rfl, by rw [h1]; rfl⟩
  case s2b own x =>
    simp only [ev] at h ⊢; rw [val_agree hl]
    split at h
    · split at h
      · rename_i l _ hown
        rw [if_pos hown]
        exact mk (k := fun o => .osl o 0 l.length) (hn hown) h
      · rename_i hown
        rw [if_neg hown]
        exact key (g := some _) h
    · cases h
  case isl e x i =>
    simp only [ev] at h ⊢; rw [val_agree (agree_left hl), val_agree (agree_right hl)]
    split at h
    · split at h
      · rename_i hc
        rw [if_pos hc]
        split at h
        · split at h
          · rename_i hc2; rw [if_pos hc2]; exact key (g := some _) h
          · cases h
        · cases h
      · cases h
    · rename_i o j m _ n _ _
      by_cases hc : forb.contains o = true
      · rw [if_pos hc] at h; cases h
      · rw [if_neg hc] at h ⊢
        rw [ho o (by simpa using hc)]
        split at h
        · split at h
          · rename_i hc2; rw [if_pos hc2]; exact key (g := some _) h
          · cases h
        · cases h
    · split at h
      · rename_i hc; rw [if_pos hc]; exact key (g := some _) h
      · cases h
    · cases h
  case ssl e x a b =>
    simp only [ev] at h ⊢; rw [val_agree (agree_left hl), optI_agree (agree_left (agree_right hl)), optI_agree (agree_right (agree_right hl))]
    split at h
    · split at h
      · split at h
        · rename_i hc
          simp only [Option.map_eq_some_iff] at h
          obtain ⟨cs, h1, h2⟩ := h
          simp only [Prod.mk.injEq] at h2
          obtain ⟨rfl, rfl⟩ := h2
          exact ⟨none, fun _ _ h => (nomatch h), rfl, by rw [if_pos hc, h1]; rfl⟩
        · cases h
      · simp only [Option.map_eq_some_iff] at h
        obtain ⟨cs, h1, h2⟩ := h
        simp only [Prod.mk.injEq] at h2
        obtain ⟨rfl, rfl⟩ := h2
        exact ⟨none, fun _ _ h => (nomatch h), rfl, by rw [h1]; rfl⟩
      · rename_i o j m _
        by_cases hc : forb.contains o = true
        · rw [if_pos hc] at h; cases h
        · rw [if_neg hc] at h ⊢
          rw [ho o (by simpa using hc)]
          split at h
          · split at h
            · rename_i hc3
              rw [if_pos hc3]
              simp only [Option.bind_eq_some_iff] at h
              obtain ⟨⟨i, k⟩, h1, h2⟩ := h
              simp only [] at h2
              split at h2
              · rename_i hk
                simp only [Option.some.injEq, Prod.mk.injEq] at h2
                obtain ⟨rfl, rfl⟩ := h2
                refine ⟨none, fun _ _ h => (nomatch h), rfl, ?_⟩
                rw [h1]; simp only [Option.bind_some]; rw [if_pos hk]; rfl
              · cases h2
            · cases h
          · cases h
      · cases h
    · cases h
  case len x =>
    simp only [ev] at h ⊢; rw [val_agree hl, rowsOf_agree ho]
    simp only [Option.map_eq_some_iff] at h
    obtain ⟨cs, h1, h2⟩ := h
    simp only [Prod.mk.injEq] at h2
    obtain ⟨rfl, rfl⟩ := h2
    exact ⟨none, fun _ _ h => (nomatch h), rfl, by rw [h1]; rfl⟩
  case mks own z b x y =>
    simp only [ev] at h ⊢; rw [val_agree (agree_left hl), val_agree (agree_right hl)]
    split at h
    · split at h
      · rename_i hc
        rw [if_pos hc]
        split at h
        · rename_i hown
          rw [if_pos hown]
          split at h
          · rename_i hz
            rw [if_pos hz]
            exact mk (k := fun o => .bsl o 0 _) (hn hown) h
          · rename_i hz
            rw [if_neg hz]
            exact mk (k := fun o => .osl o 0 _) (hn hown) h
        · rename_i hown
          rw [if_neg hown]
          exact key (g := some _) h
      · cases h
    · cases h
  case nilown e => simp only [ev] at h ⊢; exact mk (k := fun o => .osl o 0 0) (hn trivial) h
  case call => simp [ev] at h
  case callv => simp [ev] at h
  case rcall => simp [ev] at h
  case rcalli => simp [ev] at h
  case fail => simp [ev] at h
  case alit z n ps =>
    simp only [ev] at h ⊢; rw [fillR_agree ps _ hl]
    simp only [Option.bind_eq_some_iff] at h ⊢
    obtain ⟨rows, hr, h⟩ := h
    split at h
    · rename_i hc
      obtain ⟨e, h1, h2, h3⟩ := mk (k := fun o => .asl o 0 rows.length rows.length) (hn trivial) h
      exact ⟨e, h1, h2, rows, hr, by rw [if_pos hc]; exact h3⟩
    · cases h
  case usd x =>
    simp only [ev] at h ⊢; rw [val_agree hl]
    split at h
    · rename_i o n _
      by_cases hc : forb.contains o = true
      · rw [if_pos hc] at h; cases h
      · rw [if_neg hc] at h ⊢
        rw [ho o (by simpa using hc)]
        split at h
        · split at h
          · rename_i hc2; rw [if_pos hc2]; exact key (g := some _) h
          · cases h
        · cases h
    · cases h
  case ust e x y =>
    simp only [ev] at h ⊢; rw [val_agree (agree_left hl), val_agree (agree_right hl)]
    split at h
    · rename_i o len k n _ _
      by_cases hc : forb.contains o = true
      · rw [if_pos hc] at h; cases h
      · rw [if_neg hc] at h ⊢
        rw [ho o (by simpa using hc)]
        split at h
        · split at h
          · rename_i hc2; rw [if_pos hc2]; exact key (g := some _) h
          · cases h
        · cases h
    · split at h
      · rename_i hc2; rw [if_pos hc2]; exact key (g := some _) h
      · cases h
    · cases h

theorem wObj_agree {ao : AO} (h : agreeOn ao.looks s s') : wObj s' ao = wObj s ao := by
  cases ao <;> simp only [AO.looks] at h <;> simp only [wObj]
  case store n a x => rw [val_agree (agree_left h)]
  case app => rw [val_agree (agree_left h)]
  case apps => rw [val_agree (agree_left h)]

theorem set_get {ob : List AObj} {o : Nat} {a b : AObj} (h : ob[o]? = some a) : (ob.set o b)[o]? = some b := by
  rw [List.getElem?_set_self (List.getElem?_eq_some_iff.1 h).1]

/-- An operation that writes an object yields the same where what it may ask is the same. -/
theorem ev_frameW {forb : List Nat} {nw : Option Nat} {ao : AO} {oo : Nat} (hwo : wObj s ao = some oo) {v : PV} {ob' : List AObj} (h : ev forb nw s ao = some (v, ob')) (hl : agreeOn ao.looks s s')
    (ho : obAgree forb s.ob s'.ob) : oo ∉ forb ∧ s.ob[oo]? ≠ some .none ∧ ∃ a', a' ≠ .none ∧ ob' = s.ob.set oo a' ∧ ev forb nw s' ao = some (v, s'.ob.set oo a') := by
  cases ao <;> simp only [AO.looks] at hl <;> simp only [wObj] at hwo <;> try (cases hwo; done)
  case store n a x =>
    simp only [ev] at h ⊢
    rw [val_agree (agree_left hl), val_agree (agree_right hl)]
    split at h
    · rename_i hc
      rw [if_pos hc]
      simp only [Option.map_eq_some_iff] at h ⊢
      obtain ⟨ob1, h1, h2⟩ := h
      simp only [Prod.mk.injEq] at h2
      obtain ⟨rfl, rfl⟩ := h2
      revert hwo h1
      generalize s.val a = p
      intro hwo h1
      cases p with
      | osl o i n => simp [stC] at h1
      | ref o off =>
        simp only [objOf, Option.some.injEq] at hwo; subst hwo
        simp only [stC] at h1 ⊢
        by_cases hf : forb.contains o = true
        · rw [if_pos hf] at h1; cases h1
        · have hf' : o ∉ forb := by simpa using hf
          rw [if_neg hf] at h1
          split at h1
          · rename_i cs hob
            split at h1
            · rename_i hlen
              cases h1
              exact ⟨hf', by rw [hob]; simp, _, by simp, rfl, _, by rw [if_neg hf, ho o hf', hob]; simp only [hlen, if_true], rfl⟩
            · cases h1
          · rename_i t cs hob
            split at h1
            · rename_i hlen
              cases h1
              exact ⟨hf', by rw [hob]; simp, _, by simp, rfl, _, by rw [if_neg hf, ho o hf', hob]; simp only [hlen, if_true], rfl⟩
            · cases h1
          · cases h1
      | lref o i off len =>
        simp only [objOf, Option.some.injEq] at hwo; subst hwo
        simp only [stC] at h1 ⊢
        by_cases hf : (forb.contains o || ownL (s.val x).cellsOf) = true
        · rw [if_pos hf] at h1; cases h1
        · have hf2 := hf
          simp only [Bool.or_eq_true, not_or] at hf2
          have hf' : o ∉ forb := by simpa using hf2.1
          rw [if_neg hf] at h1
          split at h1
          · rename_i esz rows hob
            split at h1
            · rename_i hlen
              split at h1
              · rename_i r hr
                split at h1
                · rename_i hoff
                  cases h1
                  exact ⟨hf', by rw [hob]; simp, _, by simp, rfl, _, by rw [if_neg hf, ho o hf', hob]; simp only [hlen, if_true, hr, hoff], rfl⟩
                · cases h1
              · cases h1
            · cases h1
          · cases h1
      | _ => simp [objOf] at hwo
    · cases h
  case app e b z x y =>
    simp only [ev] at h ⊢
    rw [val_agree (agree_left hl), val_agree (agree_right hl), rowsOf_agree ho]
    simp only [Option.bind_eq_some_iff] at h ⊢
    obtain ⟨new, hnew, h⟩ := h
    split at h
    · rename_i hc
      revert hwo h
      generalize s.val x = p
      intro hwo h
      cases p with
      | ref o off => simp only [] at h; cases h
      | lref o i off len => simp only [] at h; cases h
      | osl o i n =>
        simp only [objOf, Option.some.injEq] at hwo; subst hwo
        simp only [] at h ⊢
        by_cases hf : forb.contains o = true
        · rw [if_pos hf] at h; cases h
        · have hf' : o ∉ forb := by simpa using hf
          rw [if_neg hf] at h
          split at h
          · rename_i z' rows hob
            split at h
            · rename_i hc2
              simp only [Option.some.injEq, Prod.mk.injEq] at h
              obtain ⟨rfl, rfl⟩ := h
              exact ⟨hf', by rw [hob]; simp, _, by simp, rfl, new, hnew, by rw [if_pos hc, if_neg hf, ho o hf', hob]; simp only [hc2, and_self, if_true]⟩
            · cases h
          · cases h
      | _ => simp [objOf] at hwo
    · cases h
  case apps e x y =>
    simp only [ev] at h ⊢
    rw [val_agree (agree_left hl), val_agree (agree_right hl)]
    split at h
    · rename_i b hy
      split at h
      · rename_i hc
        rw [if_pos hc]
        revert hwo h
        generalize s.val x = p
        intro hwo h
        cases p with
        | ref o off => simp only [] at h; cases h
        | lref o i off len => simp only [] at h; cases h
        | osl o i n =>
          simp only [objOf, Option.some.injEq] at hwo; subst hwo
          split at h
          · rename_i o2 n2 heq
            simp only [PV.osl.injEq] at heq
            obtain ⟨rfl, rfl, rfl⟩ := heq
            by_cases hf : forb.contains o = true
            · rw [if_pos hf] at h; cases h
            · have hf' : o ∉ forb := by simpa using hf
              rw [if_neg hf] at h
              split at h
              · rename_i u bs hob
                split at h
                · rename_i hc2
                  simp only [Option.some.injEq, Prod.mk.injEq] at h
                  obtain ⟨rfl, rfl⟩ := h
                  refine ⟨hf', by rw [hob]; simp, _, by simp, rfl, ?_⟩
                  rw [if_neg hf, ho o hf', hob]
                  simp only [hc2, and_self, if_true]
                · cases h
              · cases h
          · cases h
        | _ => simp [objOf] at hwo
      · cases h
    · cases h

end
end Go.Proofs.YtdgpiobmncohjaaGreat.Aw
