/-
  A list of the call's own that is given away for good: a function that makes a result out of it may keep it.
-/
import Derived.Test.YthjnfjgejdlbfaaAwFit
set_option linter.unusedSimpArgs false
set_option linter.unusedVariables false
namespace Go.Proofs.Ythjnfjgejdlbfaa.Aw
open Go.RowKit

section
variable {c : Ctx} {F : Nat → Prop} {l : Locs} {ob : List AObj} {w : World}

/-- Where a list that was given away stands. -/
def goneLoc (L : Loc) : Loc := { L with nil := true, len := goneLen }

theorem RepW.give (R : RepW c F l ob w) {o esz : Nat} {rows : List (List PV)} (hob : ob[o]? = some (.list esz rows)) (hlt : rows.length < goneLen) :
    ∃ L, l o = some L ∧ ObjRep w F l (.list esz rows) L ∧ RepW c (fun b => F b ∨ (L.nil = false ∧ b = L.blk)) (updL l o (goneLoc L)) (ob.set o .junk) w ∧ Mono w F l w (fun b => F b ∨ (L.nil = false ∧ b = L.blk)) (updL l o (goneLoc L)) := by
  rcases R.objs o _ hob with h1 | ⟨L, ho, h2⟩
  · simp at h1
  refine ⟨L, ho, h2, ?_⟩
  obtain ⟨h3, h4, -⟩ := h2
  have holt : o < ob.length := (List.getElem?_eq_some_iff.1 hob).1
  have hext : LocExt l (updL l o (goneLoc L)) := by
    intro i M hi
    by_cases e : i = o
    · subst e; rw [ho] at hi; cases hi; exact ⟨goneLoc L, updL_same _ _ _, .inr ⟨h3, h3, by rw [h4]; exact hlt⟩⟩
    · exact ⟨M, by rw [updL_ne _ _ e]; exact hi, .inl rfl⟩
  have m : Mono w F l w (fun b => F b ∨ (L.nil = false ∧ b = L.blk)) (updL l o (goneLoc L)) := ⟨fun _ h => .inl h, fun _ _ => rfl, hext⟩
  refine ⟨⟨R.below, fun b hb => .inl (R.f0 b hb), ?_, ?_, ?_, ?_, ?_, ?_⟩, m⟩
  · rintro b (hb | ⟨hn, rfl⟩)
    · exact R.fn b hb
    · exact .inr (R.own o L ho hn).1
  · rintro b (hb | ⟨hn, rfl⟩)
    · exact R.flt b hb
    · exact (R.own o L ho hn).2.1
  · intro i M hi
    rw [List.length_set]
    by_cases e : i = o
    · subst e; exact holt
    · rw [updL_ne _ _ e] at hi; exact R.lt i M hi
  · intro i a hi
    by_cases e : i = o
    · subst e
      rw [List.getElem?_set_self holt] at hi; cases hi
      exact .inr ⟨goneLoc L, updL_same _ _ _, .inr ⟨rfl, rfl⟩⟩
    · rw [List.getElem?_set_ne (Ne.symm e)] at hi
      rcases R.objs i a hi with g | ⟨M, g1, g2⟩
      · exact .inl ⟨g.1, by rw [updL_ne _ _ e]; exact g.2⟩
      · exact .inr ⟨M, by rw [updL_ne _ _ e]; exact g1, g2.up m fun _ => rfl⟩
  · intro i M hi hn
    by_cases e : i = o
    · subst e; rw [updL_same] at hi; cases hi; cases hn
    · rw [updL_ne _ _ e] at hi
      have := R.own i M hi hn
      refine ⟨this.1, this.2.1, ?_⟩
      rintro (hb | ⟨hn', hb⟩)
      · exact this.2.2 hb
      · exact e (R.inj i o M L hi ho hn hn' hb)
  · intro i j M N hi hj hn hn' hb
    by_cases e : i = o
    · subst e; rw [updL_same] at hi; cases hi; cases hn
    · by_cases e' : j = o
      · subst e'; rw [updL_same] at hj; cases hj; cases hn'
      · rw [updL_ne _ _ e] at hi; rw [updL_ne _ _ e'] at hj
        exact R.inj i j M N hi hj hn hn' hb

/-- What a call with memory of its own has made is there from now on. -/
theorem RepW.after {F' : Nat → Prop} {w' : World} (R : RepW c F l ob w) (hB : Below w.heap.size w w') (h1 : ∀ b, F b → F' b) (h2 : ∀ b, F' b → F b ∨ w.heap.size ≤ b) (h3 : ∀ b, F' b → b < w'.heap.size) :
    RepW c F' l ob w' ∧ Mono w F l w' F' l := by
  obtain ⟨R1', m1⟩ := R.ext hB
  have m : Mono w F l w' F' l := ⟨h1, fun b hb => m1.heap b hb, LocExt.refl l⟩
  have m2 : Mono w' F l w' F' l := ⟨h1, fun b hb => rfl, LocExt.refl l⟩
  refine ⟨⟨R1'.below, fun b hb => h1 b (R.f0 b hb), ?_, h3, R1'.lt, ?_, ?_, R1'.inj⟩, m⟩
  · intro b hb
    rcases h2 b hb with h | h
    · exact R.fn b h
    · exact .inr (Nat.le_trans R.below.size h)
  · intro o ao ho
    rcases R1'.objs o ao ho with g | ⟨L, g1, g2⟩
    · exact .inl g
    · exact .inr ⟨L, g1, g2.up m2 fun _ => rfl⟩
  · intro o L ho hn
    have := R1'.own o L ho hn
    refine ⟨this.1, this.2.1, fun hb => ?_⟩
    rcases h2 _ hb with h | h
    · exact this.2.2 h
    · have := (R.own o L ho hn).2.1; omega

/-- A list as a whole, read by content from now on. -/
theorem R1.given {o esz n : Nat} {rows : List (List PV)} {L : Loc} {v : Value} {F' : Nat → Prop} {l' : Locs} (ho : l o = some L) (hr : ObjRep w F l (.list esz rows) L) (hn : n = rows.length) (h : R1 w F l (.osl o 0 n) v)
    (hF : ∀ b, F b → F' b) (hb : L.nil = false → F' L.blk) : R1 w F' l' (.slc rows) v := by
  cases h with
  | @osl _ _ _ _ L' v ho' hb' hn' hv hh =>
    rw [ho] at ho'; cases ho'
    obtain ⟨g1, g2, g3, g4, g5⟩ := hr
    have hsv := hh (by omega)
    by_cases hne : rows = []
    · subst hne
      obtain ⟨a, m, cc, rfl⟩ := hv
      simp only [List.length_nil] at hn
      subst hn
      rcases hsv with ⟨_, _, _, e⟩ | ⟨_, _, ad, e, _⟩
      · cases e; exact .slc0 _ _
      · cases e; exact .slc0 _ _
    · rcases g5 with ⟨_, g6⟩ | ⟨g6, g7, g8, cc, e, fr, cv, g9, g10, g11, g12, g13, g14⟩
      · exact absurd g6 hne
      rcases hsv with ⟨q, _⟩ | ⟨_, q1, ad, rfl, q2⟩
      · rw [g6] at q; cases q
      · have hst : L.st = 0 := by omega
        have hpos : 0 < rows.length := List.length_pos_iff.2 hne
        have hcap : 0 < L.cap := by omega
        have := q2 hcap
        subst this
        subst hn
        rw [hst] at g12
        simp only [List.drop_zero] at g12
        refine .slcN hne (by omega) (hb g6) ⟨⟨cc, e, fr, g9, fun j hj => by rw [← g13 j hj]; simp [hst]⟩, g14⟩ g4 g12.1 fun i c x h1 h2 => (g12.2 i c x h1 h2).mono hF (fun _ _ => rfl) _ (LocExt.refl _)
end

/-- A CALL THAT IS GIVEN A LIST for good. -/
theorem PCall.give {P : Program} {f : Nat} {pre post : List PV} {o n esz : Nat} {rows : List (List PV)} {ob : List AObj} {r : PV} (h : PCall P f (pre ++ .slc rows :: post) r) (hob : ob[o]? = some (.list esz rows)) (hn : n = rows.length) (hlt : n < 18446744073709551616)
    (hpre : ownL pre = false) (hpost : ownL post = false) (hr : ∀ w F B v, RR w F B r v → R1 w F (fun _ => none) r v) :
    ICall P f (pre ++ .osl o 0 n :: post) ob fun r' ob' => r' = r ∧ ob' = ob.set o .junk := by
  refine ⟨⟨h.1, r, _, rfl, rfl⟩, fun c w F l vs R hv => ?_⟩
  obtain ⟨L, ho, hobj, R2, m2⟩ := R.give hob (by rw [← hn]; exact hlt)
  have hv2 : RL w (fun b => F b ∨ (L.nil = false ∧ b = L.blk)) (fun _ => none) (pre ++ .slc rows :: post) vs := by
    refine ⟨by have := hv.1; simpa using this, fun i p x hp hx => ?_⟩
    rw [List.getElem?_append] at hp
    have key := hv.2 i
    split at hp
    · rename_i hi
      have := key p x (by rw [List.getElem?_append_left hi]; exact hp) hx
      exact (this.mono (fun b hb => Or.inl hb) (fun _ _ => rfl) l (LocExt.refl l)).noOwn (own_of_get hpre hp) _
    · rename_i hi
      cases hk : i - pre.length with
      | zero =>
        rw [hk] at hp
        simp only [List.getElem?_cons_zero, Option.some.injEq] at hp
        subst hp
        have := key (.osl o 0 n) x (by rw [List.getElem?_append_right (by omega), hk]; rfl) hx
        exact R1.given ho hobj hn this (fun b hb => Or.inl hb) fun hn => .inr ⟨hn, rfl⟩
      | succ k =>
        rw [hk] at hp
        simp only [List.getElem?_cons_succ] at hp
        have := key p x (by rw [List.getElem?_append_right (by omega), hk]; exact hp) hx
        exact (this.mono (fun b hb => Or.inl hb) (fun _ _ => rfl) l (LocExt.refl l)).noOwn (own_of_get hpost hp) _
  refine (h.2 w _ vs R2.flt hv2).mono ?_
  rintro e w' ⟨v, F', rfl, hB, h1, h2, h3, hrr⟩
  obtain ⟨R3, m3⟩ := R2.after hB h1 h2 h3
  exact ⟨v, r, _, F', _, rfl, R3, m2.trans m3, (hr _ _ _ _ hrr).free, rfl, rfl⟩

end Go.Proofs.Ythjnfjgejdlbfaa.Aw
