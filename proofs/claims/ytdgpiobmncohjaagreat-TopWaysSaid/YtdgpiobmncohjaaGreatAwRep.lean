/-
  When abstract objects stand for a world's memory, and what keeps them so. Lemmas on memory alone.
-/
import Derived.Test.YtdgpiobmncohjaaGreatAwOps
import Derived.Test.YtdgpiobmncohjaaGreatAwGlob
namespace Go.Proofs.YtdgpiobmncohjaaGreat.Aw
open Go.RowKit

structure Ctx where
  w0 : World
  F0 : Nat → Prop
  n : Nat
  glob : GlobOk w0

def Free (fr : Nat × Nat) (n : Nat) : Prop := ∀ j, j < n → ¬ (fr.1 ≤ j ∧ j < fr.2)

/-- The entries of a map. -/
def EntRep (w : World) (F : Nat → Prop) (l : Locs) (e : Nat × Int × PV) (m : MapEntry) : Prop := m.born = e.1 ∧ m.key = .int .i64 e.2.1 ∧ R1 w F l e.2.2 m.val
def EntsRep (w : World) (F : Nat → Prop) (l : Locs) (es : List (Nat × Int × PV)) (ms : List MapEntry) : Prop :=
  es.length = ms.length ∧ ∀ (i : Nat) e m, es[i]? = some e → ms[i]? = some m → EntRep w F l e m

/-- The length a list has that was given away. -/
def goneLen : Nat := 18446744073709551616

def ObjRep (w : World) (F : Nat → Prop) (l : Locs) (a : AObj) (L : Loc) : Prop :=
  match a with
  | .none => False
  | .junk => L.box = true ∨ (L.nil = true ∧ L.len = goneLen)
  | .map ck es => L.box = true ∧ L.nil = false ∧ ∃ ms, w.heap[L.blk]? = some (.map ms.toArray ck) ∧ EntsRep w F l es ms
  | .iter m since seen last => L.box = true ∧ L.nil = false ∧ ∃ Lm, l m = some Lm ∧ Lm.box = true ∧ w.heap[L.blk]? = some (.mapIter (some Lm.blk) since seen.toArray last)
  | .box cells => L.box = true ∧ L.nil = false ∧ ∃ cv e, w.heap[L.blk]? = some (.cells cv.toArray e (0, 0)) ∧ RL w F l cells cv ∧ ∀ v ∈ cv, v.oneCell' = true
  | .tbox t cells => L.box = true ∧ L.nil = false ∧ ∃ cv, w.heap[L.blk]? = some (.cells cv.toArray t (0, 0)) ∧ RL w F l cells cv ∧ ∀ v ∈ cv, v.oneCell' = true
  | .buf u bs => L.box = false ∧ L.len = bs.length ∧ L.esz = 1 ∧ L.st = 0 ∧ L.off = 0 ∧ ((L.nil = true ∧ bs = []) ∨ (L.nil = false ∧ bs ≠ [] ∧ ∃ cc fz, w.heap[L.blk]? = some (.cells cc u fz) ∧ fz.2 ≤ bs.length ∧ bs.length ≤ L.cap ∧ L.cap ≤ maxLen ∧ cc.size = L.cap ∧ cc.toList.take bs.length = Lib.byteCells bs))
  | .list esz rows => L.box = false ∧ L.len = rows.length ∧ L.esz = esz ∧ (∀ r ∈ rows, r.length = esz) ∧
      ((L.nil = true ∧ rows = []) ∨ (L.nil = false ∧ L.st ≤ rows.length ∧ rows.length ≤ L.cap ∧ ∃ c e fr cv, w.heap[L.blk]? = some (.cells c e fr) ∧ Free fr c.size ∧ L.off + (L.cap - L.st) * esz ≤ c.size ∧
        RL w F (fun _ => none) (rows.drop L.st).flatten cv ∧ (∀ j, j < cv.length → c[L.off + j]? = cv[j]?) ∧ ∀ v ∈ cv, v.oneCell' = true))

structure RepW (c : Ctx) (F : Nat → Prop) (l : Locs) (ob : List AObj) (w : World) : Prop where
  below : Below c.w0.heap.size c.w0 w
  f0 : ∀ b, c.F0 b → F b
  fn : ∀ b, F b → c.F0 b ∨ c.w0.heap.size ≤ b
  flt : ∀ b, F b → b < w.heap.size
  lt : ∀ o L, l o = some L → o < ob.length
  objs : ∀ o a, ob[o]? = some a → (a = .none ∧ l o = none) ∨ ∃ L, l o = some L ∧ ObjRep w F l a L
  own : ∀ o L, l o = some L → L.nil = false → c.w0.heap.size ≤ L.blk ∧ L.blk < w.heap.size ∧ ¬ F L.blk
  inj : ∀ o o' L L', l o = some L → l o' = some L' → L.nil = false → L'.nil = false → L.blk = L'.blk → o = o'

theorem RepW.globOk {c : Ctx} {F : Nat → Prop} {l : Locs} {ob : List AObj} {w : World} (R : RepW c F l ob w) : GlobOk w := c.glob.below R.below

theorem cell_of_block {w : World} {b i : Nat} {c : Array Value} {e : TypeId} {fr : Nat × Nat} (h : w.heap[b]? = some (.cells c e fr)) : w.cell? ⟨b, i, none⟩ = c[i]? := by
  simp [World.cell?, h]

theorem frozen_of_block {w : World} {b i : Nat} {c : Array Value} {e : TypeId} {fr : Nat × Nat} (h : w.heap[b]? = some (.cells c e fr)) (hf : Free fr c.size) (hi : i < c.size) : w.frozen? ⟨b, i, none⟩ = false := by
  have := hf i hi
  obtain ⟨lo, hi'⟩ := fr
  simp only [World.frozen?, h]
  simp only [not_and, Nat.not_lt] at this
  by_cases h1 : lo ≤ i
  · simp [h1, this h1]
  · simp [h1]

theorem lt_of_cells {w : World} {b : Nat} {o : Obj} (h : w.heap[b]? = some o) : b < w.heap.size := by
  rcases Nat.lt_or_ge b w.heap.size with h' | h'
  · exact h'
  · simp [Array.getElem?_eq_none h'] at h

section
variable {c : Ctx} {F : Nat → Prop} {l : Locs} {ob : List AObj} {w : World}

theorem EntsRep.up {w' : World} {F' : Nat → Prop} {l' : Locs} {es : List (Nat × Int × PV)} {ms : List MapEntry} (m : Mono w F l w' F' l') (h : EntsRep w F l es ms) : EntsRep w' F' l' es ms :=
  ⟨h.1, fun i e x h1 h2 => ⟨(h.2 i e x h1 h2).1, (h.2 i e x h1 h2).2.1, (h.2 i e x h1 h2).2.2.up m⟩⟩

theorem ObjRep.up {w' : World} {F' : Nat → Prop} {l' : Locs} {a : AObj} {L : Loc} (m : Mono w F l w' F' l') (hh : L.nil = false → w'.heap[L.blk]? = w.heap[L.blk]?) (h : ObjRep w F l a L) : ObjRep w' F' l' a L := by
  cases a with
  | none => exact h
  | junk => exact h
  | map ck es =>
    obtain ⟨h1, h2, ms, h3, h4⟩ := h
    exact ⟨h1, h2, ms, (hh h2).trans h3, h4.up m⟩
  | iter q since seen last =>
    obtain ⟨h1, h2, Lm, h3, h4, h5⟩ := h
    obtain ⟨L', g1, g2⟩ := m.loc _ _ h3
    rcases g2 with rfl | ⟨a, _, _⟩
    · exact ⟨h1, h2, L', g1, h4, (hh h2).trans h5⟩
    · rw [h4] at a; cases a
  | box cells =>
    obtain ⟨h1, h2, cv, e, h3, h4, h5⟩ := h
    exact ⟨h1, h2, cv, e, (hh h2).trans h3, h4.up m, h5⟩
  | tbox t cells =>
    obtain ⟨h1, h2, cv, h3, h4, h5⟩ := h
    exact ⟨h1, h2, cv, (hh h2).trans h3, h4.up m, h5⟩
  | buf u bs =>
    obtain ⟨h1, h2, h3, h4, h5, h6⟩ := h
    refine ⟨h1, h2, h3, h4, h5, ?_⟩
    rcases h6 with h6 | ⟨h6, h7, cc, fz, h8, h9⟩
    · exact .inl h6
    · exact .inr ⟨h6, h7, cc, fz, (hh h6).trans h8, h9⟩
  | list esz rows =>
    obtain ⟨h1, h2, h3, h4, h5⟩ := h
    refine ⟨h1, h2, h3, h4, ?_⟩
    rcases h5 with h5 | ⟨h5, h6, h6', cc, e, fr, cv, h7, h8, h9, h10, h11, h12⟩
    · exact .inl h5
    · exact .inr ⟨h5, h6, h6', cc, e, fr, cv, (hh h5).trans h7, h8, h9, h10.up ⟨m.frz, m.heap, LocExt.refl _⟩, h11, h12⟩

/-- Old blocks unchanged. -/
theorem RepW.ext (R : RepW c F l ob w) {w' : World} (h : Below w.heap.size w w') : RepW c F l ob w' ∧ Mono w F l w' F l := by
  have m : Mono w F l w' F l := ⟨fun _ h => h, fun b hb => h.block b (R.flt b hb), LocExt.refl l⟩
  refine ⟨⟨R.below.trans (h.mono R.below.size), R.f0, R.fn, fun b hb => Nat.lt_of_lt_of_le (R.flt b hb) h.size, R.lt, ?_, ?_, R.inj⟩, m⟩
  · intro o a ho
    rcases R.objs o a ho with h1 | ⟨L, h1, h2⟩
    · exact .inl h1
    · exact .inr ⟨L, h1, h2.up m fun hn => h.block _ (R.own o L h1 hn).2.1⟩
  · intro o L ho hn
    have := R.own o L ho hn
    exact ⟨this.1, Nat.lt_of_lt_of_le this.2.1 h.size, this.2.2⟩

/-- A block that is nobody's is read by content from here on. -/
theorem RepW.freeze (R : RepW c F l ob w) {b : Nat} (hB : c.w0.heap.size ≤ b) (hb : b < w.heap.size) (hn : ∀ o L, l o = some L → L.nil = false → L.blk ≠ b) :
    RepW c (fun x => F x ∨ x = b) l ob w ∧ Mono w F l w (fun x => F x ∨ x = b) l := by
  have m : Mono w F l w (fun x => F x ∨ x = b) l := ⟨fun _ h => .inl h, fun _ _ => rfl, LocExt.refl l⟩
  refine ⟨⟨R.below, fun x hx => .inl (R.f0 x hx), ?_, ?_, R.lt, ?_, ?_, R.inj⟩, m⟩
  · rintro x (hx | rfl)
    · exact R.fn x hx
    · exact .inr hB
  · rintro x (hx | rfl)
    · exact R.flt x hx
    · exact hb
  · intro o a ho
    rcases R.objs o a ho with h1 | ⟨L, h1, h2⟩
    · exact .inl h1
    · exact .inr ⟨L, h1, h2.up m fun _ => rfl⟩
  · intro o L ho hnil
    have := R.own o L ho hnil
    exact ⟨this.1, this.2.1, fun h => h.elim this.2.2 (hn o L ho hnil)⟩

def updL (l : Locs) (o : Nat) (L : Loc) : Locs := fun i => if i = o then some L else l i

theorem updL_same (l : Locs) (o : Nat) (L : Loc) : updL l o L o = some L := by simp [updL]
theorem updL_ne (l : Locs) {o i : Nat} (L : Loc) (h : i ≠ o) : updL l o L i = l i := by simp [updL, h]
theorem LocExt.new {l : Locs} {o : Nat} (L : Loc) (h : l o = none) : LocExt l (updL l o L) := by
  intro i L' hi
  refine ⟨L', ?_, .inl rfl⟩
  rw [updL_ne]; · exact hi
  rintro rfl; rw [h] at hi; cases hi

/-- A new object. -/
theorem RepW.new (R : RepW c F l ob w) {ob' : List AObj} {i : Nat} {a : AObj} {L : Loc} (hi : l i = none) (hlen : ob.length ≤ ob'.length) (hilt : i < ob'.length) (h1 : ob'[i]? = some a) (h2 : ∀ j, j ≠ i → j < ob'.length → ob'[j]? = ob[j]?)
    (hrep : Mono w F l w F (updL l i L) → ObjRep w F (updL l i L) a L) (hL : L.nil = false → c.w0.heap.size ≤ L.blk ∧ L.blk < w.heap.size ∧ ¬ F L.blk ∧ ∀ o L', l o = some L' → L'.nil = false → L'.blk ≠ L.blk) :
    RepW c F (updL l i L) ob' w ∧ Mono w F l w F (updL l i L) := by
  have m : Mono w F l w F (updL l i L) := ⟨fun _ h => h, fun _ _ => rfl, LocExt.new L hi⟩
  refine ⟨⟨R.below, R.f0, R.fn, R.flt, ?_, ?_, ?_, ?_⟩, m⟩
  · intro o L' ho
    by_cases e : o = i
    · subst e; exact hilt
    · rw [updL_ne _ _ e] at ho; exact Nat.lt_of_lt_of_le (R.lt o L' ho) hlen
  · intro o b ho
    by_cases e : o = i
    · subst e; rw [h1] at ho; cases ho; exact .inr ⟨L, updL_same _ _ _, hrep m⟩
    · have hlt : o < ob'.length := (List.getElem?_eq_some_iff.1 ho).1
      rw [h2 o e hlt] at ho
      rcases R.objs o b ho with h3 | ⟨L', h3, h4⟩
      · exact .inl ⟨h3.1, by rw [updL_ne _ _ e]; exact h3.2⟩
      · exact .inr ⟨L', by rw [updL_ne _ _ e]; exact h3, h4.up m fun _ => rfl⟩
  · intro o L' ho hn
    by_cases e : o = i
    · subst e; rw [updL_same] at ho; cases ho; have := hL hn; exact ⟨this.1, this.2.1, this.2.2.1⟩
    · rw [updL_ne _ _ e] at ho; exact R.own o L' ho hn
  · intro o o' L1 L2 ho ho' hn hn' hb
    by_cases e : o = i <;> by_cases e' : o' = i
    · rw [e, e']
    · subst e; rw [updL_same] at ho; cases ho; rw [updL_ne _ _ e'] at ho'
      exact absurd hb.symm ((hL hn).2.2.2 o' L2 ho' hn')
    · subst e'; rw [updL_same] at ho'; cases ho'; rw [updL_ne _ _ e] at ho
      exact absurd hb ((hL hn').2.2.2 o L1 ho hn)
    · rw [updL_ne _ _ e] at ho; rw [updL_ne _ _ e'] at ho'; exact R.inj o o' L1 L2 ho ho' hn hn' hb

theorem mkO_spec (R : RepW c F l ob w) {s : St} (hs : s.ob = ob) {nw : Option Nat} {a : AObj} {i : Nat} {ob' : List AObj} (h : mkO s nw a = some (i, ob')) :
    l i = none ∧ ob.length ≤ ob'.length ∧ i < ob'.length ∧ ob'[i]? = some a ∧ ∀ j, j ≠ i → j < ob'.length → ob'[j]? = ob[j]? := by
  subst hs
  cases nw with
  | none =>
    simp only [mkO, Option.some.injEq, Prod.mk.injEq] at h
    obtain ⟨rfl, rfl⟩ := h
    refine ⟨?_, by simp, by simp, by simp, fun j hj hlt => ?_⟩
    · cases hl : l s.ob.length with
      | none => rfl
      | some L => exact absurd (R.lt _ L hl) (Nat.lt_irrefl _)
    · simp only [List.length_append, List.length_cons, List.length_nil] at hlt
      rw [List.getElem?_append_left (by omega)]
  | some k =>
    simp only [mkO] at h
    split at h
    · rename_i hk
      simp only [Option.some.injEq, Prod.mk.injEq] at h
      obtain ⟨rfl, rfl⟩ := h
      have hlt : k < s.ob.length := (List.getElem?_eq_some_iff.1 hk).1
      refine ⟨?_, by simp, by simpa using hlt, by simp [hlt], fun j hj _ => by rw [List.getElem?_set_ne (Ne.symm hj)]⟩
      rcases R.objs k _ hk with h1 | ⟨L, h1, h2⟩
      · exact h1.2
      · exact h2.elim
    · cases h

/-- An object that changes, in its place or in a new block. -/
theorem RepW.change (R : RepW c F l ob w) {w' : World} {o : Nat} {L L' : Loc} {a' : AObj} (ho : l o = some L) (hlt : o < ob.length) (hos : w'.os = w.os) (htape : w'.tape = w.tape) (hout : w'.output = w.output)
    (hsize : w.heap.size ≤ w'.heap.size) (hblk : ∀ b, b < w.heap.size → (L.nil = false → b ≠ L.blk) → w'.heap[b]? = w.heap[b]?)
    (hL : L' = L ∨ (L.box = false ∧ L'.box = false ∧ L.len < L'.len)) (hL' : L'.nil = false → (L.nil = false ∧ L'.blk = L.blk) ∨ (w.heap.size ≤ L'.blk ∧ L'.blk < w'.heap.size))
    (hrep : Mono w F l w' F (updL l o L') → ObjRep w' F (updL l o L') a' L') : RepW c F (updL l o L') (ob.set o a') w' ∧ Mono w F l w' F (updL l o L') := by
  have hext : LocExt l (updL l o L') := by
    intro i M hi
    by_cases e : i = o
    · subst e; rw [ho] at hi; cases hi; exact ⟨L', updL_same _ _ _, hL⟩
    · exact ⟨M, by rw [updL_ne _ _ e]; exact hi, .inl rfl⟩
  have m : Mono w F l w' F (updL l o L') := ⟨fun _ h => h, fun b hb => hblk b (R.flt b hb) fun hn e => (R.own o L ho hn).2.2 (e ▸ hb), hext⟩
  refine ⟨⟨?_, R.f0, R.fn, fun b hb => Nat.lt_of_lt_of_le (R.flt b hb) hsize, ?_, ?_, ?_, ?_⟩, m⟩
  · refine R.below.trans ⟨hos, htape, hout, hsize, fun k hk => hblk k (Nat.lt_of_lt_of_le hk R.below.size) fun hn e => ?_⟩
    have := (R.own o L ho hn).1; omega
  · intro i M hi
    rw [List.length_set]
    by_cases e : i = o
    · subst e; exact hlt
    · rw [updL_ne _ _ e] at hi; exact R.lt i M hi
  · intro i b hi
    by_cases e : i = o
    · subst e
      rw [List.getElem?_set_self hlt] at hi; cases hi
      exact .inr ⟨L', updL_same _ _ _, hrep m⟩
    · rw [List.getElem?_set_ne (Ne.symm e)] at hi
      rcases R.objs i b hi with h3 | ⟨M, h3, h4⟩
      · exact .inl ⟨h3.1, by rw [updL_ne _ _ e]; exact h3.2⟩
      · refine .inr ⟨M, by rw [updL_ne _ _ e]; exact h3, h4.up m fun hn => ?_⟩
        exact hblk _ (R.own i M h3 hn).2.1 fun hn' eb => e (R.inj i o M L h3 ho hn hn' eb)
  · intro i M hi hn
    by_cases e : i = o
    · subst e; rw [updL_same] at hi; cases hi
      rcases hL' hn with ⟨h1, h2⟩ | ⟨h1, h2⟩
      · have := R.own i L ho h1; rw [h2]; exact ⟨this.1, Nat.lt_of_lt_of_le this.2.1 hsize, this.2.2⟩
      · exact ⟨Nat.le_trans R.below.size h1, h2, fun hF => by have := R.flt _ hF; omega⟩
    · rw [updL_ne _ _ e] at hi; have := R.own i M hi hn; exact ⟨this.1, Nat.lt_of_lt_of_le this.2.1 hsize, this.2.2⟩
  · intro i j M N hi hj hn hn' hb
    by_cases e : i = o <;> by_cases e' : j = o
    · rw [e, e']
    · subst e; rw [updL_same] at hi; cases hi; rw [updL_ne _ _ e'] at hj
      rcases hL' hn with ⟨h1, h2⟩ | ⟨h1, h2⟩
      · exact R.inj i j L N ho hj h1 hn' (h2.symm.trans hb)
      · have := R.own j N hj hn'; omega
    · subst e'; rw [updL_same] at hj; cases hj; rw [updL_ne _ _ e] at hi
      rcases hL' hn' with ⟨h1, h2⟩ | ⟨h1, h2⟩
      · exact R.inj i j M L hi ho hn h1 (hb.trans h2)
      · have := R.own i M hi hn; omega
    · rw [updL_ne _ _ e] at hi; rw [updL_ne _ _ e'] at hj; exact R.inj i j M N hi hj hn hn' hb

end
end Go.Proofs.YtdgpiobmncohjaaGreat.Aw
