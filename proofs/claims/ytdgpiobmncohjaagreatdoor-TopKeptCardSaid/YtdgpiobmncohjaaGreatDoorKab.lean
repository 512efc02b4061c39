/-
 When abstract objects stand for a world's memory, and what keeps them so. Lemmas on memory alone.; Loads, stores and the reading of slices: what they do in a world for which abstract objects stand.
-/
import Derived.Test.YtdgpiobmncohjaaGreatDoorKaa
set_option linter.all false
namespace Go.Proofs.YtdgpiobmncohjaaGreatDoor.Aw
open Go.RowKit
structure Ctx where
 w0 : World
 F0 : Nat → Prop
 n : Nat
 glob : GlobOk w0
def Free (fr : Nat × Nat) (n : Nat) : Prop := ∀ j, j < n → ¬ (fr.1 ≤ j ∧ j < fr.2)
def EntRep (w : World) (F : Nat → Prop) (l : Locs) (e : Nat × Int × PV) (m : MapEntry) : Prop := m.born = e.1 ∧ m.key = .int .i64 e.2.1 ∧ R1 w F l e.2.2 m.val
def EntsRep (w : World) (F : Nat → Prop) (l : Locs) (es : List (Nat × Int × PV)) (ms : List MapEntry) : Prop :=
 es.length = ms.length ∧ ∀ (i : Nat) e m, es[i]? = some e → ms[i]? = some m → EntRep w F l e m
def goneLen : Nat := 18446744073709551616
def ObjRep (w : World) (F : Nat → Prop) (l : Locs) (a : AObj) (L : Loc) : Prop :=
 match a with
 | .none => False
 | .junk => L.box = true ∨ (L.nil = true ∧ L.len = goneLen)
 | .map ck es => L.box = true ∧ L.nil = false ∧ ∃ ms, w.heap[L.blk]? = some (.map ms.toArray ck) ∧ EntsRep w F l es ms
 | .iter m since seen last => L.box = true ∧ L.nil = false ∧ ∃ Lm, l m = some Lm ∧ Lm.box = true ∧ w.heap[L.blk]? = some (.mapIter (some Lm.blk) since seen.toArray last)
 | .box cells => L.box = true ∧ L.nil = false ∧ ∃ cv e, w.heap[L.blk]? = some (.cells cv.toArray e (0, 0)) ∧ RL w F l cells cv ∧ ∀ v ∈ cv, v.oneCell' = true
 | .tbox t cells => L.box = true ∧ L.nil = false ∧ ∃ cv, w.heap[L.blk]? = some (.cells cv.toArray t (0, 0)) ∧ RL w F l cells cv ∧ ∀ v ∈ cv, v.oneCell' = true
 | .buf u bs => L.box = false ∧ L.len = bs.length ∧ L.esz = 1 ∧ L.st = 0 ∧ L.off = 0 ∧ ((L.nil = true ∧ bs = []) ∨ (L.nil = false ∧ bs ≠ [] ∧ ∃ cc fz, w.heap[L.blk]? = some (.cells cc u fz) ∧ fz.2 ≤ bs.length ∧ bs.length ≤ L.cap ∧ L.cap ≤ maxLen ∧ cc.size = L.cap ∧ cc.toList.take bs.length = Lib.byteCells bs))
 | .list esz rows => L.box = false ∧ L.len = rows.length ∧ L.esz = esz ∧ (∀ r ∈ rows, r.length = esz) ∧
   ((L.nil = true ∧ rows = []) ∨ (L.nil = false ∧ L.st ≤ rows.length ∧ rows.length ≤ L.cap ∧ ∃ c e fr cv, w.heap[L.blk]? = some (.cells c e fr) ∧ Free fr c.size ∧ L.off + (L.cap - L.st) * esz ≤ c.size ∧
    RL w F (fun _ => none) (rows.drop L.st).flatten cv ∧ (∀ j, j < cv.length → c[L.off + j]? = cv[j]?) ∧ ∀ v ∈ cv, v.oneCell' = true))
structure RepW (c : Ctx) (F : Nat → Prop) (l : Locs) (ob : List AObj) (w : World) : Prop where
 below : Below c.w0.heap.size c.w0 w
 f0 : ∀ b, c.F0 b → F b
 fn : ∀ b, F b → c.F0 b ∨ c.w0.heap.size ≤ b
 flt : ∀ b, F b → b < w.heap.size
 lt : ∀ o L, l o = some L → o < ob.length
 objs : ∀ o a, ob[o]? = some a → (a = .none ∧ l o = none) ∨ ∃ L, l o = some L ∧ ObjRep w F l a L
 own : ∀ o L, l o = some L → L.nil = false → c.w0.heap.size ≤ L.blk ∧ L.blk < w.heap.size ∧ ¬ F L.blk
 inj : ∀ o o' L L', l o = some L → l o' = some L' → L.nil = false → L'.nil = false → L.blk = L'.blk → o = o'
theorem RepW.globOk {c : Ctx} {F : Nat → Prop} {l : Locs} {ob : List AObj} {w : World} (R : RepW c F l ob w) : GlobOk w := c.glob.below R.below
theorem cell_of_block {w : World} {b i : Nat} {c : Array Value} {e : TypeId} {fr : Nat × Nat} (h : w.heap[b]? = some (.cells c e fr)) : w.cell? ⟨b, i, none⟩ = c[i]? := by
 simp [World.cell?, h]
theorem frozen_of_block {w : World} {b i : Nat} {c : Array Value} {e : TypeId} {fr : Nat × Nat} (h : w.heap[b]? = some (.cells c e fr)) (hf : Free fr c.size) (hi : i < c.size) : w.frozen? ⟨b, i, none⟩ = false := by
 have := hf i hi
 obtain ⟨lo, hi'⟩ := fr
 simp only [World.frozen?, h]
 simp only [not_and, Nat.not_lt] at this
 by_cases h1 : lo ≤ i
 ·simp [h1, this h1]
 ·simp [h1]
theorem lt_of_cells {w : World} {b : Nat} {o : Obj} (h : w.heap[b]? = some o) : b < w.heap.size := by
 rcases Nat.lt_or_ge b w.heap.size with h' | h'
 ·exact h'
 ·simp [Array.getElem?_eq_none h'] at h
section
variable {c : Ctx} {F : Nat → Prop} {l : Locs} {ob : List AObj} {w : World}
theorem EntsRep.up {w' : World} {F' : Nat → Prop} {l' : Locs} {es : List (Nat × Int × PV)} {ms : List MapEntry} (m : Mono w F l w' F' l') (h : EntsRep w F l es ms) : EntsRep w' F' l' es ms :=
 ⟨h.1, fun i e x h1 h2 => ⟨(h.2 i e x h1 h2).1, (h.2 i e x h1 h2).2.1, (h.2 i e x h1 h2).2.2.up m⟩⟩
theorem ObjRep.up {w' : World} {F' : Nat → Prop} {l' : Locs} {a : AObj} {L : Loc} (m : Mono w F l w' F' l') (hh : L.nil = false → w'.heap[L.blk]? = w.heap[L.blk]?) (h : ObjRep w F l a L) : ObjRep w' F' l' a L := by
 cases a with
 | none => exact h
 | junk => exact h
 | map ck es =>
  obtain ⟨h1, h2, ms, h3, h4⟩ := h
  exact ⟨h1, h2, ms, (hh h2).trans h3, h4.up m⟩
 | iter q since seen last =>
  obtain ⟨h1, h2, Lm, h3, h4, h5⟩ := h
  obtain ⟨L', g1, g2⟩ := m.loc _ _ h3
  rcases g2 with rfl | ⟨a, _, _⟩
  ·exact ⟨h1, h2, L', g1, h4, (hh h2).trans h5⟩
  ·rw [h4] at a; cases a
 | box cells =>
  obtain ⟨h1, h2, cv, e, h3, h4, h5⟩ := h
  exact ⟨h1, h2, cv, e, (hh h2).trans h3, h4.up m, h5⟩
 | tbox t cells =>
  obtain ⟨h1, h2, cv, h3, h4, h5⟩ := h
  exact ⟨h1, h2, cv, (hh h2).trans h3, h4.up m, h5⟩
 | buf u bs =>
  obtain ⟨h1, h2, h3, h4, h5, h6⟩ := h
  refine ⟨h1, h2, h3, h4, h5, ?_⟩
  rcases h6 with h6 | ⟨h6, h7, cc, fz, h8, h9⟩
  ·exact .inl h6
  ·exact .inr ⟨h6, h7, cc, fz, (hh h6).trans h8, h9⟩
 | list esz rows =>
  obtain ⟨h1, h2, h3, h4, h5⟩ := h
  refine ⟨h1, h2, h3, h4, ?_⟩
  rcases h5 with h5 | ⟨h5, h6, h6', cc, e, fr, cv, h7, h8, h9, h10, h11, h12⟩
  ·exact .inl h5
  ·exact .inr ⟨h5, h6, h6', cc, e, fr, cv, (hh h5).trans h7, h8, h9, h10.up ⟨m.frz, m.heap, LocExt.refl _⟩, h11, h12⟩
theorem RepW.ext (R : RepW c F l ob w) {w' : World} (h : Below w.heap.size w w') : RepW c F l ob w' ∧ Mono w F l w' F l := by
 have m : Mono w F l w' F l := ⟨fun _ h => h, fun b hb => h.block b (R.flt b hb), LocExt.refl l⟩
 refine ⟨⟨R.below.trans (h.mono R.below.size), R.f0, R.fn, fun b hb => Nat.lt_of_lt_of_le (R.flt b hb) h.size, R.lt, ?_, ?_, R.inj⟩, m⟩
 ·intro o a ho
  rcases R.objs o a ho with h1 | ⟨L, h1, h2⟩
  ·exact .inl h1
  ·exact .inr ⟨L, h1, h2.up m fun hn => h.block _ (R.own o L h1 hn).2.1⟩
 ·intro o L ho hn
  have := R.own o L ho hn
  exact ⟨this.1, Nat.lt_of_lt_of_le this.2.1 h.size, this.2.2⟩
theorem RepW.freeze (R : RepW c F l ob w) {b : Nat} (hB : c.w0.heap.size ≤ b) (hb : b < w.heap.size) (hn : ∀ o L, l o = some L → L.nil = false → L.blk ≠ b) :
  RepW c (fun x => F x ∨ x = b) l ob w ∧ Mono w F l w (fun x => F x ∨ x = b) l := by
 have m : Mono w F l w (fun x => F x ∨ x = b) l := ⟨fun _ h => .inl h, fun _ _ => rfl, LocExt.refl l⟩
 refine ⟨⟨R.below, fun x hx => .inl (R.f0 x hx), ?_, ?_, R.lt, ?_, ?_, R.inj⟩, m⟩
 ·rintro x (hx | rfl)
  ·exact R.fn x hx
  ·exact .inr hB
 ·rintro x (hx | rfl)
  ·exact R.flt x hx
  ·exact hb
 ·intro o a ho
  rcases R.objs o a ho with h1 | ⟨L, h1, h2⟩
  ·exact .inl h1
  ·exact .inr ⟨L, h1, h2.up m fun _ => rfl⟩
 ·intro o L ho hnil
  have := R.own o L ho hnil
  exact ⟨this.1, this.2.1, fun h => h.elim this.2.2 (hn o L ho hnil)⟩
def updL (l : Locs) (o : Nat) (L : Loc) : Locs := fun i => if i = o then some L else l i
theorem updL_same (l : Locs) (o : Nat) (L : Loc) : updL l o L o = some L := by simp [updL]
theorem updL_ne (l : Locs) {o i : Nat} (L : Loc) (h : i ≠ o) : updL l o L i = l i := by simp [updL, h]
theorem LocExt.new {l : Locs} {o : Nat} (L : Loc) (h : l o = none) : LocExt l (updL l o L) := by
 intro i L' hi
 refine ⟨L', ?_, .inl rfl⟩
 rw [updL_ne]; · exact hi
 rintro rfl; rw [h] at hi; cases hi
theorem RepW.new (R : RepW c F l ob w) {ob' : List AObj} {i : Nat} {a : AObj} {L : Loc} (hi : l i = none) (hlen : ob.length ≤ ob'.length) (hilt : i < ob'.length) (h1 : ob'[i]? = some a) (h2 : ∀ j, j ≠ i → j < ob'.length → ob'[j]? = ob[j]?)
  (hrep : Mono w F l w F (updL l i L) → ObjRep w F (updL l i L) a L) (hL : L.nil = false → c.w0.heap.size ≤ L.blk ∧ L.blk < w.heap.size ∧ ¬ F L.blk ∧ ∀ o L', l o = some L' → L'.nil = false → L'.blk ≠ L.blk) :
  RepW c F (updL l i L) ob' w ∧ Mono w F l w F (updL l i L) := by
 have m : Mono w F l w F (updL l i L) := ⟨fun _ h => h, fun _ _ => rfl, LocExt.new L hi⟩
 refine ⟨⟨R.below, R.f0, R.fn, R.flt, ?_, ?_, ?_, ?_⟩, m⟩
 ·intro o L' ho
  by_cases e : o = i
  ·subst e; exact hilt
  ·rw [updL_ne _ _ e] at ho; exact Nat.lt_of_lt_of_le (R.lt o L' ho) hlen
 ·intro o b ho
  by_cases e : o = i
  ·subst e; rw [h1] at ho; cases ho; exact .inr ⟨L, updL_same _ _ _, hrep m⟩
  ·have hlt : o < ob'.length := (List.getElem?_eq_some_iff.1 ho).1
   rw [h2 o e hlt] at ho
   rcases R.objs o b ho with h3 | ⟨L', h3, h4⟩
   ·exact .inl ⟨h3.1, by rw [updL_ne _ _ e]; exact h3.2⟩
   ·exact .inr ⟨L', by rw [updL_ne _ _ e]; exact h3, h4.up m fun _ => rfl⟩
 ·intro o L' ho hn
  by_cases e : o = i
  ·subst e; rw [updL_same] at ho; cases ho; have := hL hn; exact ⟨this.1, this.2.1, this.2.2.1⟩
  ·rw [updL_ne _ _ e] at ho; exact R.own o L' ho hn
 ·intro o o' L1 L2 ho ho' hn hn' hb
  by_cases e : o = i <;> by_cases e' : o' = i
  ·rw [e, e']
  ·subst e; rw [updL_same] at ho; cases ho; rw [updL_ne _ _ e'] at ho'
   exact absurd hb.symm ((hL hn).2.2.2 o' L2 ho' hn')
  ·subst e'; rw [updL_same] at ho'; cases ho'; rw [updL_ne _ _ e] at ho
   exact absurd hb ((hL hn').2.2.2 o L1 ho hn)
  ·rw [updL_ne _ _ e] at ho; rw [updL_ne _ _ e'] at ho'; exact R.inj o o' L1 L2 ho ho' hn hn' hb
theorem mkO_spec (R : RepW c F l ob w) {s : St} (hs : s.ob = ob) {nw : Option Nat} {a : AObj} {i : Nat} {ob' : List AObj} (h : mkO s nw a = some (i, ob')) :
  l i = none ∧ ob.length ≤ ob'.length ∧ i < ob'.length ∧ ob'[i]? = some a ∧ ∀ j, j ≠ i → j < ob'.length → ob'[j]? = ob[j]? := by
 subst hs
 cases nw with
 | none =>
  simp only [mkO, Option.some.injEq, Prod.mk.injEq] at h
  obtain ⟨rfl, rfl⟩ := h
  refine ⟨?_, by simp, by simp, by simp, fun j hj hlt => ?_⟩
  ·cases hl : l s.ob.length with
   | none => rfl
   | some L => exact absurd (R.lt _ L hl) (Nat.lt_irrefl _)
  ·simp only [List.length_append, List.length_cons, List.length_nil] at hlt
   rw [List.getElem?_append_left (by omega)]
 | some k =>
  simp only [mkO] at h
  split at h
  ·rename_i hk
   simp only [Option.some.injEq, Prod.mk.injEq] at h
   obtain ⟨rfl, rfl⟩ := h
   have hlt : k < s.ob.length := (List.getElem?_eq_some_iff.1 hk).1
   refine ⟨?_, by simp, by simpa using hlt, by simp [hlt], fun j hj _ => by rw [List.getElem?_set_ne (Ne.symm hj)]⟩
   rcases R.objs k _ hk with h1 | ⟨L, h1, h2⟩
   ·exact h1.2
   ·exact h2.elim
  ·cases h
theorem RepW.change (R : RepW c F l ob w) {w' : World} {o : Nat} {L L' : Loc} {a' : AObj} (ho : l o = some L) (hlt : o < ob.length) (hos : w'.os = w.os) (htape : w'.tape = w.tape) (hout : w'.output = w.output)
  (hsize : w.heap.size ≤ w'.heap.size) (hblk : ∀ b, b < w.heap.size → (L.nil = false → b ≠ L.blk) → w'.heap[b]? = w.heap[b]?)
  (hL : L' = L ∨ (L.box = false ∧ L'.box = false ∧ L.len < L'.len)) (hL' : L'.nil = false → (L.nil = false ∧ L'.blk = L.blk) ∨ (w.heap.size ≤ L'.blk ∧ L'.blk < w'.heap.size))
  (hrep : Mono w F l w' F (updL l o L') → ObjRep w' F (updL l o L') a' L') : RepW c F (updL l o L') (ob.set o a') w' ∧ Mono w F l w' F (updL l o L') := by
 have hext : LocExt l (updL l o L') := by
  intro i M hi
  by_cases e : i = o
  ·subst e; rw [ho] at hi; cases hi; exact ⟨L', updL_same _ _ _, hL⟩
  ·exact ⟨M, by rw [updL_ne _ _ e]; exact hi, .inl rfl⟩
 have m : Mono w F l w' F (updL l o L') := ⟨fun _ h => h, fun b hb => hblk b (R.flt b hb) fun hn e => (R.own o L ho hn).2.2 (e ▸ hb), hext⟩
 refine ⟨⟨?_, R.f0, R.fn, fun b hb => Nat.lt_of_lt_of_le (R.flt b hb) hsize, ?_, ?_, ?_, ?_⟩, m⟩
 ·refine R.below.trans ⟨hos, htape, hout, hsize, fun k hk => hblk k (Nat.lt_of_lt_of_le hk R.below.size) fun hn e => ?_⟩
  have := (R.own o L ho hn).1; omega
 ·intro i M hi
  rw [List.length_set]
  by_cases e : i = o
  ·subst e; exact hlt
  ·rw [updL_ne _ _ e] at hi; exact R.lt i M hi
 ·intro i b hi
  by_cases e : i = o
  ·subst e
   rw [List.getElem?_set_self hlt] at hi; cases hi
   exact .inr ⟨L', updL_same _ _ _, hrep m⟩
  ·rw [List.getElem?_set_ne (Ne.symm e)] at hi
   rcases R.objs i b hi with h3 | ⟨M, h3, h4⟩
   ·exact .inl ⟨h3.1, by rw [updL_ne _ _ e]; exact h3.2⟩
   ·refine .inr ⟨M, by rw [updL_ne _ _ e]; exact h3, h4.up m fun hn => ?_⟩
    exact hblk _ (R.own i M h3 hn).2.1 fun hn' eb => e (R.inj i o M L h3 ho hn hn' eb)
 ·intro i M hi hn
  by_cases e : i = o
  ·subst e; rw [updL_same] at hi; cases hi
   rcases hL' hn with ⟨h1, h2⟩ | ⟨h1, h2⟩
   ·have := R.own i L ho h1; rw [h2]; exact ⟨this.1, Nat.lt_of_lt_of_le this.2.1 hsize, this.2.2⟩
   ·exact ⟨Nat.le_trans R.below.size h1, h2, fun hF => by have := R.flt _ hF; omega⟩
  ·rw [updL_ne _ _ e] at hi; have := R.own i M hi hn; exact ⟨this.1, Nat.lt_of_lt_of_le this.2.1 hsize, this.2.2⟩
 ·intro i j M N hi hj hn hn' hb
  by_cases e : i = o <;> by_cases e' : j = o
  ·rw [e, e']
  ·subst e; rw [updL_same] at hi; cases hi; rw [updL_ne _ _ e'] at hj
   rcases hL' hn with ⟨h1, h2⟩ | ⟨h1, h2⟩
   ·exact R.inj i j L N ho hj h1 hn' (h2.symm.trans hb)
   ·have := R.own j N hj hn'; omega
  ·subst e'; rw [updL_same] at hj; cases hj; rw [updL_ne _ _ e] at hi
   rcases hL' hn' with ⟨h1, h2⟩ | ⟨h1, h2⟩
   ·exact R.inj i j M L hi ho hn h1 (hb.trans h2)
   ·have := R.own i M hi hn; omega
  ·rw [updL_ne _ _ e] at hi; rw [updL_ne _ _ e'] at hj; exact R.inj i j M N hi hj hn hn' hb
end
open Go.RowKit
theorem flatten_drop {esz : Nat} : ∀ (rows : List (List PV)) (i : Nat), (∀ r ∈ rows, r.length = esz) → (rows.drop i).flatten = rows.flatten.drop (i * esz)
 | rows, 0, _ => by simp
 | [], i + 1, _ => by simp
 | r :: rows, i + 1, h => by
  have hr := h r (by simp)
  rw [List.drop_succ_cons, flatten_drop rows i (fun x hx => h x (by simp [hx])), List.flatten_cons, List.drop_append]
  rw [List.drop_eq_nil_of_le (as := r) (by rw [hr, Nat.add_mul]; omega), List.nil_append]
  congr 1
  rw [hr, Nat.add_mul]; omega
theorem flatten_take {esz : Nat} : ∀ (rows : List (List PV)) (i : Nat), (∀ r ∈ rows, r.length = esz) → (rows.take i).flatten = rows.flatten.take (i * esz)
 | rows, 0, _ => by simp
 | [], i + 1, _ => by simp
 | r :: rows, i + 1, h => by
  have hr := h r (by simp)
  rw [List.take_succ_cons, List.flatten_cons, flatten_take rows i (fun x hx => h x (by simp [hx])), List.flatten_cons, List.take_append]
  rw [List.take_of_length_le (l := r) (by rw [hr, Nat.add_mul]; omega)]
  congr 2
  rw [hr, Nat.add_mul]; omega
theorem flatten_len {esz : Nat} : ∀ (rows : List (List PV)), (∀ r ∈ rows, r.length = esz) → rows.flatten.length = rows.length * esz
 | [], _ => by simp
 | r :: rows, h => by
  rw [List.flatten_cons, List.length_append, flatten_len rows (fun x hx => h x (by simp [hx])), h r (by simp), List.length_cons, Nat.add_mul]
  omega
theorem flatten_single : ∀ xs : List PV, (xs.map fun c => [c]).flatten = xs
 | [] => rfl
 | x :: xs => by rw [List.map_cons, List.flatten_cons, flatten_single xs]; rfl
theorem flatten_row {esz : Nat} {rows : List (List PV)} {i : Nat} {r : List PV} (h : ∀ r ∈ rows, r.length = esz) (hi : rows[i]? = some r) : (rows.flatten.drop (i * esz)).take esz = r := by
 rw [← flatten_drop rows i h]
 obtain ⟨hlt, he⟩ := List.getElem?_eq_some_iff.1 hi
 rw [List.drop_eq_getElem_cons hlt, List.flatten_cons, he, List.take_append, h r (List.mem_of_getElem? hi)]
 rw [List.take_of_length_le (Nat.le_of_eq (h r (List.mem_of_getElem? hi)))]
 simp
theorem getElem?_take_drop {α : Type} (xs : List α) (k n j : Nat) (x : α) (h : ((xs.drop k).take n)[j]? = some x) : xs[k + j]? = some x ∧ j < n := by
 rw [List.getElem?_take] at h
 split at h
 ·rw [List.getElem?_drop] at h; exact ⟨h, ‹_›⟩
 ·cases h
theorem splice_get {A : List Value} (xs cv : List Value) (o q : Nat) (h : ∀ j, j < cv.length → A[o + j]? = cv[j]?) (hlen : o + cv.length ≤ A.length) (hq : q + xs.length ≤ cv.length) (j : Nat) (hj : j < cv.length) :
  (A.take (o + q) ++ xs ++ A.drop (o + q + xs.length))[o + j]? = (cv.take q ++ xs ++ cv.drop (q + xs.length))[j]? := by
 have e1 : (A.take (o + q)).length = o + q := by rw [List.length_take]; omega
 have e2 : (cv.take q).length = q := by rw [List.length_take]; omega
 by_cases j1 : j < q
 ·rw [List.append_assoc, List.append_assoc, List.getElem?_append_left (by omega), List.getElem?_append_left (by omega), List.getElem?_take, List.getElem?_take, if_pos (by omega), if_pos j1]
  exact h j hj
 ·by_cases j2 : j < q + xs.length
  ·have a1 : (A.take (o + q) ++ (xs ++ A.drop (o + q + xs.length)))[o + j]? = xs[j - q]? := by
    rw [List.getElem?_append_right (by omega), e1, List.getElem?_append_left (by omega)]; congr 1; omega
   have a2 : (cv.take q ++ (xs ++ cv.drop (q + xs.length)))[j]? = xs[j - q]? := by
    rw [List.getElem?_append_right (by omega), e2, List.getElem?_append_left (by omega)]
   rw [List.append_assoc, List.append_assoc, a1, a2]
  ·have e3 : (A.take (o + q) ++ xs).length = o + q + xs.length := by rw [List.length_append, e1]
   have e4 : (cv.take q ++ xs).length = q + xs.length := by rw [List.length_append, e2]
   rw [List.getElem?_append_right (by omega), List.getElem?_append_right (by omega), e3, e4, List.getElem?_drop, List.getElem?_drop]
   rw [show o + q + xs.length + (o + j - (o + q + xs.length)) = o + j by omega, show q + xs.length + (j - (q + xs.length)) = j by omega]
   exact h j hj
section
variable {P : Program} {c : Ctx} {F : Nat → Prop} {l : Locs} {ob : List AObj} {w : World}
def PtrTo (w : World) (F : Nat → Prop) (l : Locs) (cs : List PV) (v : Value) : Prop :=
 ∃ b off cv, v = .pointer (some ⟨b, off, none⟩) ∧ RL w F l cs cv ∧ (∀ j x, cv[j]? = some x → w.cell? ⟨b, off + j, none⟩ = some x) ∧ ∀ x ∈ cv, x.oneCell' = true
theorem ldC_sound (R : RepW c F l ob w) {forb : List Nat} {p : PV} {v : Value} {n : Nat} {cs : List PV} (hp : R1 w F l p v) (h : ldC ob forb p n = some cs) : PtrTo w F l cs v ∧ cs.length = n := by
 cases hp with
 | @ref l o off L ho hb =>
  simp only [ldC] at h
  split at h
  ·cases h
  split at h
  ·rename_i cells hob
   split at h
   ·rename_i hlen
    cases h
    rcases R.objs o _ hob with h1 | ⟨L', h1, h2⟩
    ·simp at h1
    rw [ho] at h1; cases h1
    obtain ⟨h3, h4, cv, e, h5, h6, h7⟩ := h2
    refine ⟨⟨L.blk, off, (cv.drop off).take n, rfl, (h6.drop off).take n, fun j x hx => ?_, fun x hx => h7 x (List.mem_of_mem_drop (List.mem_of_mem_take hx))⟩, ?_⟩
    ·rw [cell_of_block h5]
     have := (getElem?_take_drop _ _ _ _ _ hx).1
     simpa using this
    ·simp; omega
   ·cases h
  ·rename_i t cells hob
   split at h
   ·rename_i hlen
    cases h
    rcases R.objs o _ hob with h1 | ⟨L', h1, h2⟩
    ·simp at h1
    rw [ho] at h1; cases h1
    obtain ⟨h3, h4, cv, h5, h6, h7⟩ := h2
    refine ⟨⟨L.blk, off, (cv.drop off).take n, rfl, (h6.drop off).take n, fun j x hx => ?_, fun x hx => h7 x (List.mem_of_mem_drop (List.mem_of_mem_take hx))⟩, ?_⟩
    ·rw [cell_of_block h5]
     have := (getElem?_take_drop _ _ _ _ _ hx).1
     simpa using this
    ·simp; omega
   ·cases h
  ·cases h
 | @lref l o i off len L v ho hb hn hv hh =>
  simp only [ldC] at h
  split at h
  ·cases h
  split at h
  ·rename_i esz rows hob
   split at h
   ·rename_i hlen
    split at h
    ·rename_i r hr
     split at h
     ·rename_i hoff
      cases h
      rcases R.objs o _ hob with h1 | ⟨L', h1, h2⟩
      ·simp at h1
      rw [ho] at h1; cases h1
      obtain ⟨h3, h4, h5, h6, h7⟩ := h2
      rcases h7 with ⟨h7, h8⟩ | ⟨h7, h8, h9, cc, e, fr, cv, h10, h11, h12, h13, h14, h15⟩
      ·subst h8; simp at hr
      ·obtain ⟨hst, hveq⟩ := hh (by omega)
       subst hveq
       have hil : i < rows.length := (List.getElem?_eq_some_iff.1 hr).1
       have hrl : r.length = esz := h6 r (List.mem_of_getElem? hr)
       have hd : ∀ r ∈ rows.drop L.st, r.length = esz := fun x hx => h6 x (List.mem_of_mem_drop hx)
       have hr' : (rows.drop L.st)[i - L.st]? = some r := by rw [List.getElem?_drop, show L.st + (i - L.st) = i by omega]; exact hr
       have hrow := flatten_row hd hr'
       have e1 : (r.drop off).take n = ((rows.drop L.st).flatten.drop ((i - L.st) * esz + off)).take n := by
        rw [← hrow, List.drop_take, List.take_take, List.drop_drop, Nat.min_eq_left (by omega)]
       refine ⟨⟨_, _, (cv.drop ((i - L.st) * esz + off)).take n, rfl, ?_, fun j x hx => ?_, fun x hx => h15 x (List.mem_of_mem_drop (List.mem_of_mem_take hx))⟩, ?_⟩
       ·rw [e1]; exact ((h13.drop _).take n).free
       ·rw [cell_of_block h10]
        have h16 := (getElem?_take_drop _ _ _ _ _ hx).1
        have h17 : (i - L.st) * esz + off + j < cv.length := (List.getElem?_eq_some_iff.1 h16).1
        rw [← h16, ← h14 _ h17, h5]
        congr 1; omega
       ·simp; omega
     ·cases h
    ·cases h
   ·cases h
  ·cases h
 | @fptr l cells b off cv hF hc hl hh =>
  simp only [ldC] at h
  split at h
  ·cases h
   obtain ⟨⟨cc, e, fr, h1, h2⟩, h3⟩ := hc
   refine ⟨⟨b, off, cv.take n, rfl, (RL.take n ⟨hl, hh⟩).free, fun j x hx => ?_, fun x hx => h3 x (List.mem_of_mem_take hx)⟩, ?_⟩
   ·rw [cell_of_block h1]
    rw [List.getElem?_take] at hx
    split at hx
    ·rw [h2 j (List.getElem?_eq_some_iff.1 hx).1]; exact hx
    ·cases hx
   ·simp; omega
  ·cases h
 | _ => simp [ldC] at h
theorem run_loadCells_ptr {b off n : Nat} {cv : List Value} (hl : cv.length = n) (h : ∀ j x, cv[j]? = some x → w.cell? ⟨b, off + j, none⟩ = some x) :
  (loadCells ⟨b, off, none⟩ n).run P w = .ok cv.toArray w := by
 subst hl
 refine run_loadCells_list w ⟨b, off, none⟩ cv fun j v hv => ?_
 rw [Addr.add_lit]; exact h j v hv
theorem run_storeCells_free (g o : Nat) (t : TypeId) (fr : Nat × Nat) : ∀ (vs : List Value) (i : Nat) (cur : Array Value) (w : World), w.heap[g]? = some (.cells cur t fr) → Free fr cur.size → o + i + vs.length ≤ cur.size → (∀ v ∈ vs, v.oneCell' = true) →
  (storeCells ⟨g, o, none⟩ vs i).run P w = .ok () (w.setRow g (cur.toList.take (o + i) ++ vs ++ cur.toList.drop (o + i + vs.length)).toArray)
 | [], i, cur, w, hg, _, _, _ => by
  simp only [storeCells, List.append_nil, List.length_nil, Nat.add_zero, List.take_append_drop, Array.toArray_toList]
  rw [setRow_self w g cur t fr hg]
  rfl
 | v :: rest, i, cur, w, hg, hf, hl, h1 => by
  have hi : o + i < cur.size := by simp at hl; omega
  have hadd : (⟨g, o, none⟩ : Addr).add i = ⟨g, o + i, none⟩ := by unfold Addr.add; split <;> simp_all
  have hcell : w.cell? ⟨g, o + i, none⟩ = some cur[o + i] := by simp [World.cell?, hg, hi]
  have hfro : w.frozen? ⟨g, o + i, none⟩ = false := frozen_of_block hg hf hi
  have hst : (store ((⟨g, o, none⟩ : Addr).add i) v).run P w = .ok () (w.setRow g (cur.setIfInBounds (o + i) v)) := by
   rw [hadd, run_store P w _ v _ (h1 v (by simp)), hcell]
   simp [hfro, setCell_eq_setRow w g (o + i) cur t fr v hg]
  have ih := run_storeCells_free g o t fr rest (i + 1) (cur.setIfInBounds (o + i) v) (w.setRow g (cur.setIfInBounds (o + i) v)) (setRow_heap w g cur _ t _ hg) (by simpa using hf) (by simp at hl ⊢; omega) (fun x hx => h1 x (by simp [hx]))
  simp only [storeCells, Sem.run_bind, hst, Result.andThen_ok, ih, setRow_setRow]
  congr 3
  have e := list_seg_step cur.toList (o + i) v rest (by simp at hl ⊢; omega)
  simpa [Array.toList_setIfInBounds, Nat.add_assoc] using e
theorem setRow_below {w : World} {g : Nat} (cs : Array Value) : (w.setRow g cs).os = w.os ∧ (w.setRow g cs).tape = w.tape ∧ (w.setRow g cs).output = w.output ∧ (w.setRow g cs).heap.size = w.heap.size := ⟨rfl, rfl, rfl, by simp⟩
theorem setAt_length {cs : List PV} {off : Nat} {vs : List PV} (h : off + vs.length ≤ cs.length) : (setAt cs off vs).length = cs.length := by
 simp [setAt]; omega
theorem RL.setAt {cs : List PV} {cv : List Value} {off : Nat} {vs : List PV} {xs : List Value} (h : RL w F l cs cv) (hv : RL w F l vs xs) : RL w F l (setAt cs off vs) (cv.take off ++ xs ++ cv.drop (off + xs.length)) := by
 unfold Aw.setAt
 rw [List.append_assoc, ← hv.1]
 exact (h.take off).append (hv.append (h.drop _))
theorem flatten_set {esz : Nat} {rows : List (List PV)} {i : Nat} {r r' : List PV} (h : ∀ r ∈ rows, r.length = esz) (hi : rows[i]? = some r) (hr' : r'.length = esz) :
  (rows.set i r').flatten = rows.flatten.take (i * esz) ++ r' ++ rows.flatten.drop (i * esz + esz) := by
 obtain ⟨hlt, he⟩ := List.getElem?_eq_some_iff.1 hi
 rw [List.set_eq_take_append_cons_drop, if_pos hlt, List.flatten_append, List.flatten_cons, flatten_take rows i h, flatten_drop rows (i + 1) h, List.append_assoc]
 congr 3
 rw [Nat.add_mul]; omega
theorem stC_sound (R : RepW c F l ob w) {forb : List Nat} {p : PV} {v : Value} {cs : List PV} {xs : List Value} {ob' : List AObj} (hp : R1 w F l p v) (h : stC ob forb p cs = some ob') (hcs : RL w F l cs xs) (hone : ∀ x ∈ xs, x.oneCell' = true) :
  ∃ b off w' l', v = .pointer (some ⟨b, off, none⟩) ∧ (storeCells ⟨b, off, none⟩ xs).run P w = .ok () w' ∧ RepW c F l' ob' w' ∧ Mono w F l w' F l' := by
 cases hp with
 | @ref l o off L ho hb =>
  simp only [stC] at h
  split at h
  ·cases h
  split at h
  ·rename_i cells hob
   split at h
   ·rename_i hlen
    cases h
    rcases R.objs o _ hob with h1 | ⟨L', h1, h2⟩
    ·simp at h1
    rw [ho] at h1; cases h1
    obtain ⟨h3, h4, cv, e, h5, h6, h7⟩ := h2
    have hrun := run_storeCells_free (P := P) L.blk off e (0, 0) xs 0 cv.toArray w h5 (fun j _ hj => by omega) (by have := h6.1; have := hcs.1; simp; omega) hone
    simp only [Nat.add_zero] at hrun
    have hb4 := setRow_below (w := w) (g := L.blk) (cv.toArray.toList.take off ++ xs ++ cv.toArray.toList.drop (off + xs.length)).toArray
    have hone' : ∀ x ∈ cv.take off ++ xs ++ cv.drop (off + xs.length), x.oneCell' = true := by
     intro x hx
     simp only [List.mem_append] at hx
     rcases hx with (hx | hx) | hx
     ·exact h7 x (List.mem_of_mem_take hx)
     ·exact hone x hx
     ·exact h7 x (List.mem_of_mem_drop hx)
    obtain ⟨R', m'⟩ := R.change (L := L) (L' := L) (a' := .box (Aw.setAt cells off cs)) ho (R.lt o L ho) hb4.1 hb4.2.1 hb4.2.2.1 (Nat.le_of_eq hb4.2.2.2.symm) (fun b _ hb' => setRow_other w _ _ _ (hb' h4)) (.inl rfl) (fun _ => .inl ⟨h4, rfl⟩)
     (fun m => ⟨hb, h4, cv.take off ++ xs ++ cv.drop (off + xs.length), e, by have := setRow_heap w L.blk cv.toArray (cv.take off ++ xs ++ cv.drop (off + xs.length)).toArray e (0, 0) h5; simpa using this, (RL.setAt h6 hcs).up m, hone'⟩)
    exact ⟨_, _, _, _, rfl, hrun, R', m'⟩
   ·cases h
  ·rename_i t cells hob
   split at h
   ·rename_i hlen
    cases h
    rcases R.objs o _ hob with h1 | ⟨L', h1, h2⟩
    ·simp at h1
    rw [ho] at h1; cases h1
    obtain ⟨h3, h4, cv, h5, h6, h7⟩ := h2
    have hrun := run_storeCells_free (P := P) L.blk off t (0, 0) xs 0 cv.toArray w h5 (fun j _ hj => by omega) (by have := h6.1; have := hcs.1; simp; omega) hone
    simp only [Nat.add_zero] at hrun
    have hb4 := setRow_below (w := w) (g := L.blk) (cv.toArray.toList.take off ++ xs ++ cv.toArray.toList.drop (off + xs.length)).toArray
    have hone' : ∀ x ∈ cv.take off ++ xs ++ cv.drop (off + xs.length), x.oneCell' = true := by
     intro x hx
     simp only [List.mem_append] at hx
     rcases hx with (hx | hx) | hx
     ·exact h7 x (List.mem_of_mem_take hx)
     ·exact hone x hx
     ·exact h7 x (List.mem_of_mem_drop hx)
    obtain ⟨R', m'⟩ := R.change (L := L) (L' := L) (a' := .tbox t (Aw.setAt cells off cs)) ho (R.lt o L ho) hb4.1 hb4.2.1 hb4.2.2.1 (Nat.le_of_eq hb4.2.2.2.symm) (fun b _ hb' => setRow_other w _ _ _ (hb' h4)) (.inl rfl) (fun _ => .inl ⟨h4, rfl⟩)
     (fun m => ⟨hb, h4, cv.take off ++ xs ++ cv.drop (off + xs.length), by have := setRow_heap w L.blk cv.toArray (cv.take off ++ xs ++ cv.drop (off + xs.length)).toArray t (0, 0) h5; simpa using this, (RL.setAt h6 hcs).up m, hone'⟩)
    exact ⟨_, _, _, _, rfl, hrun, R', m'⟩
   ·cases h
  ·cases h
 | @lref l o i off len L v ho hb hn hv hh =>
  simp only [stC] at h
  split at h
  ·cases h
  rename_i hforb
  simp only [Bool.or_eq_true, not_or, Bool.not_eq_true] at hforb
  split at h
  ·rename_i esz rows hob
   split at h
   ·rename_i hlen
    split at h
    ·rename_i r hr
     split at h
     ·rename_i hoff
      cases h
      rcases R.objs o _ hob with h1 | ⟨L', h1, h2⟩
      ·simp at h1
      rw [ho] at h1; cases h1
      obtain ⟨h3, h4, h5, h6, h7⟩ := h2
      rcases h7 with ⟨h7, h8⟩ | ⟨h7, h8, h9, cc, e, fr, cv, h10, h11, h12, h13, h14, h15⟩
      ·subst h8; simp at hr
      ·obtain ⟨hst, hveq⟩ := hh (by omega)
       subst hveq
       have hil : i < rows.length := (List.getElem?_eq_some_iff.1 hr).1
       have hrl : r.length = esz := h6 r (List.mem_of_getElem? hr)
       have hd : ∀ r ∈ rows.drop L.st, r.length = esz := fun x hx => h6 x (List.mem_of_mem_drop hx)
       have hr' : (rows.drop L.st)[i - L.st]? = some r := by rw [List.getElem?_drop, show L.st + (i - L.st) = i by omega]; exact hr
       have hfl := flatten_len _ hd
       have hcvl : cv.length = (rows.length - L.st) * esz := by rw [← h13.1, hfl, List.length_drop]
       have hxl : cs.length = xs.length := hcs.1
       have hile : (i - L.st) * esz + esz ≤ (rows.length - L.st) * esz := by
        rw [← Nat.succ_mul]; exact Nat.mul_le_mul_right _ (by omega)
       have hcvc : (rows.length - L.st) * esz ≤ (L.cap - L.st) * esz := Nat.mul_le_mul_right _ (by omega)
       have hrun := run_storeCells_free (P := P) L.blk (L.off + (i - L.st) * L.esz + off) e fr xs 0 cc w h10 h11 (by rw [h5]; omega) hone
       simp only [Nat.add_zero] at hrun
       have hb4 := setRow_below (w := w) (g := L.blk) (cc.toList.take (L.off + (i - L.st) * L.esz + off) ++ xs ++ cc.toList.drop (L.off + (i - L.st) * L.esz + off + xs.length)).toArray
       have hrow : (rows.drop L.st).flatten.drop ((i - L.st) * esz) = r ++ (rows.drop L.st).flatten.drop ((i - L.st) * esz + esz) := by
        have e1 := flatten_row hd hr'
        rw [← List.take_append_drop esz ((rows.drop L.st).flatten.drop ((i - L.st) * esz)), e1, List.drop_drop]
       have hnew : ((rows.set i (Aw.setAt r off cs)).drop L.st).flatten = Aw.setAt (rows.drop L.st).flatten ((i - L.st) * esz + off) cs := by
        rw [List.drop_set, if_neg (by omega), flatten_set hd hr' (by rw [setAt_length (by omega), hrl])]
        have e2 : (rows.drop L.st).flatten = (rows.drop L.st).flatten.take ((i - L.st) * esz) ++ (r ++ (rows.drop L.st).flatten.drop ((i - L.st) * esz + esz)) := by
         rw [← hrow, List.take_append_drop]
        have e3 : ((rows.drop L.st).flatten.take ((i - L.st) * esz)).length = (i - L.st) * esz := by
         rw [List.length_take, hfl, List.length_drop]; omega
        unfold Aw.setAt
        conv => rhs; rw [e2]
        rw [List.take_append, e3, List.take_of_length_le (l := (rows.drop L.st).flatten.take ((i - L.st) * esz)) (by rw [e3]; omega), List.drop_append, List.drop_eq_nil_of_le (as := (rows.drop L.st).flatten.take ((i - L.st) * esz)) (by rw [e3]; omega), e3]
        rw [List.take_append, List.drop_append, List.nil_append]
        rw [show (i - L.st) * esz + off - (i - L.st) * esz = off by omega, show (i - L.st) * esz + off + cs.length - (i - L.st) * esz = off + cs.length by omega]
        rw [show off - r.length = 0 by omega, show off + cs.length - r.length = 0 by omega]
        simp only [List.take_zero, List.append_nil, List.drop_zero, List.append_assoc]
       have k1 : ∀ x ∈ rows.set i (Aw.setAt r off cs), x.length = esz := by
        intro x hx
        rcases List.mem_or_eq_of_mem_set hx with hx | rfl
        ·exact h6 x hx
        ·rw [setAt_length (by omega), hrl]
       have k2 : ∀ j, j < (cv.take ((i - L.st) * esz + off) ++ xs ++ cv.drop ((i - L.st) * esz + off + xs.length)).length → ((cc.toList.take (L.off + (i - L.st) * L.esz + off) ++ xs ++ cc.toList.drop (L.off + (i - L.st) * L.esz + off + xs.length)).toArray)[L.off + j]? = (cv.take ((i - L.st) * esz + off) ++ xs ++ cv.drop ((i - L.st) * esz + off + xs.length))[j]? := by
        intro j hj
        rw [h5, List.getElem?_toArray, Nat.add_assoc L.off]
        exact splice_get xs cv L.off _ (fun j hj => by have := h14 j hj; simpa using this) (by simp; omega) (by omega) j (by simp at hj; omega)
       have k3 : ∀ x ∈ cv.take ((i - L.st) * esz + off) ++ xs ++ cv.drop ((i - L.st) * esz + off + xs.length), x.oneCell' = true := by
        intro x hx
        simp only [List.mem_append] at hx
        rcases hx with (hx | hx) | hx
        ·exact h15 x (List.mem_of_mem_take hx)
        ·exact hone x hx
        ·exact h15 x (List.mem_of_mem_drop hx)
       have k4 : ((cc.toList.take (L.off + (i - L.st) * L.esz + off) ++ xs ++ cc.toList.drop (L.off + (i - L.st) * L.esz + off + xs.length)).toArray).size = cc.size := by
        rw [h5]; simp; omega
       obtain ⟨R', m'⟩ := R.change (L := L) (L' := L) (a' := .list esz (rows.set i (Aw.setAt r off cs))) ho (R.lt o L ho) hb4.1 hb4.2.1 hb4.2.2.1 (Nat.le_of_eq hb4.2.2.2.symm) (fun b _ hb' => setRow_other w _ _ _ (hb' h7)) (.inl rfl) (fun _ => .inl ⟨h7, rfl⟩)
        (fun m => ⟨hb, by simpa using h4, h5, k1, .inr ⟨h7, by simpa using h8, by simpa using h9, _, e, fr, cv.take ((i - L.st) * esz + off) ++ xs ++ cv.drop ((i - L.st) * esz + off + xs.length), setRow_heap w L.blk cc _ e fr h10, by rw [k4]; exact h11, by rw [k4]; exact h12, by rw [hnew]; exact (RL.setAt h13 (hcs.noOwn hforb.2 _)).up ⟨m.frz, m.heap, LocExt.refl _⟩, k2, k3⟩⟩)
       exact ⟨_, _, _, _, rfl, hrun, R', m'⟩
     ·cases h
    ·cases h
   ·cases h
  ·cases h
 | _ => simp [stC] at h
theorem byteRows_flat (b : List UInt8) : (byteRows b).flatten = b.map fun x => .int .u8 x.toNat := by
 unfold byteRows
 induction b with
 | nil => rfl
 | cons x xs ih => rw [List.map_cons, List.flatten_cons, ih]; rfl
theorem byteRows_len (b : List UInt8) : ∀ r ∈ byteRows b, r.length = 1 := by
 intro r hr
 obtain ⟨x, _, rfl⟩ := List.mem_map.1 hr
 rfl
theorem RL_bytes (b : List UInt8) : RL w F l (byteRows b).flatten (b.map fun x => Value.int .u8 x.toNat) := by
 rw [byteRows_flat]
 induction b with
 | nil => exact RL.nil
 | cons x xs ih => exact RL.cons (.int _ _) ih
theorem buf_val (R : RepW c F l ob w) {o n : Nat} {u : TypeId} {bs : List UInt8} {v : Value} (hp : R1 w F l (.osl o 0 n) v) (hob : ob[o]? = some (.buf u bs)) (hn : n = bs.length) :
  ∃ L, l o = some L ∧ ObjRep w F l (.buf u bs) L ∧ ((L.nil = true ∧ bs = [] ∧ v = .slice none 0 0) ∨ (L.nil = false ∧ bs ≠ [] ∧ v = .slice (some ⟨L.blk, 0, none⟩) n L.cap)) := by
 cases hp with
 | @osl l o i n L v ho hb hlen hv hh =>
  rcases R.objs o _ hob with h1 | ⟨L', h1, h2⟩
  ·simp at h1
  rw [ho] at h1; cases h1
  refine ⟨L, ho, h2, ?_⟩
  obtain ⟨h3, h4, h5, h6, h7, h8⟩ := h2
  rcases hh (by omega) with ⟨k1, k2, k3, k4⟩ | ⟨k1, k2, a, k3, k4⟩
  ·exact .inl ⟨k1, List.eq_nil_of_length_eq_zero (by omega), k4⟩
  ·rcases h8 with ⟨q, _⟩ | ⟨q1, q2, cc, fz, q3, q4, q5, q6, q7, q8⟩
   ·rw [q] at k1; cases k1
   ·have hpos : 0 < bs.length := List.length_pos_iff.2 q2
    have := k4 (by omega)
    rw [h5, h6, h7] at this
    exact .inr ⟨k1, q2, by rw [k3, this]; simp⟩
theorem rowsOf_sound (R : RepW c F l ob w) {forb : List Nat} {p : PV} {v : Value} {rows : List (List PV)} (hp : R1 w F l p v) (h : rowsOf ob forb p = some rows) :
  ∃ a cap, v = .slice a rows.length cap ∧ rows.length ≤ cap ∧ (rows = [] ∨ ∃ b off cv esz, a = some ⟨b, off, none⟩ ∧ (∀ r ∈ rows, r.length = esz) ∧ RL w F (fun _ => none) rows.flatten cv ∧
   (∀ j x, cv[j]? = some x → w.cell? ⟨b, off + j, none⟩ = some x) ∧ ∀ x ∈ cv, x.oneCell' = true) := by
 cases hp with
 | nils => simp only [rowsOf, Option.some.injEq] at h; subst h; exact ⟨none, 0, rfl, Nat.le_refl _, .inl rfl⟩
 | slc0 a cap => simp only [rowsOf, Option.some.injEq] at h; subst h; exact ⟨a, cap, rfl, Nat.zero_le _, .inl rfl⟩
 | @slcN l rows' b off cap cv esz hne hcap hF hc hr hl hh =>
  simp only [rowsOf, Option.some.injEq] at h; subst h
  obtain ⟨⟨cc, e, fr, h1, h2⟩, h3⟩ := hc
  refine ⟨_, cap, rfl, hcap, .inr ⟨b, off, cv, esz, rfl, hr, ⟨hl, hh⟩, fun j x hx => ?_, h3⟩⟩
  rw [cell_of_block h1, h2 j (List.getElem?_eq_some_iff.1 hx).1]; exact hx
 | @osl l o i n L v ho hb hn hv hh =>
  simp only [rowsOf] at h
  split at h
  ·cases h
  split at h
  ·rename_i esz rows' hob
   split at h
   ·rename_i hcur
    cases h
    rcases R.objs o _ hob with h1 | ⟨L', h1, h2⟩
    ·simp at h1
    rw [ho] at h1; cases h1
    obtain ⟨h3, h4, h5, h6, h7⟩ := h2
    rcases hh (by omega) with ⟨k1, k2, k3, k4⟩ | ⟨k1, k2, a, k3, k4⟩
    ·subst k2; subst k3; subst k4
     have : rows' = [] := List.eq_nil_of_length_eq_zero (by omega)
     subst this
     exact ⟨none, 0, rfl, by simp, .inl rfl⟩
    ·rcases h7 with ⟨h7, h8⟩ | ⟨h7, h8, h9, cc, e, fr, cv, h10, h11, h12, h13, h14, h15⟩
     ·rw [h7] at k1; cases k1
     ·subst k3
      refine ⟨some a, L.cap - i, by simp; omega, by simp; omega, ?_⟩
      by_cases hi : i < L.cap
      ·right
       have hd : ∀ r ∈ rows'.drop L.st, r.length = esz := fun x hx => h6 x (List.mem_of_mem_drop hx)
       have e1 : (rows'.drop i).flatten = (rows'.drop L.st).flatten.drop ((i - L.st) * esz) := by
        rw [← flatten_drop _ _ hd, List.drop_drop]; congr 2; omega
       refine ⟨L.blk, L.off + (i - L.st) * L.esz, cv.drop ((i - L.st) * esz), esz, by rw [k4 hi], fun r hr => h6 r (List.mem_of_mem_drop hr), by rw [e1]; exact h13.drop _, fun j x hx => ?_, fun x hx => h15 x (List.mem_of_mem_drop hx)⟩
       rw [cell_of_block h10]
       rw [List.getElem?_drop] at hx
       have := (List.getElem?_eq_some_iff.1 hx).1
       rw [← hx, ← h14 _ this, h5]
       congr 1; omega
      ·left
       exact List.drop_eq_nil_of_le (by omega)
   ·cases h
  ·rename_i u bs hob
   split at h
   ·rename_i hcur
    obtain ⟨rfl, hcur⟩ := hcur
    cases h
    obtain ⟨L', g1, g2, g3⟩ := buf_val R (.osl ho hb hn hv hh) hob hcur
    have hlb : (byteRows bs).length = bs.length := by simp [byteRows]
    rcases g3 with ⟨g3, g4, g5⟩ | ⟨g3, g4, g5⟩
    ·subst g4
     exact ⟨none, 0, by rw [g5]; rfl, by simp [byteRows], .inl rfl⟩
    ·obtain ⟨h3, h4, h5, h6, h7, h8⟩ := g2
     rcases h8 with ⟨q, _⟩ | ⟨q1, q2, cc, fz, q3, q4, q5, q6, q7, q8⟩
     ·rw [q] at g3; cases g3
     ·refine ⟨_, L'.cap, by rw [g5, hlb, hcur], by rw [hlb]; exact q5, .inr ⟨L'.blk, 0, bs.map fun x => Value.int .u8 x.toNat, 1, rfl, byteRows_len bs, RL_bytes bs, fun j x hx => ?_, fun x hx => ?_⟩⟩
      ·rw [cell_of_block q3, Nat.zero_add, ← Array.getElem?_toList]
       have hx' : (Lib.byteCells bs)[j]? = some x := hx
       rw [← q8, List.getElem?_take] at hx'
       split at hx'
       ·exact hx'
       ·cases hx'
      ·obtain ⟨y, _, rfl⟩ := List.mem_map.1 hx; rfl
   ·cases h
  ·cases h
 | @bsl l o off n cap L ho hb hn =>
  simp only [rowsOf] at h
  split at h
  ·cases h
  split at h
  ·rename_i cells hob
   split at h
   ·rename_i hcond
    cases h
    rcases R.objs o _ hob with h1 | ⟨L', h1, h2⟩
    ·simp at h1
    rw [ho] at h1; cases h1
    obtain ⟨h3, h4, cv, e, h5, h6, h7⟩ := h2
    have hlen : (((cells.drop off).take n).map fun c => [c]).length = n := by simp; omega
    refine ⟨some ⟨L.blk, off, none⟩, cap, by rw [hlen], by rw [hlen]; exact hn, .inr ⟨L.blk, off, (cv.drop off).take n, 1, rfl, fun r hr => by (obtain ⟨y, _, rfl⟩ := List.mem_map.1 hr; rfl), ?_, fun j x hx => ?_, fun x hx => h7 x (List.mem_of_mem_drop (List.mem_of_mem_take hx))⟩⟩
    ·rw [flatten_single]
     exact ((h6.noOwn hcond.2 _).drop _).take _
    ·rw [cell_of_block h5]
     have := (getElem?_take_drop _ _ _ _ _ hx).1
     simpa using this
   ·cases h
  ·cases h
 | _ => simp [rowsOf] at h
end
end Go.Proofs.YtdgpiobmncohjaaGreatDoor.Aw
