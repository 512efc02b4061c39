/-
  That the abstract operations tell the truth: those that make memory: variables, boxes, slice literals, bytes of a string, make, append.
-/
import Derived.Test.YtdgpiobmncohjaaGreatAwSnd3
namespace Go.Proofs.YtdgpiobmncohjaaGreat.Aw
open Go.RowKit

theorem foldl_set_list (cells v : Array Value) (off : Nat) (h : off + v.size ≤ cells.size) :
    (v.zipIdx.foldl (fun cs (x : Value × Nat) => cs.setIfInBounds (off + x.2) x.1) cells).toList = cells.toList.take off ++ (v.toList ++ cells.toList.drop (off + v.size)) := by
  rw [← Array.foldl_toList, Array.toList_zipIdx]
  obtain ⟨h1, h2⟩ := Great.foldl_set off v.toList 0 cells
  apply List.ext_getElem?
  intro k
  have h3 := h2 k
  simp only [Nat.add_zero, Array.length_toList] at h3
  have e1 : (cells.toList.take off).length = off := by rw [List.length_take]; simp; omega
  rw [Array.getElem?_toList, h3]
  by_cases k1 : k < off
  · rw [if_neg (by omega), List.getElem?_append_left (by omega), List.getElem?_take, if_pos k1]; simp
  · by_cases k2 : k < off + v.size
    · rw [if_pos (by omega), List.getElem?_append_right (by omega), e1, List.getElem?_append_left (by simp; omega)]
    · rw [if_neg (by omega), List.getElem?_append_right (by omega), e1, List.getElem?_append_right (by simp; omega), List.getElem?_drop]
      simp only [Array.length_toList]
      rw [show off + v.size + (k - off - v.size) = k by omega]; simp

theorem made_list (z : Array Value) (n : Nat) : (madeCells z (n * z.size)).toList = (List.replicate n z.toList).flatten := by
  by_cases hz : z.size = 0
  · have : z = #[] := Array.eq_empty_of_size_eq_zero hz
    subst this
    simp [madeCells]
  · have e1 : (List.replicate n z.toList).flatten = (List.replicate n (Value.agg z)).flatMap fun v => v.cells.toList := by
      induction n with
      | zero => rfl
      | succ n ih => rw [List.replicate_succ, List.flatten_cons, ih, List.replicate_succ, List.flatMap_cons]; rfl
    rw [e1]
    apply List.ext_getElem?
    intro k
    rw [Great.flat_get (s := z.size) (by omega) _ (fun v hv => by rw [List.eq_of_mem_replicate hv]; rfl)]
    by_cases hk : k < n * z.size
    · have hd : k / z.size < n := Nat.div_lt_of_lt_mul (by rw [Nat.mul_comm]; exact hk)
      have hm : k % z.size < z.size := Nat.mod_lt _ (by omega)
      simp [madeCells, hk, hd, Value.cells, hm]
    · have hd : ¬ k / z.size < n := by
        intro hlt
        have : k < n * z.size := by
          have := Nat.div_add_mod k z.size
          have hm : k % z.size < z.size := Nat.mod_lt _ (by omega)
          have : (k / z.size + 1) * z.size ≤ n * z.size := Nat.mul_le_mul_right _ hlt
          rw [Nat.add_mul, Nat.mul_comm (k / z.size)] at this
          omega
        exact hk this
      simp [madeCells, hk, hd]

section
variable {P : Program} {c : Ctx} {F : Nat → Prop} {l : Locs} {w : World} {s : St} {a : Act}

theorem below_alloc {o : Obj} : Below w.heap.size w (w.alloc o) := (Below.refl _ _).alloc (Nat.le_refl _) _
theorem below_drew_alloc {o : Obj} : Below w.heap.size w (w.drew.alloc o) := ((Below.refl _ _).drew).alloc (Nat.le_refl _) _
theorem alloc_heap (w : World) (o : Obj) : (w.alloc o).heap[w.heap.size]? = some o := by show (w.heap.push o)[w.heap.size]? = _; simp
theorem drew_alloc_heap (w : World) (o : Obj) : (w.drew.alloc o).heap[w.heap.size]? = some o := by show (w.heap.push o)[w.heap.size]? = _; simp
theorem free00 (n : Nat) : Free (0, 0) n := fun j _ h => by omega

/-- A new box. -/
theorem new_box (R : RepW c F l s.ob w) {w' : World} (hB : Below w.heap.size w w') {e : TypeId} {cells : List PV} {cv : List Value} (hblk : w'.heap[w.heap.size]? = some (.cells cv.toArray e)) (hr : RL w F l cells cv) (hone : ∀ x ∈ cv, x.oneCell' = true)
    {nw : Option Nat} {i : Nat} {ob' : List AObj} (hmk : mkO s nw (.box cells) = some (i, ob')) :
    ∃ l', RepW c F l' ob' w' ∧ Mono w F l w' F l' ∧ R1 w' F l' (.ref i 0) (.pointer (some ⟨w.heap.size, 0, none⟩)) := by
  obtain ⟨R1', m1⟩ := R.ext hB
  obtain ⟨h1, h2, h3, h4, h5⟩ := mkO_spec R rfl hmk
  let L : Loc := ⟨w.heap.size, 0, 0, 0, 0, 0, false, true⟩
  obtain ⟨R2, m2⟩ := R1'.new (L := L) (i := i) (a := .box cells) h1 h2 h3 h4 h5 (fun m => ⟨rfl, rfl, cv, e, hblk, (hr.up m1).up m, hone⟩)
    (fun _ => ⟨R.below.size, lt_of_cells hblk, fun hF => absurd (R.flt _ hF) (Nat.lt_irrefl _), fun o L' ho hn e => by have := (R.own o L' ho hn).2.1; simp only [L] at e; omega⟩)
  exact ⟨_, R2, m1.trans m2, .ref (updL_same _ _ _) rfl⟩

/-- A new list of the call's own. -/
theorem new_list (R : RepW c F l s.ob w) {w' : World} (hB : Below w.heap.size w w') {e : TypeId} {cc : Array Value} {fr : Nat × Nat} {esz cap : Nat} {rows : List (List PV)} {cv : List Value} (hblk : w'.heap[w.heap.size]? = some (.cells cc e fr)) (hfree : Free fr cc.size)
    (hr : ∀ r ∈ rows, r.length = esz) (hrl : RL w F (fun _ => none) rows.flatten cv) (hc : ∀ j, j < cv.length → cc[j]? = cv[j]?) (hone : ∀ x ∈ cv, x.oneCell' = true) (hcap : rows.length ≤ cap) (hsz : cap * esz ≤ cc.size)
    {nw : Option Nat} {i : Nat} {ob' : List AObj} (hmk : mkO s nw (.list esz rows) = some (i, ob')) :
    ∃ l', RepW c F l' ob' w' ∧ Mono w F l w' F l' ∧ R1 w' F l' (.osl i 0 rows.length) (.slice (some ⟨w.heap.size, 0, none⟩) rows.length cap) := by
  obtain ⟨R1', m1⟩ := R.ext hB
  obtain ⟨h1, h2, h3, h4, h5⟩ := mkO_spec R rfl hmk
  let L : Loc := ⟨w.heap.size, 0, 0, cap, rows.length, esz, false, false⟩
  obtain ⟨R2, m2⟩ := R1'.new (L := L) (i := i) (a := .list esz rows) h1 h2 h3 h4 h5
    (fun m => ⟨rfl, rfl, rfl, hr, .inr ⟨rfl, Nat.zero_le _, hcap, cc, e, fr, cv, hblk, hfree, by simpa [L] using hsz, by simpa [L] using (hrl.up ⟨m1.frz, m1.heap, LocExt.refl _⟩).up ⟨m.frz, m.heap, LocExt.refl _⟩, fun j hj => by simpa [L] using hc j hj, hone⟩⟩)
    (fun _ => ⟨R.below.size, lt_of_cells hblk, fun hF => absurd (R.flt _ hF) (Nat.lt_irrefl _), fun o L' ho hn e => by have := (R.own o L' ho hn).2.1; simp only [L] at e; omega⟩)
  exact ⟨_, R2, m1.trans m2, .osl (updL_same _ _ _) rfl (by simp [L]) ⟨_, _, _, rfl⟩ fun _ => .inr ⟨rfl, Nat.zero_le _, _, rfl, fun _ => by simp [L]⟩⟩

/-- A new list that is nil. -/
theorem new_nil (R : RepW c F l s.ob w) {esz : Nat} {nw : Option Nat} {i : Nat} {ob' : List AObj} (hmk : mkO s nw (.list esz []) = some (i, ob')) :
    ∃ l', RepW c F l' ob' w ∧ Mono w F l w F l' ∧ R1 w F l' (.osl i 0 0) (.slice none 0 0) := by
  obtain ⟨h1, h2, h3, h4, h5⟩ := mkO_spec R rfl hmk
  let L : Loc := ⟨0, 0, 0, 0, 0, esz, true, false⟩
  obtain ⟨R2, m2⟩ := R.new (L := L) (i := i) (a := .list esz []) h1 h2 h3 h4 h5 (fun m => ⟨rfl, rfl, rfl, by simp, .inl ⟨rfl, rfl⟩⟩) (fun h => nomatch h)
  exact ⟨_, R2, m2, .osl (updL_same _ _ _) rfl (by simp [L]) ⟨_, _, _, rfl⟩ fun _ => .inl ⟨rfl, rfl, rfl, rfl⟩⟩

/-- A new slice that is read by content. -/
theorem new_frozen (R : RepW c F l s.ob w) {w' : World} (hB : Below w.heap.size w w') {e : TypeId} {cc : Array Value} {fr : Nat × Nat} {esz cap : Nat} {rows : List (List PV)} {cv : List Value} (hblk : w'.heap[w.heap.size]? = some (.cells cc e fr))
    (hr : ∀ r ∈ rows, r.length = esz) (hrl : RL w F (fun _ => none) rows.flatten cv) (hc : ∀ j, j < cv.length → cc[j]? = cv[j]?) (hone : ∀ x ∈ cv, x.oneCell' = true) (hcap : rows.length ≤ cap) :
    ∃ F', RepW c F' l s.ob w' ∧ Mono w F l w' F' l ∧ R1 w' F' l (.slc rows) (.slice (some ⟨w.heap.size, 0, none⟩) rows.length cap) := by
  obtain ⟨R1', m1⟩ := R.ext hB
  obtain ⟨R2, m2⟩ := R1'.freeze (b := w.heap.size) R.below.size (lt_of_cells hblk) (fun o L ho hn e => by have := (R.own o L ho hn).2.1; omega)
  refine ⟨_, R2, m1.trans m2, ?_⟩
  by_cases hne : rows = []
  · subst hne; exact .slc0 _ _
  · have h2 := (hrl.up ⟨m1.frz, m1.heap, LocExt.refl _⟩).up ⟨m2.frz, m2.heap, LocExt.refl _⟩
    exact .slcN hne hcap (.inr rfl) ⟨⟨cc, e, fr, hblk, fun j hj => by simpa using hc j hj⟩, hone⟩ hr h2.1 h2.2

/- zero values -/
def zcells (P : Program) (e : TypeId) : Option (TypeInfo × Value) :=
  match P.info? e with
  | some i => match i.zero with
    | some z => if z.cells.size = i.size ∧ z.cells.toList.all Value.oneCell' then some (i, z) else none
    | none => none
  | none => none

theorem zcells_spec {e : TypeId} {i : TypeInfo} {z : Value} (h : zcells P e = some (i, z)) : P.info? e = some i ∧ i.zero = some z ∧ z.cells.size = i.size ∧ ∀ v ∈ z.cells.toList, v.oneCell' = true := by
  unfold zcells at h
  split at h
  · rename_i j hj
    split at h
    · rename_i y hy
      split at h
      · rename_i hcond
        simp only [Option.some.injEq, Prod.mk.injEq] at h
        obtain ⟨rfl, rfl⟩ := h
        exact ⟨hj, hy, hcond.1, fun v hv => List.all_eq_true.1 hcond.2 v hv⟩
      · cases h
    · cases h
  · cases h

/-- (own: nil slices as just that) -/
def cAlloc (P : Program) (own : Bool) (e : TypeId) : Option AO := (zcells P e).map fun (_, z) => .alloc (z.cells.toList.map (if own then cvN else cvS))

theorem alloc_sound {forb : List Nat} {nw : Option Nat} {own : Bool} {e : TypeId} {ao : AO} {pv : PV} {ob' : List AObj} (hc : cAlloc P own e = some ao) (R : RepW c F l s.ob w) (he : ev forb nw s ao = some (pv, ob')) :
    ∃ v w' l', (Instr.alloc e true (.tuple #[])).run P w = .ok v w' ∧ RepW c F l' ob' w' ∧ Mono w F l w' F l' ∧ R1 w' F l' pv v := by
  unfold cAlloc at hc
  cases hz : zcells P e with
  | none => simp [hz] at hc
  | some iz =>
    obtain ⟨i, z⟩ := iz
    simp only [hz, Option.map_some, Option.some.injEq] at hc
    subst hc
    obtain ⟨h1, h2, h3, h4⟩ := zcells_spec hz
    simp only [ev, Option.map_eq_some_iff] at he
    obtain ⟨⟨k, ob1⟩, hmk, he⟩ := he
    simp only [Prod.mk.injEq] at he
    obtain ⟨rfl, rfl⟩ := he
    obtain ⟨l', R', m', hv⟩ := new_box R (w' := w.alloc (.cells z.cells e)) below_alloc (e := e) (cv := z.cells.toList) (by rw [alloc_heap]) (by cases own with | true => exact RL_cvN _ | false => exact RL_cvS _) h4 hmk
    exact ⟨_, _, l', by simp [Instr.alloc, zeroValue_run h1 h2, newVar, newRow], R', m', hv⟩

theorem box_sound {forb : List Nat} {nw : Option Nat} {e : TypeId} {x : Operand} {pv : PV} {ob' : List AObj} (R : RepW c F l s.ob w) (hs : SlotsOk w F l s a) (he : ev forb nw s (.box (opx x)) = some (pv, ob')) :
    ∃ v w' l', (Instr.box e (a.eval x)).run P w = .ok v w' ∧ RepW c F l' ob' w' ∧ Mono w F l w' F l' ∧ R1 w' F l' pv v := by
  simp only [ev] at he
  split at he
  · rename_i hcond
    simp only [Option.map_eq_some_iff] at he
    obtain ⟨⟨k, ob1⟩, hmk, he⟩ := he
    simp only [Prod.mk.injEq] at he
    obtain ⟨rfl, rfl⟩ := he
    have hcs := (opx_sound hs x).cells hcond.1
    obtain ⟨l', R', m', hv⟩ := new_box R (w' := w.alloc (.cells (a.eval x).cells e)) below_alloc (e := e) (cv := (a.eval x).cells.toList) (by rw [alloc_heap]) hcs (hcs.oneCell hcond.2) hmk
    exact ⟨_, _, l', by simp [Instr.box, newVar, newRow], R', m', hv⟩
  · cases he

/- parts laid into cells -/
theorem fill_sound {place : Nat → Option (Nat × Nat)} (hs : SlotsOk w F l s a) : ∀ (ps : List (Nat × Operand)) (ap : List (Nat × Nat × AX)), ps.mapM (fun p => (place p.1).map fun q => (q.1, q.2, opx p.2)) = some ap →
    ∀ (z z' : List PV) (cells : Array Value), RL w F l z cells.toList → fillA s z ap = some z' → ∃ cells', Instr.fill place cells (ps.map fun p => (p.1, a.eval p.2)) = some cells' ∧ RL w F l z' cells'.toList
  | [], ap, h, z, z', cells, hr, hf => by
    simp only [List.mapM_nil, Option.pure_def, Option.some.injEq] at h
    subst h
    simp only [fillA, Option.some.injEq] at hf
    subst hf
    exact ⟨cells, rfl, hr⟩
  | (i, x) :: ps, ap, h, z, z', cells, hr, hf => by
    simp only [List.mapM_cons, Option.bind_eq_bind, Option.pure_def, Option.bind_eq_some_iff, Option.map_eq_some_iff, Option.some.injEq] at h
    obtain ⟨q, ⟨⟨off, sz⟩, hp, rfl⟩, ap', hap, rfl⟩ := h
    simp only [fillA] at hf
    split at hf
    · rename_i hcond
      obtain ⟨hk, hl, hle⟩ := hcond
      have hcs := (opx_sound hs x).cells hk
      have hvs : (a.eval x).cells.size = sz := by have := hcs.1; rw [hl] at this; simpa using this.symm
      have hzl : z.length = cells.size := by simpa using hr.1
      have hset := foldl_set_list cells (a.eval x).cells off (by omega)
      have hnew : RL w F l (setAt z off (s.val (opx x)).cellsOf) (((a.eval x).cells.zipIdx.foldl (fun cs (y : Value × Nat) => cs.setIfInBounds (off + y.2) y.1) cells).toList) := by
        rw [hset]
        unfold setAt
        rw [hl, hvs]
        exact (hr.take off).append (hcs.append (hr.drop _))
      obtain ⟨cells', h1, h2⟩ := fill_sound hs ps ap' hap _ z' _ hnew hf
      refine ⟨cells', ?_, h2⟩
      simp only [List.map_cons, Instr.fill, hp]
      rw [if_neg (by simp [hvs]; omega)]
      exact h1
    · cases hf

def placesOf (P : Program) (t : TypeId) : Option (Nat → Option (Nat × Nat)) :=
  match P.underlying t with
  | some (.struct fs) => (fs.toList.mapM (fun f => (P.info? f.type).map fun i => (f.offset, i.size))).map fun ps => (ps.toArray[·]?)
  | some (.array _ e) => (P.info? e).map fun ie => fun i => some (i * ie.size, ie.size)
  | _ => none

/-- (own: nil slices as just that) -/
def cBuild (P : Program) (own : Bool) (t : TypeId) (parts : Array (Nat × Operand)) : Option AO :=
  match P.info? t with
  | some i => match i.zero, placesOf P t with
    | some z, some place => (parts.toList.mapM (fun p => (place p.1).map fun q => (q.1, q.2, opx p.2))).map fun ap => .build (z.cells.toList.map (if own then cvN else cvS)) ap
    | _, _ => none
  | none => none

theorem build_sound {forb : List Nat} {nw : Option Nat} {own : Bool} {t : TypeId} {parts : Array (Nat × Operand)} {ao : AO} {pv : PV} {ob' : List AObj} (hc : cBuild P own t parts = some ao) (hs : SlotsOk w F l s a) (he : ev forb nw s ao = some (pv, ob')) :
    ∃ v, ob' = s.ob ∧ (Instr.build t (parts.map fun (i, x) => (i, a.eval x))).run P w = .ok v w ∧ R1 w F l pv v := by
  unfold cBuild at hc
  split at hc
  · rename_i i hi
    split at hc
    · rename_i z place hz hplace
      simp only [Option.map_eq_some_iff] at hc
      obtain ⟨ap, hap, rfl⟩ := hc
      simp only [ev, Option.map_eq_some_iff, Prod.mk.injEq] at he
      obtain ⟨cs, hcs, rfl, rfl⟩ := he
      obtain ⟨cells', h1, h2⟩ := fill_sound (place := place) hs parts.toList ap hap _ cs z.cells (by cases own with | true => exact RL_cvN _ | false => exact RL_cvS _) hcs
      have hb : P.built t (parts.map fun (i, x) => (i, a.eval x)).toList = some cells' := by
        rw [Array.toList_map]
        unfold placesOf at hplace
        unfold Program.built
        split at hplace
        · rename_i fs hu
          simp only [Option.map_eq_some_iff] at hplace
          obtain ⟨ps, hps, rfl⟩ := hplace
          simp only [hi, hu, hz, hps]
          exact h1
        · rename_i n e hu
          simp only [Option.map_eq_some_iff] at hplace
          obtain ⟨ie, hie, rfl⟩ := hplace
          simp only [hi, hu, hz, hie]
          exact h1
        · cases hplace
      refine ⟨.agg cells', rfl, run_build w t _ cells' hb, ?_⟩
      have := R1.mkAgg h2
      simpa using this
    · cases hc
  · cases hc

/- slice literals -/
theorem fillR_fillA {n : Nat} : ∀ (parts : List (Nat × AX)) (rows rows' : List (List PV)), (∀ r ∈ rows, r.length = n) → fillR s n rows parts = some rows' →
    fillA s rows.flatten (parts.map fun p => (p.1 * n, n, p.2)) = some rows'.flatten ∧ (∀ r ∈ rows', r.length = n) ∧ rows'.length = rows.length
  | [], rows, rows', hr, h => by
    simp only [fillR, Option.some.injEq] at h
    subst h
    exact ⟨rfl, hr, rfl⟩
  | (i, x) :: parts, rows, rows', hr, h => by
    simp only [fillR] at h
    split at h
    · rename_i hcond
      obtain ⟨hk, hl, hi⟩ := hcond
      have hr2 : ∀ r ∈ rows.set i (s.val x).cellsOf, r.length = n := by
        intro r hrm
        rcases List.mem_or_eq_of_mem_set hrm with h1 | rfl
        · exact hr r h1
        · exact hl
      obtain ⟨h1, h2, h3⟩ := fillR_fillA parts _ rows' hr2 h
      refine ⟨?_, h2, by simpa using h3⟩
      have hfl := flatten_len rows hr
      have hle : i * n + n ≤ rows.length * n := by rw [← Nat.succ_mul]; exact Nat.mul_le_mul_right _ hi
      simp only [List.map_cons, fillA]
      rw [if_pos ⟨hk, hl, by omega⟩]
      have e : setAt rows.flatten (i * n) (s.val x).cellsOf = (rows.set i (s.val x).cellsOf).flatten := by
        rw [flatten_set hr (List.getElem?_eq_getElem hi) hl]
        unfold setAt
        rw [hl, List.append_assoc]
      rw [e]
      exact h1
    · cases h

theorem mapM_some (m : Nat) : ∀ ps : List (Nat × Operand), ps.mapM (fun p => ((fun j => some (j * m, m)) p.1 : Option (Nat × Nat)).map fun q => (q.1, q.2, opx p.2)) = some (ps.map fun p => (p.1 * m, m, opx p.2))
  | [] => rfl
  | p :: ps => by rw [List.mapM_cons, mapM_some m ps]; rfl

def cBlds (P : Program) (own : Bool) (t : TypeId) (len : Nat) (parts : Array (Nat × Operand)) : Option AO :=
  match P.underlying t with
  | some (.slice e) => match zcells P e with
    | some (i, z) => if len * i.size ≤ 2 ^ 24 ∧ (len * i.size = 0 → parts.toList = [] ∧ len = 0) then some (.blds own (z.cells.toList.map cvS) len (parts.toList.map fun p => (p.1, opx p.2))) else none
    | none => none
  | _ => none

theorem scal_all {rows : List (List PV)} (h : rows.all (fun r => r.all PV.scal && !ownL r) = true) : rows.flatten.all PV.cell? = true ∧ ownL rows.flatten = false := by
  have h1 : ∀ r ∈ rows, r.all PV.scal = true ∧ ownL r = false := fun r hr => by
    have := List.all_eq_true.1 h r hr
    simpa using this
  constructor
  · rw [List.all_eq_true]
    intro p hp
    obtain ⟨r, hr, hpr⟩ := List.mem_flatten.1 hp
    exact scal_cell (List.all_eq_true.1 (h1 r hr).1 p hpr)
  · rw [ownL_iff]
    intro p hp
    obtain ⟨r, hr, hpr⟩ := List.mem_flatten.1 hp
    exact (ownL_iff r).1 (h1 r hr).2 p hpr

theorem blds_sound {forb : List Nat} {nw : Option Nat} {own : Bool} {t : TypeId} {len : Nat} {parts : Array (Nat × Operand)} {ao : AO} {pv : PV} {ob' : List AObj} (hc : cBlds P own t len parts = some ao) (R : RepW c F l s.ob w) (hs : SlotsOk w F l s a) (he : ev forb nw s ao = some (pv, ob')) :
    ∃ v w' F' l', (Instr.buildSlice t len (parts.map fun (i, x) => (i, a.eval x))).run P w = .ok v w' ∧ RepW c F' l' ob' w' ∧ Mono w F l w' F' l' ∧ R1 w' F' l' pv v := by
  unfold cBlds at hc
  split at hc
  · rename_i e hu
    split at hc
    · rename_i i z hz
      split at hc
      · rename_i hcond
        simp only [Option.some.injEq] at hc
        subst hc
        obtain ⟨h1, h2, h3, h4⟩ := zcells_spec hz
        simp only [ev, Option.bind_eq_some_iff] at he
        obtain ⟨rows, hrows, he⟩ := he
        have hzl : (z.cells.toList.map cvS).length = i.size := by simp [h3]
        rw [hzl] at hrows he
        have hrep : ∀ r ∈ List.replicate len (z.cells.toList.map cvS), r.length = i.size := fun r hr => by rw [List.eq_of_mem_replicate hr, hzl]
        obtain ⟨hfill, hlen, hcount⟩ := fillR_fillA _ _ rows hrep hrows
        rw [List.length_replicate] at hcount
        split at he
        · rename_i hall
          obtain ⟨hcell, hown⟩ := scal_all hall
          have hrun : ∃ cells, (Instr.buildSlice t len (parts.map fun (i, x) => (i, a.eval x))).run P w = .ok (.slice (some ⟨w.heap.size, 0, none⟩) len len) (w.alloc (.cells cells e)) ∧ RL w F l rows.flatten cells.toList := by
            by_cases h0 : len * i.size = 0
            · obtain ⟨hp, hl0⟩ := hcond.2 h0
              subst hl0
              have hpe : parts = #[] := by apply Array.ext'; simpa using hp
              have hre : rows = [] := List.eq_nil_of_length_eq_zero hcount
              subst hpe; subst hre
              exact ⟨#[], by simp [Instr.buildSlice, run_underlying hu, sizeOf_run h1, Instr.fill, newRow, Array.range_zero'], RL.nil⟩
            · have hmade : RL w F l (List.replicate len (z.cells.toList.map cvS)).flatten (madeCells z.cells (len * i.size)).toList := by
                rw [← h3, made_list]
                have : ∀ n, RL w F l (List.replicate n (z.cells.toList.map cvS)).flatten (List.replicate n z.cells.toList).flatten := by
                  intro n
                  induction n with
                  | zero => exact RL.nil
                  | succ n ih => rw [List.replicate_succ, List.replicate_succ, List.flatten_cons, List.flatten_cons]; exact (RL_cvS _).append ih
                exact this len
              obtain ⟨cells', hf, hr⟩ := fill_sound (place := fun j => some (j * i.size, i.size)) hs parts.toList (parts.toList.map fun p => (p.1 * i.size, i.size, opx p.2)) (mapM_some _ _) _ rows.flatten _ hmade (by
                rw [List.map_map] at hfill
                exact hfill)
              refine ⟨cells', ?_, hr⟩
              refine run_buildSlice w t e len _ cells' i z hu h1 h2 (by omega) h0 ?_
              rw [Array.toList_map]
              exact hf
          obtain ⟨cells, hrun, hr⟩ := hrun
          have hone := hr.oneCell hcell
          have hr0 := hr.noOwn hown (fun _ => none)
          split at he
          · simp only [Option.map_eq_some_iff] at he
            obtain ⟨⟨k, ob1⟩, hmk, he⟩ := he
            simp only [Prod.mk.injEq] at he
            obtain ⟨rfl, rfl⟩ := he
            have hsz : cells.size = len * i.size := by
              have := hr.1
              rw [flatten_len rows hlen, hcount] at this
              simpa using this.symm
            obtain ⟨l', R', m', hv⟩ := new_list R (cap := len) below_alloc (alloc_heap w (.cells cells e)) (free00 _) hlen hr0 (fun j hj => by simp) hone (by omega) (by omega) hmk
            rw [hcount] at hv ⊢
            exact ⟨_, _, F, l', hrun, R', m', hv⟩
          · simp only [Option.some.injEq, Prod.mk.injEq] at he
            obtain ⟨rfl, rfl⟩ := he
            obtain ⟨F', R', m', hv⟩ := new_frozen R (cap := len) below_alloc (alloc_heap w (.cells cells e)) hlen hr0 (fun j hj => by simp) hone (by omega)
            rw [hcount] at hv
            exact ⟨_, _, F', l, hrun, R', m', hv⟩
        · cases he
      · cases hc
    · cases hc
  · cases hc

end
end Go.Proofs.YtdgpiobmncohjaaGreat.Aw
