/-
 Operations on maps: that the abstract ones tell the truth of the program's.; Operations on slices over boxes: that the abstract ones tell the truth of the program's.
-/
import Derived.Test.YtdgpiobmncohjaaGreatDoorKaf
import Derived.MapKept
import Derived.Carry
import Derived.Maps.RangeRun
import Derived.Lib.AppendZerosOnto
import Derived.Deep.AppendSrc
set_option linter.all false
namespace Go.Proofs.YtdgpiobmncohjaaGreatDoor.Aw
open Go.RowKit
section
variable {P : Program} {c : Ctx} {F : Nat → Prop} {l : Locs} {w : World} {s : St} {a : Act}
theorem EntsRep.nil : EntsRep w F l [] [] := ⟨rfl, fun i e m h => by simp at h⟩
theorem EntsRep.cons {e : Nat × Int × PV} {m : MapEntry} {es : List (Nat × Int × PV)} {ms : List MapEntry} (h : EntRep w F l e m) (hs : EntsRep w F l es ms) : EntsRep w F l (e :: es) (m :: ms) := by
 refine ⟨by simp [hs.1], fun i x y h1 h2 => ?_⟩
 cases i with
 | zero => simp at h1 h2; subst h1; subst h2; exact h
 | succ i => exact hs.2 i x y (by simpa using h1) (by simpa using h2)
theorem EntsRep.inv {e : Nat × Int × PV} {es : List (Nat × Int × PV)} {ms : List MapEntry} (h : EntsRep w F l (e :: es) ms) : ∃ m r, ms = m :: r ∧ EntRep w F l e m ∧ EntsRep w F l es r := by
 cases ms with
 | nil => simp [EntsRep] at h
 | cons m r => exact ⟨m, r, rfl, h.2 0 _ _ rfl rfl, by simpa using h.1, fun i x y h1 h2 => h.2 (i + 1) x y (by simpa using h1) (by simpa using h2)⟩
theorem EntsRep.nil_inv {ms : List MapEntry} (h : EntsRep w F l [] ms) : ms = [] := by
 cases ms with
 | nil => rfl
 | cons m r => simp [EntsRep] at h
theorem EntsRep.snoc : ∀ {es : List (Nat × Int × PV)} {ms : List MapEntry} {e : Nat × Int × PV} {m : MapEntry}, EntsRep w F l es ms → EntRep w F l e m → EntsRep w F l (es ++ [e]) (ms ++ [m])
 | [], ms, e, m, h, h' => by have := h.nil_inv; subst this; exact .cons h' .nil
 | x :: es, ms, e, m, h, h' => by
  obtain ⟨y, r, rfl, h1, h2⟩ := h.inv
  exact .cons h1 (h2.snoc h')
theorem sameI (k q : Int) : Instr.sameNow (.int .i64) (.int .i64 k) (.int .i64 q) = some (k == q) := by simp [Instr.sameNow]
theorem find_none {k : Int} : ∀ (es : List (Nat × Int × PV)) (ms : List MapEntry) (j : Nat), EntsRep w F l es ms → mGet k es = none → Instr.findNow (.int .i64) (.int .i64 k) ms j = some none
 | [], ms, j, h, _ => by have := h.nil_inv; subst this; rfl
 | e :: es, ms, j, h, hg => by
  obtain ⟨m, r, rfl, h1, h2⟩ := h.inv
  simp only [mGet] at hg
  split at hg
  ·cases hg
  ·rename_i hne
   simp only [Instr.findNow, h1.2.1, sameI]
   rw [show (k == e.2.1) = false by simpa using hne]
   exact find_none es r (j + 1) h2 hg
theorem find_some {k : Int} {p : PV} : ∀ (es : List (Nat × Int × PV)) (ms : List MapEntry) (j : Nat), EntsRep w F l es ms → mGet k es = some p →
  ∃ i m, ms[i]? = some m ∧ Instr.findNow (.int .i64) (.int .i64 k) ms j = some (some (j + i, m.val)) ∧ m.key = .int .i64 k ∧ R1 w F l p m.val ∧
   (∀ v x, R1 w F l v x → EntsRep w F l (mSet k v es) (ms.modify i fun e => { e with key := .int .i64 k, val := x })) ∧ EntsRep w F l (mDel k es) (ms.eraseIdx i)
 | [], ms, j, h, hg => by cases hg
 | e :: es, ms, j, h, hg => by
  obtain ⟨m, r, rfl, h1, h2⟩ := h.inv
  simp only [mGet] at hg
  split at hg
  ·rename_i he
   cases hg
   refine ⟨0, m, rfl, ?_, by rw [h1.2.1, he], h1.2.2, fun v x hv => ?_, ?_⟩
   ·simp only [Instr.findNow, h1.2.1, sameI]
    rw [show (k == e.2.1) = true by simpa using he]
    rfl
   ·simp only [mSet, he, if_true, List.modify_zero_cons]
    exact .cons ⟨h1.1, rfl, hv⟩ h2
   ·simp only [mDel, he, if_true]
    exact h2
  ·rename_i hne
   obtain ⟨i, m', g1, g2, g3, g4, g5, g6⟩ := find_some es r (j + 1) h2 hg
   refine ⟨i + 1, m', by simpa using g1, ?_, g3, g4, fun v x hv => ?_, ?_⟩
   ·simp only [Instr.findNow, h1.2.1, sameI]
    rw [show (k == e.2.1) = false by simpa using hne]
    rw [show j + (i + 1) = j + 1 + i by omega]
    exact g2
   ·simp only [mSet, if_neg hne, List.modify_succ_cons]
    exact .cons h1 (g5 v x hv)
   ·simp only [mDel, if_neg hne, List.eraseIdx_cons_succ]
    exact .cons h1 g6
theorem find_set {k : Int} {p v : PV} {x y : Value} {j : Nat} {es : List (Nat × Int × PV)} {ms : List MapEntry} (h : EntsRep w F l es ms) (hg : mGet k es = some p) (hf : Instr.findNow (.int .i64) (.int .i64 k) ms 0 = some (some (j, y))) (hv : R1 w F l v x) :
  EntsRep w F l (mSet k v es) (ms.modify j fun e => { e with key := .int .i64 k, val := x }) := by
 obtain ⟨i, m, _, h2, _, _, h5, _⟩ := find_some es ms 0 h hg
 rw [h2] at hf
 simp only [Option.some.injEq, Prod.mk.injEq, Nat.zero_add] at hf
 rw [← hf.1]
 exact h5 v x hv
theorem find_del {k : Int} {p : PV} {y : Value} {j : Nat} {es : List (Nat × Int × PV)} {ms : List MapEntry} (h : EntsRep w F l es ms) (hg : mGet k es = some p) (hf : Instr.findNow (.int .i64) (.int .i64 k) ms 0 = some (some (j, y))) :
  EntsRep w F l (mDel k es) (ms.eraseIdx j) := by
 obtain ⟨i, m, _, h2, _, _, _, h6⟩ := find_some es ms 0 h hg
 rw [h2] at hf
 simp only [Option.some.injEq, Prod.mk.injEq, Nat.zero_add] at hf
 rw [← hf.1]
 exact h6
theorem mDel_none {k : Int} : ∀ {es : List (Nat × Int × PV)}, mGet k es = none → mDel k es = es
 | [], _ => rfl
 | e :: es, h => by
  simp only [mGet] at h
  split at h
  ·cases h
  ·rename_i hne
   rw [mDel, if_neg hne, mDel_none h]
theorem cMapT_spec {t k e : TypeId} (h : cMapT P t = some (k, e)) : P.underlying t = some (.map k e) ∧ P.underlying k = some (.int .i64) := by
 unfold cMapT at h
 split at h
 ·rename_i k' e' hu
  split at h
  ·rename_i hk
   simp only [Option.some.injEq, Prod.mk.injEq] at h
   obtain ⟨rfl, rfl⟩ := h
   exact ⟨hu, hk⟩
  ·cases h
 ·cases h
theorem filterL {seen : List Nat} : ∀ {es : List (Nat × Int × PV)} {ms : List MapEntry}, EntsRep w F l es ms → EntsRep w F l (mLeft seen es) (ms.filter fun e => !seen.contains e.born)
 | [], ms, h => by have := h.nil_inv; subst this; exact .nil
 | e :: es, ms, h => by
  obtain ⟨m, r, rfl, h1, h2⟩ := h.inv
  simp only [mLeft, List.filter_cons, h1.1]
  split
  ·exact .cons h1 (filterL h2)
  ·exact filterL h2
theorem entsRep_left {seen : List Nat} {es : List (Nat × Int × PV)} {ms : List MapEntry} (h : EntsRep w F l es ms) : EntsRep w F l (mLeft seen es) (leftOf ms.toArray seen.toArray).toList := by
 have := filterL (seen := seen) h
 simpa [leftOf] using this
theorem R1.mp_inv {o : Nat} {v : Value} (h : R1 w F l (.mp o) v) : ∃ L, l o = some L ∧ L.box = true ∧ v = .map (some L.blk) := by cases h; exact ⟨_, ‹_›, ‹_›, rfl⟩
theorem map_at (R : RepW c F l s.ob w) {o : Nat} {ck : Nat} {es : List (Nat × Int × PV)} {v : Value} (hv : R1 w F l (.mp o) v) (ho : s.ob[o]? = some (.map ck es)) :
  ∃ L ms, l o = some L ∧ L.nil = false ∧ L.box = true ∧ v = .map (some L.blk) ∧ w.heap[L.blk]? = some (.map ms.toArray ck) ∧ EntsRep w F l es ms := by
 obtain ⟨L, h1, h2, rfl⟩ := hv.mp_inv
 rcases R.objs o _ ho with ⟨h, _⟩ | ⟨L', h3, h4⟩
 ·cases h
 rw [h1] at h3; cases h3
 obtain ⟨g1, g2, ms, g3, g4⟩ := h4
 exact ⟨L, ms, h1, g2, g1, rfl, g3, g4⟩
theorem map_change (R : RepW c F l s.ob w) {o : Nat} {a0 a' : AObj} {L : Loc} {w1 : World} {ob1 : Obj} (ho : s.ob[o]? = some a0) (hl : l o = some L) (hn : L.nil = false) (hd : w1 = w ∨ w1 = w.drew)
  (hrep : ∀ w', w'.heap[L.blk]? = some ob1 → Mono w F l w' F (updL l o L) → ObjRep w' F (updL l o L) a' L) :
  ∃ l', RepW c F l' (s.ob.set o a') { w1 with heap := w1.heap.setIfInBounds L.blk ob1 } ∧ Mono w F l { w1 with heap := w1.heap.setIfInBounds L.blk ob1 } F l' := by
 have hlt := (R.own o L hl hn).2.1
 have hh : w1.heap = w.heap := by rcases hd with rfl | rfl <;> rfl
 have h1 : w1.os = w.os := by rcases hd with rfl | rfl <;> rfl
 have h2 : w1.tape = w.tape := by rcases hd with rfl | rfl <;> rfl
 have h3 : w1.output = w.output := by rcases hd with rfl | rfl <;> rfl
 obtain ⟨R', m'⟩ := R.change (w' := { w1 with heap := w1.heap.setIfInBounds L.blk ob1 }) (o := o) (L := L) (L' := L) (a' := a') hl (List.getElem?_eq_some_iff.1 ho).1 h1 h2 h3 (by simp [hh])
  (fun b hb hne => by simp [hh, Ne.symm (hne hn)]) (.inl rfl) (fun _ => .inl ⟨hn, rfl⟩) (fun m => hrep _ (by simp [hh, hlt]) m)
 exact ⟨_, R', m'⟩
theorem isKey_i64 (k : Int) : MapKept.IsKey (.int .i64) (.int .i64 k) := by simp [MapKept.IsKey]
theorem find_born {b0 : Nat} : ∀ {es : List (Nat × Int × PV)} {ms : List MapEntry} {e0 : Nat × Int × PV}, EntsRep w F l es ms → es.find? (fun e => e.1 == b0) = some e0 →
  ∃ e, ms.find? (fun e => e.born == b0) = some e ∧ e.key = .int .i64 e0.2.1 ∧ R1 w F l e0.2.2 e.val
 | [], ms, e0, h, hf => by cases hf
 | x :: es, ms, e0, h, hf => by
  obtain ⟨m, r, rfl, hm, hr⟩ := h.inv
  rw [List.find?_cons] at hf ⊢
  rw [hm.1]
  cases hx : (x.1 == b0) with
  | true =>
   rw [hx] at hf; cases hf
   exact ⟨m, rfl, hm.2.1, hm.2.2⟩
  | false =>
   rw [hx] at hf
   exact find_born hr hf
theorem run_entry_b (w : World) (r m since last : Nat) (seen : Array Nat) (es : Array MapEntry) (ck b0 : Nat) (e : MapEntry) (h1 : w.heap[r]? = some (.mapIter (some m) since seen last)) (h2 : w.heap[m]? = some (.map es ck)) (h3 : seen.back? = some b0) (h4 : ck = last) (h5 : es.find? (fun e => e.born == b0) = some e) :
  (Instr.entry (.pointer (some ⟨r, 0, none⟩))).run P w = .ok (.tuple #[e.key, e.val]) w := by
 subst h4
 simp only [Instr.entry, getObj, Sem.run_bind, Sem.run, h1, h2, Result.andThen, h3, bne_self_eq_false, Bool.false_eq_true, if_false, h5]
 rfl
theorem mop_sound {o : Oper} {m : MOp} {args : List AX} {K : PV → List AObj → Prop} (hc : cMop P o = some (.mop m args)) (R : RepW c F l s.ob w) (hs : SlotsOk w F l s a) (hk : MStep m (args.map s.val) s.ob K) :
  ∃ pv ob', Out c w F l ((execOp a.eval o).run P w) pv ob' ∧ K pv ob' := by
 unfold cMop at hc
 split at hc
 ·-- make
  rename_i t hop
  simp only [Option.some.injEq, AO.mop.injEq] at hc
  obtain ⟨rfl, rfl⟩ := hc
  simp only [List.map_nil, MStep] at hk
  refine ⟨_, _, ?_, hk⟩
  obtain ⟨R1', m1⟩ := R.ext (w' := w.alloc (.map #[] 0)) below_alloc
  let L : Loc := ⟨w.heap.size, 0, 0, 0, 0, 0, false, true⟩
  obtain ⟨R2, m2⟩ := R1'.new (ob' := s.ob ++ [.map 0 []]) (L := L) (i := s.ob.length) (a := .map 0 []) (by
    cases hl : l s.ob.length with
    | none => rfl
    | some L => exact absurd (R.lt _ L hl) (Nat.lt_irrefl _)) (by simp) (by simp) (by simp) (fun j hj hlt => by
    simp only [List.length_append, List.length_cons, List.length_nil] at hlt
    rw [List.getElem?_append_left (by omega)])
   (fun m => ⟨rfl, rfl, [], alloc_heap w _, .nil⟩)
   (fun _ => ⟨R.below.size, lt_of_cells (alloc_heap w _), fun hF => absurd (R.flt _ hF) (Nat.lt_irrefl _), fun o L' ho hn e => by have := (R.own o L' ho hn).2.1; simp only [L] at e; omega⟩)
  exact ⟨.map (some w.heap.size), _, F, _, .inl (by simp [execOp, hop, run_makeMap]), R2, .mp (L := L) (updL_same _ _ _) rfl, m1.trans m2⟩
 ·-- look-up
  rename_i t x i ok hop
  simp only [Option.bind_eq_some_iff, Option.map_eq_some_iff] at hc
  obtain ⟨⟨kt, et⟩, ht, ti, hti, z, hz, hc⟩ := hc
  simp only [AO.mop.injEq] at hc
  obtain ⟨rfl, rfl⟩ := hc
  obtain ⟨h1, h2⟩ := cMapT_spec ht
  simp only [List.map_cons, List.map_nil] at hk
  have hx := opx_sound hs x
  have hi := opx_sound hs i
  generalize s.val (opx x) = px at hk hx
  generalize s.val (opx i) = pi at hk hi
  obtain ⟨q, k, rfl, rfl, hk2⟩ : ∃ q k, px = .mp q ∧ pi = .int .i64 k ∧ mGetO ok (cvN z) k s.ob[q]? s.ob K := by
   unfold MStep at hk
   split at hk <;> rename_i e1 e2 <;> first | cases e1 | exact hk.elim
   simp only [List.cons.injEq, and_true] at e2
   obtain ⟨rfl, rfl⟩ := e2
   exact ⟨_, _, rfl, rfl, hk⟩
  clear hk
  unfold mGetO at hk2
  split at hk2
  ·rename_i ck es hob
   obtain ⟨L, ms, g1, g2, g3, g4, g5, g6⟩ := map_at R hx hob
   have hiv := hi.int_inv
   have hck : (Instr.checkKey ms.toArray.isEmpty 10000 kt (.int .i64 k)).run P w = .ok () w := MapKept.run_checkKey h2 (isKey_i64 k) _ _
   unfold mGetP at hk2
   split at hk2
   ·rename_i p hp
    obtain ⟨j, m', f1, f2, f3, f4, f5, f6⟩ := find_some es ms 0 g6 hp
    refine ⟨_, _, Out.same (v := if ok then .tuple #[m'.val, .bool true] else m'.val) R ?_ ?_, hk2⟩
    ·simp only [execOp, hop, Instr.lookup, g4, hiv, Sem.run_bind, Sem.run_pure, Result.andThen_ok, run_underlying h1, MapKept.run_getObj_map g5, hck, MapKept.run_findKey h2 f2]
    ·cases ok
     ·exact f4
     ·exact R1.mkTup (.cons f4 (.one (.bool true)))
   ·rename_i hp
    have f2 := find_none es ms 0 g6 hp
    refine ⟨_, _, Out.same (v := if ok then .tuple #[z, .bool false] else z) R ?_ ?_, hk2⟩
    ·simp only [execOp, hop, Instr.lookup, g4, hiv, Sem.run_bind, Sem.run_pure, Result.andThen_ok, run_underlying h1, MapKept.run_getObj_map g5, hck, MapKept.run_findKey h2 f2, zeroValue_run hti hz]
    ·cases ok
     ·exact R1_cvN z
     ·exact R1.mkTup (.cons (R1_cvN z) (.one (.bool false)))
  ·exact hk2.elim
 ·-- a store
  rename_i t x k v hop
  simp only [Option.map_eq_some_iff, AO.mop.injEq] at hc
  obtain ⟨⟨kt, et⟩, ht, rfl, rfl⟩ := hc
  obtain ⟨h1, h2⟩ := cMapT_spec ht
  simp only [List.map_cons, List.map_nil] at hk
  have hx := opx_sound hs x
  have hi := opx_sound hs k
  have hv := opx_sound hs v
  generalize s.val (opx x) = px at hk hx
  generalize s.val (opx k) = pk at hk hi
  generalize s.val (opx v) = pv at hk hv
  obtain ⟨q, n, rfl, rfl, hk2⟩ : ∃ q n, px = .mp q ∧ pk = .int .i64 n ∧ mSetO q n pv s.ob[q]? s.ob K := by
   unfold MStep at hk
   split at hk <;> rename_i e1 e2 <;> first | cases e1 | exact hk.elim
   simp only [List.cons.injEq, and_true] at e2
   obtain ⟨rfl, rfl, rfl⟩ := e2
   exact ⟨_, _, rfl, rfl, hk⟩
  clear hk
  unfold mSetO at hk2
  split at hk2
  ·rename_i ck es hob
   obtain ⟨L, ms, g1, g2, g3, g4, g5, g6⟩ := map_at R hx hob
   have hiv := hi.int_inv
   have hck : (Instr.checkKey false 10000 kt (.int .i64 n)).run P w = .ok () w := MapKept.run_checkKey h2 (isKey_i64 n) _ _
   unfold mSetP at hk2
   split at hk2
   ·rename_i p hp
    obtain ⟨j, m', f1, f2, f3, f4, f5, f6⟩ := find_some es ms 0 g6 hp
    rw [Nat.zero_add] at f2
    obtain ⟨l', R', m''⟩ := map_change (w1 := w) (a' := .map ck (mSet n pv es)) (ob1 := .map (ms.toArray.modify j fun e => { e with key := .int .i64 n, val := a.eval v }) ck) R hob g1 g2 (.inl rfl)
     (fun w' hb m => ⟨g3, g2, ms.modify j fun e => { e with key := .int .i64 n, val := a.eval v }, by simpa using hb, by
      exact find_set (g6.up m) hp f2 (hv.up m)⟩)
    refine ⟨_, _, ⟨undef, _, F, l', .inr ⟨?_, rfl⟩, R', .bot _, m''⟩, hk2⟩
    have hst : (Instr.keyThatStays ((ms.toArray[j]?.map (·.key)).getD (.int .i64 n)) (.int .i64 n)).run P w = .ok (.int .i64 n) w := by
     rw [show ms.toArray[j]? = some m' by simpa using f1]
     simp only [Option.map_some, Option.getD_some, f3, Instr.keyThatStays, Instr.sameBits, beq_self_eq_true, Bool.and_self, if_true, Sem.run_pure]
    simp only [execOp, hop, Instr.mapUpdate, g4, hiv, Sem.run_bind, Sem.run_pure, Result.andThen_ok, run_underlying h1, MapKept.run_getObj_map g5, hck, MapKept.run_findKey h2 f2, hst, MapKept.run_setObj_map _ g5]
   ·rename_i hp
    have f2 := find_none es ms 0 g6 hp
    obtain ⟨l', R', m'⟩ := map_change (w1 := w) (a' := .map (ck + 1) (es ++ [(ck, n, pv)])) (ob1 := .map (ms.toArray.push ⟨.int .i64 n, a.eval v, ck⟩) (ck + 1)) R hob g1 g2 (.inl rfl)
     (fun w' hb m => ⟨g3, g2, ms ++ [⟨.int .i64 n, a.eval v, ck⟩], by simpa using hb, (g6.up m).snoc ⟨rfl, rfl, hv.up m⟩⟩)
    refine ⟨_, _, ⟨undef, _, F, l', .inr ⟨?_, rfl⟩, R', .bot _, m'⟩, hk2⟩
    simp only [execOp, hop, Instr.mapUpdate, g4, hiv, Sem.run_bind, Sem.run_pure, Result.andThen_ok, run_underlying h1, MapKept.run_getObj_map g5, hck, MapKept.run_findKey h2 f2, MapKept.run_setObj_map _ g5]
  ·exact hk2.elim
 ·-- a range
  rename_i t x hop
  simp only [Option.map_eq_some_iff, AO.mop.injEq] at hc
  obtain ⟨⟨kt, et⟩, ht, rfl, rfl⟩ := hc
  obtain ⟨h1, h2⟩ := cMapT_spec ht
  simp only [List.map_cons, List.map_nil] at hk
  have hx := opx_sound hs x
  generalize s.val (opx x) = px at hk hx
  obtain ⟨q, rfl, hk2⟩ : ∃ q, px = .mp q ∧ mRngO q s.ob[q]? s.ob K := by
   unfold MStep at hk
   split at hk <;> rename_i e1 e2 <;> first | cases e1 | exact hk.elim
   simp only [List.cons.injEq, and_true] at e2
   obtain rfl := e2
   exact ⟨_, rfl, hk⟩
  clear hk
  unfold mRngO at hk2
  split at hk2
  ·rename_i ck es hob
   obtain ⟨Lm, ms, g1, g2, g3, g4, g5, g6⟩ := map_at R hx hob
   refine ⟨_, _, ?_, hk2⟩
   obtain ⟨R1', m1⟩ := R.ext (w' := w.alloc (.mapIter (some Lm.blk) ck #[] ck)) below_alloc
   let L : Loc := ⟨w.heap.size, 0, 0, 0, 0, 0, false, true⟩
   have hnone : l s.ob.length = none := by
    cases hl : l s.ob.length with
    | none => rfl
    | some L => exact absurd (R.lt _ L hl) (Nat.lt_irrefl _)
   have hne : q ≠ s.ob.length := by have := (List.getElem?_eq_some_iff.1 hob).1; omega
   obtain ⟨R2, m2⟩ := R1'.new (ob' := s.ob ++ [.iter q ck [] ck]) (L := L) (i := s.ob.length) (a := .iter q ck [] ck) hnone (by simp) (by simp) (by simp) (fun j hj hlt => by
     simp only [List.length_append, List.length_cons, List.length_nil] at hlt
     rw [List.getElem?_append_left (by omega)])
    (fun m => ⟨rfl, rfl, Lm, by rw [updL_ne _ _ hne]; exact g1, g3, alloc_heap w _⟩)
    (fun _ => ⟨R.below.size, lt_of_cells (alloc_heap w _), fun hF => absurd (R.flt _ hF) (Nat.lt_irrefl _), fun o L' ho hn e => by have := (R.own o L' ho hn).2.1; simp only [L] at e; omega⟩)
   exact ⟨.pointer (some ⟨w.heap.size, 0, none⟩), _, F, _, .inl (by simp only [execOp, hop, g4, Sem.run_bind, run_range_map w t kt et Lm.blk ms.toArray ck h1 g5, Result.andThen_ok, Sem.run_pure]), R2, .ref (L := L) (updL_same _ _ _) rfl, m1.trans m2⟩
  ·exact hk2.elim
 ·-- a step of a walk
  rename_i x hop
  simp only [Option.some.injEq, AO.mop.injEq] at hc
  obtain ⟨rfl, rfl⟩ := hc
  simp only [List.map_cons, List.map_nil] at hk
  have hx := opx_sound hs x
  generalize s.val (opx x) = px at hk hx
  obtain ⟨q, rfl, hk2⟩ : ∃ q, px = .ref q 0 ∧ mNxtO q s.ob[q]? s.ob K := by
   unfold MStep at hk
   split at hk <;> rename_i e1 e2 <;> first | cases e1 | exact hk.elim
   simp only [List.cons.injEq, and_true] at e2
   obtain rfl := e2
   exact ⟨_, rfl, hk⟩
  clear hk
  unfold mNxtO at hk2
  split at hk2
  ·rename_i m since seen last hob
   unfold mNxtM at hk2
   split at hk2
   ·rename_i ck es hob2
    obtain ⟨k1, k2, k3, k4⟩ := hk2
    obtain ⟨L, hl, hb, hxv⟩ := hx.ref_inv
    rcases R.objs q _ hob with ⟨h, _⟩ | ⟨L', h3, h4⟩
    ·cases h
    rw [hl] at h3; cases h3
    obtain ⟨g1, g2, Lm, g3, g4, g5⟩ := h4
    obtain ⟨Lm', ms, f1, f2, f3, f4, f5, f6⟩ := map_at R (.mp g3 g4) hob2
    rw [g3] at f1; cases f1
    have hold : ∀ x ∈ ms.toArray.toList, x.born < since := by
     intro x hx
     obtain ⟨i, hi⟩ := List.mem_iff_getElem?.1 hx
     simp only [List.toList_toArray] at hi
     have hlt : i < es.length := by rw [f6.1]; exact (List.getElem?_eq_some_iff.1 hi).1
     have := f6.2 i es[i] x (by simp [hlt]) hi
     rw [this.1]
     exact k1 _ (List.getElem_mem hlt)
    have hleft : EntsRep w F l (mLeft seen es) (leftOf ms.toArray seen.toArray).toList := entsRep_left f6
    rcases run_next_at (P := P) w o.type L.blk Lm.blk since last seen.toArray ms.toArray ck g5 f5 hold k2 with ⟨h0, hr⟩ | ⟨e, he, w1, hw1, hr⟩
    ·have hnil : mLeft seen es = [] := by
      apply List.eq_nil_of_length_eq_zero
      rw [hleft.1]; simpa using h0
     refine ⟨_, _, Out.same (v := .tuple #[.bool false]) R ?_ (R1.mkTup (.one (.bool false))), k3 hnil⟩
     simp only [execOp, hop, hxv, Sem.run_bind, hr, Result.andThen_ok, Sem.run_pure]
    ·obtain ⟨i, hi⟩ := List.mem_iff_getElem?.1 he
     have hlt : i < (mLeft seen es).length := by rw [hleft.1]; exact (List.getElem?_eq_some_iff.1 hi).1
     obtain ⟨e1, e2, e3⟩ := hleft.2 i (mLeft seen es)[i] e (by simp [hlt]) hi
     obtain ⟨l', R', m'⟩ := map_change (w1 := w1) (a' := .iter m since (seen ++ [(mLeft seen es)[i].1]) ck) (ob1 := .mapIter (some Lm.blk) since (seen.toArray.push e.born) ck) R hob hl g2 hw1
      (fun w' hb m' => ⟨g1, g2, Lm, by
       by_cases hq : m = q
       ·subst hq; rw [updL_same]; rw [hl] at g3; exact g3
       ·rw [updL_ne _ _ hq]; exact g3, g4, by rw [hb, e1]; simp⟩)
     refine ⟨_, _, ⟨.tuple #[.bool true, e.key, e.val], _, F, l', .inl ?_, R', ?_, m'⟩, k4 _ (List.getElem_mem hlt)⟩
     ·simp only [execOp, hop, hxv, Sem.run_bind, hr, Result.andThen_ok, Sem.run_pure]; rfl
     ·rw [e2]
      exact R1.mkTup (.cons (.bool true) (.cons (.int .i64 _) (.one (e3.up m'))))
   ·exact hk2.elim
  ·exact hk2.elim
 ·-- the entry of a step
  rename_i x hop
  simp only [Option.some.injEq, AO.mop.injEq] at hc
  obtain ⟨rfl, rfl⟩ := hc
  simp only [List.map_cons, List.map_nil] at hk
  have hx := opx_sound hs x
  generalize s.val (opx x) = px at hk hx
  obtain ⟨q, rfl, hk2⟩ : ∃ q, px = .ref q 0 ∧ mEntO s.ob[q]? s.ob K := by
   unfold MStep at hk
   split at hk <;> rename_i e1 e2 <;> first | cases e1 | exact hk.elim
   simp only [List.cons.injEq, and_true] at e2
   obtain rfl := e2
   exact ⟨_, rfl, hk⟩
  clear hk
  unfold mEntO at hk2
  split at hk2
  ·rename_i m since seen last hob
   unfold mEntM at hk2
   split at hk2
   ·rename_i ck es hob2
    obtain ⟨rfl, k2⟩ := hk2
    unfold mEntE at k2
    split at k2
    ·rename_i e0 hfe
     obtain ⟨b0, hb0, hfind⟩ := Option.bind_eq_some_iff.1 hfe
     obtain ⟨L, hl, hb, hxv⟩ := hx.ref_inv
     rcases R.objs q _ hob with ⟨h, _⟩ | ⟨L', h3, h4⟩
     ·cases h
     rw [hl] at h3; cases h3
     obtain ⟨g1, g2, Lm, g3, g4, g5⟩ := h4
     obtain ⟨Lm', ms, f1, f2, f3, f4, f5, f6⟩ := map_at R (.mp g3 g4) hob2
     rw [g3] at f1; cases f1
     obtain ⟨e, he, e2, e3⟩ := find_born f6 hfind
     have hback : (seen.toArray).back? = some b0 := by rw [List.back?_toArray]; exact hb0
     refine ⟨_, _, Out.same (v := .tuple #[e.key, e.val]) R ?_ (by rw [e2]; exact R1.mkTup (.cons (.int .i64 _) (.one e3))), k2⟩
     simp only [execOp, hop, hxv, Sem.run_bind, run_entry_b w L.blk Lm.blk since ck seen.toArray ms.toArray ck b0 e g5 f5 hback rfl (by simpa using he), Result.andThen_ok, Sem.run_pure]
    ·exact k2.elim
   ·exact hk2.elim
  ·exact hk2.elim
 ·-- delete
  rename_i args' ats hop
  split at hc
  ·rename_i x k t kt' ha1 ha2
   simp only [Option.map_eq_some_iff, AO.mop.injEq] at hc
   obtain ⟨⟨kt, et⟩, ht, rfl, rfl⟩ := hc
   obtain ⟨h1, h2⟩ := cMapT_spec ht
   have ea : args' = #[x, k] := by apply Array.ext'; simpa using ha1
   have et' : ats = #[t, kt'] := by apply Array.ext'; simpa using ha2
   simp only [List.map_cons, List.map_nil] at hk
   have hx := opx_sound hs x
   have hi := opx_sound hs k
   generalize s.val (opx x) = px at hk hx
   generalize s.val (opx k) = pk at hk hi
   obtain ⟨q, n, rfl, rfl, hk2⟩ : ∃ q n, px = .mp q ∧ pk = .int .i64 n ∧ mDelO q n s.ob[q]? s.ob K := by
    unfold MStep at hk
    split at hk <;> rename_i e1 e2 <;> first | cases e1 | exact hk.elim
    simp only [List.cons.injEq, and_true] at e2
    obtain ⟨rfl, rfl⟩ := e2
    exact ⟨_, _, rfl, rfl, hk⟩
   clear hk
   unfold mDelO at hk2
   split at hk2
   ·rename_i ck es hob
    obtain ⟨L, ms, g1, g2, g3, g4, g5, g6⟩ := map_at R hx hob
    have hiv := hi.int_inv
    have hck : ∀ b, (Instr.checkKey b 10000 kt (.int .i64 n)).run P w = .ok () w := fun b => MapKept.run_checkKey h2 (isKey_i64 n) _ _
    have hso : ∀ o', (setObj L.blk o').run P w = .ok () { w with heap := w.heap.setIfInBounds L.blk o' } := fun o' => MapKept.run_setObj_map o' g5
    cases hp : mGet n es with
    | some p =>
     obtain ⟨j, m', f1, f2, f3, f4, f5, f6⟩ := find_some es ms 0 g6 hp
     rw [Nat.zero_add] at f2
     obtain ⟨l', R', m''⟩ := map_change (w1 := w) (a' := .map ck (mDel n es)) (ob1 := .map (ms.toArray.eraseIdxIfInBounds j) ck) R hob g1 g2 (.inl rfl)
      (fun w' hb m => ⟨g3, g2, ms.eraseIdx j, by
       rw [hb]
       congr 2
       have hj : j < ms.length := (List.getElem?_eq_some_iff.1 f1).1
       apply Array.ext'
       simp [Array.eraseIdxIfInBounds, hj], find_del (g6.up m) hp f2⟩)
     refine ⟨_, _, ⟨.tuple #[], _, F, l', .inl ?_, R', R1.mkTup .nil, m''⟩, hk2⟩
     simp only [execOp, hop, resolve, invoke, builtin, ea, et', Builtin.delete_]
     simp [g4, hiv, run_underlying h1, MapKept.run_getObj_map g5, hck, MapKept.run_findKey h2 f2, hso]
    | none =>
     have f2 := find_none es ms 0 g6 hp
     rw [mDel_none hp] at hk2
     obtain ⟨l', R', m''⟩ := map_change (w1 := w) (a' := .map ck es) (ob1 := .map ms.toArray ck) R hob g1 g2 (.inl rfl)
      (fun w' hb m => ⟨g3, g2, ms, hb, g6.up m⟩)
     refine ⟨_, _, ⟨.tuple #[], _, F, l', .inl ?_, R', R1.mkTup .nil, m''⟩, hk2⟩
     simp only [execOp, hop, resolve, invoke, builtin, ea, et', Builtin.delete_]
     simp [g4, hiv, run_underlying h1, MapKept.run_getObj_map g5, hck, MapKept.run_findKey h2 f2, hso]
   ·exact hk2.elim
  ·cases hc
 ·-- len
  rename_i args' ats hop
  split at hc
  ·rename_i x t ha1 ha2
   simp only [Option.map_eq_some_iff, AO.mop.injEq] at hc
   obtain ⟨⟨kt, et⟩, ht, rfl, rfl⟩ := hc
   obtain ⟨h1, h2⟩ := cMapT_spec ht
   have ea : args' = #[x] := by apply Array.ext'; simpa using ha1
   have et' : ats = #[t] := by apply Array.ext'; simpa using ha2
   simp only [List.map_cons, List.map_nil] at hk
   have hx := opx_sound hs x
   generalize s.val (opx x) = px at hk hx
   obtain ⟨q, rfl, hk2⟩ : ∃ q, px = .mp q ∧ mLenO s.ob[q]? s.ob K := by
    unfold MStep at hk
    split at hk <;> rename_i e1 e2 <;> first | cases e1 | exact hk.elim
    simp only [List.cons.injEq, and_true] at e2
    obtain rfl := e2
    exact ⟨_, rfl, hk⟩
   clear hk
   unfold mLenO at hk2
   split at hk2
   ·rename_i ck es hob
    obtain ⟨L, ms, g1, g2, g3, g4, g5, g6⟩ := map_at R hx hob
    refine ⟨_, _, Out.same (v := .int .i64 ms.length) R ?_ (by rw [g6.1]; exact .int _ _), hk2⟩
    simp only [execOp, hop, resolve, invoke, builtin, ea, et', Builtin.len_]
    simp [g4, run_underlying h1, MapKept.run_getObj_map g5, goInt]
   ·exact hk2.elim
  ·cases hc
 ·cases hc
theorem cMop_mop {o : Oper} {ao : AO} (h : cMop P o = some ao) : ∃ m args, ao = .mop m args := by
 unfold cMop at h
 split at h
 ·cases h; exact ⟨_, _, rfl⟩
 ·simp only [Option.bind_eq_some_iff, Option.map_eq_some_iff] at h
  obtain ⟨_, _, _, _, _, _, rfl⟩ := h; exact ⟨_, _, rfl⟩
 ·simp only [Option.map_eq_some_iff] at h; obtain ⟨_, _, rfl⟩ := h; exact ⟨_, _, rfl⟩
 ·simp only [Option.map_eq_some_iff] at h; obtain ⟨_, _, rfl⟩ := h; exact ⟨_, _, rfl⟩
 ·cases h; exact ⟨_, _, rfl⟩
 ·cases h; exact ⟨_, _, rfl⟩
 ·split at h
  ·simp only [Option.map_eq_some_iff] at h; obtain ⟨_, _, rfl⟩ := h; exact ⟨_, _, rfl⟩
  ·cases h
 ·split at h
  ·simp only [Option.map_eq_some_iff] at h; obtain ⟨_, _, rfl⟩ := h; exact ⟨_, _, rfl⟩
  ·cases h
 ·cases h
end
open Go.RowKit
section
variable {P : Program} {c : Ctx} {F : Nat → Prop} {l : Locs} {w : World} {s : St} {a : Act}
theorem andThen_assocA {α β γ : Type} (r : Result α) (f : α → World → Result β) (g : β → World → Result γ) : (r.andThen f).andThen g = r.andThen fun x w => (f x w).andThen g := by cases r <;> rfl
theorem out_runA {c : Ctx} {F : Nat → Prop} {l : Locs} {w : World} {res : Result Next} {pv : PV} {ob' : List AObj} {v : Value} {w' : World} {F' : Nat → Prop} {l' : Locs} (h : res = .ok (.value v) w') (R : RepW c F' l' ob' w') (hv : R1 w' F' l' pv v) (m : Mono w F l w' F' l') : Out c w F l res pv ob' :=
 ⟨v, w', F', l', .inl h, R, hv, m⟩
theorem R1.asl_inv {o off n cp : Nat} {v : Value} (h : R1 w F l (.asl o off n cp) v) : ∃ L ad, l o = some L ∧ L.box = true ∧ n ≤ cp ∧ (0 < cp → ad = ⟨L.blk, off, none⟩) ∧ v = .slice (some ad) n cp := by
 cases h with
 | asl h1 h2 h3 h4 => exact ⟨_, _, h1, h2, h3, h4, rfl⟩
theorem R1.nils_inv {v : Value} (h : R1 w F l .nils v) : v = .slice none 0 0 := by cases h; rfl
theorem asI_inv {p : PV} {n : Int} (h : asI p = some n) : ∃ k, p = .int k n := by
 cases p <;> simp only [asI] at h <;> cases h
 exact ⟨_, rfl⟩
theorem bnd_sound (hs : SlotsOk w F l s a) {x : Option Operand} {d m : Int} (h : asBnd x.isSome (s.val (optX x)) d = some m) :
  (x = none ∧ m = d) ∨ ∃ y k, x = some y ∧ a.eval y = .int k m := by
 cases x with
 | none => simp [asBnd] at h; exact .inl ⟨rfl, h.symm⟩
 | some y =>
  simp only [asBnd, Option.isSome_some, if_true, optX] at h
  obtain ⟨k, hk⟩ := asI_inv h
  have := opx_sound hs y
  rw [hk] at this
  exact .inr ⟨y, k, rfl, this.int_inv⟩
theorem sl3_sound {n cp : Nat} {lo hi mx : Option Operand} {li hi' mi : Int} (hs : SlotsOk w F l s a) (hm3 : ¬ (mx.isSome = true ∧ hi.isSome = false)) (h1 : asBnd lo.isSome (s.val (optX lo)) 0 = some li) (h2 : asBnd hi.isSome (s.val (optX hi)) n = some hi') (h3 : asBnd mx.isSome (s.val (optX mx)) cp = some mi)
  (hb : 0 ≤ li ∧ li ≤ hi' ∧ hi' ≤ mi ∧ mi ≤ (cp : Int)) : (Instr.sliceBounds true n cp (lo.map a.eval) (hi.map a.eval) (mx.map a.eval)).run P w = .ok (li.toNat, hi'.toNat, mi.toNat) w := by
 obtain ⟨b1, b2, b3, b4⟩ := hb
 have hmn : ((mi.toNat : Nat) : Int) = mi := by omega
 have hhn : ((hi'.toNat : Nat) : Int) = hi' := by omega
 rcases bnd_sound hs h3 with ⟨rfl, rfl⟩ | ⟨ym, km, rfl, em⟩
 ·rcases bnd_sound hs h2 with ⟨rfl, rfl⟩ | ⟨yh, kh, rfl, eh⟩
  ·rcases bnd_sound hs h1 with ⟨rfl, rfl⟩ | ⟨yl, kl, rfl, el⟩
   ·simp [Instr.sliceBounds]
   ·simp [Instr.sliceBounds, el, run_sliceBound w kl li n _ b1 b2]
  ·rcases bnd_sound hs h1 with ⟨rfl, rfl⟩ | ⟨yl, kl, rfl, el⟩
   ·simp [Instr.sliceBounds, eh, run_sliceBound w kh hi' cp _ (by omega) b3]
   ·simp [Instr.sliceBounds, eh, el, run_sliceBound w kh hi' cp _ (by omega) b3, run_sliceBound w kl li hi'.toNat _ b1 (by omega)]
 ·rcases bnd_sound hs h2 with ⟨rfl, rfl⟩ | ⟨yh, kh, rfl, eh⟩
  ·simp at hm3
  ·rcases bnd_sound hs h1 with ⟨rfl, rfl⟩ | ⟨yl, kl, rfl, el⟩
   ·simp [Instr.sliceBounds, em, eh, run_sliceBound w km mi cp _ (by omega) b4, run_sliceBound w kh hi' mi.toNat _ (by omega) (by omega)]
   ·simp [Instr.sliceBounds, em, eh, el, run_sliceBound w km mi cp _ (by omega) b4, run_sliceBound w kh hi' mi.toNat _ (by omega) (by omega), run_sliceBound w kl li hi'.toNat _ b1 (by omega)]
theorem arrV_sl_asl {e o off n cp bl bh bm lo hi mx pv} (h : arrV (.sl e bl bh bm) [.asl o off n cp, lo, hi, mx] = some pv) :
  ∃ li hi' mi, asBnd bl lo 0 = some li ∧ asBnd bh hi n = some hi' ∧ asBnd bm mx cp = some mi ∧ (0 ≤ li ∧ li ≤ hi' ∧ hi' ≤ mi ∧ mi ≤ (cp : Int)) ∧ pv = .asl o (off + li.toNat * e) (hi' - li).toNat (mi - li).toNat := by
 simp only [arrV, aslB] at h
 split at h
 ·rename_i li hi' mi h1 h2 h3
  split at h
  ·rename_i hc
   cases h
   exact ⟨li, hi', mi, h1, h2, h3, hc, rfl⟩
  ·cases h
 ·cases h
theorem arrV_sl_nils {e bl bh bm lo hi mx pv} (h : arrV (.sl e bl bh bm) [.nils, lo, hi, mx] = some pv) :
  asBnd bl lo 0 = some 0 ∧ asBnd bh hi 0 = some 0 ∧ asBnd bm mx 0 = some 0 ∧ pv = .nils := by
 simp only [arrV, nilB] at h
 split at h
 ·rename_i li hi' mi h1 h2 h3
  split at h
  ·rename_i hc
   obtain ⟨rfl, rfl, rfl⟩ := hc
   cases h
   exact ⟨h1, h2, h3, rfl⟩
  ·cases h
 ·cases h
theorem arrV_len_inv {p pv : PV} (h : arrV .len [p] = some pv) : (∃ o off n cp, p = .asl o off n cp ∧ pv = .int .i64 n) ∨ (p = .nils ∧ pv = .int .i64 0) := by
 cases p <;> simp only [arrV] at h <;> cases h
 ·exact .inr ⟨rfl, rfl⟩
 ·exact .inl ⟨_, _, _, _, rfl, rfl⟩
theorem arrV_cap_inv {p pv : PV} (h : arrV .cap [p] = some pv) : (∃ o off n cp, p = .asl o off n cp ∧ pv = .int .i64 cp) ∨ (p = .nils ∧ pv = .int .i64 0) := by
 cases p <;> simp only [arrV] at h <;> cases h
 ·exact .inr ⟨rfl, rfl⟩
 ·exact .inl ⟨_, _, _, _, rfl, rfl⟩
theorem arrV_isnil_inv {neg : Bool} {p pv : PV} (h : arrV (.isnil neg) [p] = some pv) : (∃ o off n cp, p = .asl o off n cp ∧ pv = .bool neg) ∨ (p = .nils ∧ pv = .bool (!neg)) := by
 cases p <;> simp only [arrV] at h <;> cases h
 ·exact .inr ⟨rfl, rfl⟩
 ·exact .inl ⟨_, _, _, _, rfl, rfl⟩
theorem arrV_ix_inv {e : Nat} {p q pv : PV} (h : arrV (.ix e) [p, q] = some pv) : ∃ o off n k i, ((∃ cp, p = .asl o off n cp) ∨ p = .bsl o off n) ∧ q = .int k i ∧ 0 ≤ i ∧ i < (n : Int) ∧ pv = .ref o (off + i.toNat * e) := by
 cases q with
 | int k i =>
  cases p with
  | asl o off n cp =>
   simp only [arrV] at h
   split at h
   ·rename_i hc; cases h; exact ⟨o, off, n, k, i, .inl ⟨cp, rfl⟩, rfl, hc.1, hc.2, rfl⟩
   ·cases h
  | bsl o off n =>
   simp only [arrV] at h
   split at h
   ·rename_i hc; cases h; exact ⟨o, off, n, k, i, .inr rfl, rfl, hc.1, hc.2, rfl⟩
   ·cases h
  | _ => simp [arrV] at h
 | _ => cases p <;> simp [arrV] at h
theorem ix_shape {o off n : Nat} {p : PV} {v : Value} (hp : (∃ cp, p = .asl o off n cp) ∨ p = .bsl o off n) (hn : 0 < n) (h : R1 w F l p v) : ∃ L c', l o = some L ∧ L.box = true ∧ v = .slice (some ⟨L.blk, off, none⟩) n c' := by
 rcases hp with ⟨cp, rfl⟩ | rfl
 ·obtain ⟨L, ad, g1, g2, g3, g4, g5⟩ := h.asl_inv
  have := g4 (by omega)
  subst this
  exact ⟨L, cp, g1, g2, g5⟩
 ·cases h with
  | bsl ho hb hn => exact ⟨_, _, ho, hb, rfl⟩
theorem arrV_sl_inv {e : Nat} {a b d : Bool} {p x y z pv : PV} (h : arrV (.sl e a b d) [p, x, y, z] = some pv) : (∃ o off n cp, p = .asl o off n cp) ∨ p = .nils := by
 cases p <;> first | exact .inl ⟨_, _, _, _, rfl⟩ | exact .inr rfl | (simp [arrV] at h)
theorem arr_of {forb : List Nat} {nw : Option Nat} {op : ArrOp} {xs : List AX} {pv : PV} {ob' : List AObj} (he : ev forb nw s (.arr op xs) = some (pv, ob')) : ob' = s.ob ∧ arrV op (xs.map s.val) = some pv := by
 simp only [ev, Option.map_eq_some_iff, Prod.mk.injEq] at he
 obtain ⟨v, h1, rfl, rfl⟩ := he
 exact ⟨rfl, h1⟩
theorem arr_sound {forb : List Nat} {nw : Option Nat} {o : Oper} {ao : AO} {pv : PV} {ob' : List AObj} (hc : cArrE P o = some ao) (R : RepW c F l s.ob w) (hs : SlotsOk w F l s a) (he : ev forb nw s ao = some (pv, ob')) :
  Out c w F l ((execOp a.eval o).run P w) pv ob' := by
 unfold cArrE at hc
 split at hc
 ·-- a literal
  rename_i t len parts hop
  split at hc
  ·rename_i e hu
   split at hc
   ·rename_i i z hz
    split at hc
    ·rename_i hcond
     simp only [Option.some.injEq] at hc
     subst hc
     obtain ⟨h1, h2, h3, h4⟩ := zcells_spec hz
     simp only [ev, Option.bind_eq_some_iff] at he
     obtain ⟨rows, hrows, he⟩ := he
     have hzl : (z.cells.toList.map cvS).length = i.size := by simp [h3]
     rw [hzl] at hrows
     have hrep : ∀ r ∈ List.replicate len (z.cells.toList.map cvS), r.length = i.size := fun r hr => by rw [List.eq_of_mem_replicate hr, hzl]
     obtain ⟨hfill, hlen, hcount⟩ := fillR_fillA _ _ rows hrep hrows
     rw [List.length_replicate] at hcount
     split at he
     ·rename_i hcell
      have hrun : ∃ cells, (Instr.buildSlice t len (parts.map fun (i, x) => (i, a.eval x))).run P w = .ok (.slice (some ⟨w.heap.size, 0, none⟩) len len) (w.alloc (.cells cells e)) ∧ RL w F l rows.flatten cells.toList := by
       by_cases h0 : len * i.size = 0
       ·obtain ⟨hp, hl0⟩ := hcond.2 h0
        subst hl0
        have hpe : parts = #[] := by apply Array.ext'; simpa using hp
        have hre : rows = [] := List.eq_nil_of_length_eq_zero hcount
        subst hpe; subst hre
        exact ⟨#[], by simp [Instr.buildSlice, run_underlying hu, sizeOf_run h1, Instr.fill, newRow, Array.range_zero'], RL.nil⟩
       ·have hmade : RL w F l (List.replicate len (z.cells.toList.map cvS)).flatten (madeCells z.cells (len * i.size)).toList := by
         rw [← h3, made_list]
         have : ∀ n, RL w F l (List.replicate n (z.cells.toList.map cvS)).flatten (List.replicate n z.cells.toList).flatten := by
          intro n
          induction n with
          | zero => exact RL.nil
          | succ n ih => rw [List.replicate_succ, List.replicate_succ, List.flatten_cons, List.flatten_cons]; exact (RL_cvS _).append ih
         exact this len
        obtain ⟨cells', hf, hr⟩ := fill_sound (place := fun j => some (j * i.size, i.size)) hs parts.toList (parts.toList.map fun p => (p.1 * i.size, i.size, opx p.2)) (mapM_some _ _) _ rows.flatten _ hmade (by
         rw [List.map_map] at hfill
         exact hfill)
        refine ⟨cells', ?_, hr⟩
        refine run_buildSlice w t e len _ cells' i z hu h1 h2 (by omega) h0 ?_
        rw [Array.toList_map]
        exact hf
      obtain ⟨cells, hrun, hr⟩ := hrun
      have hone := hr.oneCell hcell
      simp only [Option.map_eq_some_iff] at he
      obtain ⟨⟨k, ob1⟩, hmk, he⟩ := he
      simp only [Prod.mk.injEq] at he
      obtain ⟨rfl, rfl⟩ := he
      obtain ⟨l', R', m', hv⟩ := new_box R (w' := w.alloc (.cells cells e)) below_alloc (e := e) (cv := cells.toList) (by rw [alloc_heap]) hr hone hmk
      refine out_runA (v := .slice (some ⟨w.heap.size, 0, none⟩) len len) (w' := w.alloc (.cells cells e)) (by simp only [execOp, hop, Sem.run_bind]; rw [hrun]; simp only [Result.andThen_ok, Sem.run_pure]) R' ?_ m'
      obtain ⟨L, g1, g2, g3⟩ := hv.ref_inv
      simp only [Value.pointer.injEq, Option.some.injEq] at g3
      rw [hcount]
      exact .asl g1 g2 (Nat.le_refl _) fun _ => g3
     ·cases he
    ·cases hc
   ·cases hc
  ·cases hc
 ·-- an element's place
  rename_i t x i hop
  split at hc
  ·rename_i e hu
   simp only [Option.map_eq_some_iff] at hc
   obtain ⟨ie, hie, rfl⟩ := hc
   obtain ⟨rfl, hv⟩ := arr_of he
   have hx := opx_sound hs x
   have hi := opx_sound hs i
   simp only [List.map_cons, List.map_nil] at hv
   generalize s.val (opx x) = px at hv hx
   generalize s.val (opx i) = pi at hv hi
   obtain ⟨o', off, n, k, j, hp, rfl, c1, c2, rfl⟩ := arrV_ix_inv hv
   obtain ⟨L, cp, g1, g2, g5⟩ := ix_shape hp (by omega) hx
   refine Out.same R (v := .pointer (some ⟨L.blk, off + j.toNat * ie.size, none⟩)) ?_ (.ref g1 g2)
   simp only [execOp, hop, g5, hi.int_inv]
   simp [Instr.indexAt, run_underlying hu, asIntOf, c1, c2, sizeOf_run hie, Addr.add_lit]
  ·cases hc
 ·-- a slicing
  rename_i t x lo hi mx hop
  split at hc
  ·rename_i e hu
   split at hc
   ·cases hc
   rename_i hm3
   simp only [Option.map_eq_some_iff] at hc
   obtain ⟨ie, hie, rfl⟩ := hc
   obtain ⟨rfl, hv⟩ := arr_of he
   have hx := opx_sound hs x
   simp only [List.map_cons, List.map_nil] at hv
   generalize s.val (opx x) = px at hv hx
   have hpx := arrV_sl_inv hv
   rcases hpx with ⟨o, off, n, cp, rfl⟩ | rfl
   ·obtain ⟨li, hi', mi, h1, h2, h3, hb, rfl⟩ := arrV_sl_asl hv
    obtain ⟨L, ad, g1, g2, g3, g4, g5⟩ := hx.asl_inv
    have hrun := sl3_sound (P := P) hs hm3 h1 h2 h3 hb
    obtain ⟨b1, b2, b3, b4⟩ := hb
    refine Out.same R (v := .slice (if mi.toNat = li.toNat then some ad else some (ad.add (li.toNat * ie.size))) (hi'.toNat - li.toNat) (mi.toNat - li.toNat)) ?_ ?_
    ·simp only [execOp, hop, g5, Instr.sliceAt, Sem.run_bind, run_underlying hu, Result.andThen_ok, Instr.slice, hrun, sizeOf_run hie, Sem.run_pure, Option.map_some]
    ·have e1 : hi'.toNat - li.toNat = (hi' - li).toNat := by omega
     have e2 : mi.toNat - li.toNat = (mi - li).toNat := by omega
     rw [e1, e2]
     by_cases hml : mi.toNat = li.toNat
     ·rw [if_pos hml]
      exact .asl g1 g2 (by omega) fun h => by omega
     ·rw [if_neg hml]
      refine .asl g1 g2 (by omega) fun _ => ?_
      rw [g4 (by omega), Addr.add_lit]
   ·obtain ⟨h1, h2, h3, rfl⟩ := arrV_sl_nils hv
    have hrun := sl3_sound (P := P) (n := 0) (cp := 0) hs hm3 h1 h2 h3 (by omega)
    refine Out.same R (v := .slice none 0 0) ?_ .nils
    simp only [execOp, hop, hx.nils_inv, Instr.sliceAt, Sem.run_bind, run_underlying hu, Result.andThen_ok, Instr.slice, hrun, sizeOf_run hie, Sem.run_pure, Option.map_none]
    simp
  ·cases hc
 ·rename_i t x yt hop
  split at hc
  ·rename_i e hu
   simp only [Option.some.injEq] at hc; subst hc
   obtain ⟨rfl, hv⟩ := arr_of he
   have hx := opx_sound hs x
   simp only [List.map_cons, List.map_nil] at hv
   have hrun : (execOp a.eval o).run P w = ((do eqGuard .eql t x (.const (.slice none 0 0)) (a.eval x) (.slice none 0 0); binOp .eql t (a.eval x) (.slice none 0 0)).run P w).andThen fun v w => .ok (.value v) w := by
    simp only [execOp, hop, Sem.run_bind, Sem.run_pure, andThen_assocA]; rfl
   rw [hrun]
   generalize s.val (opx x) = px at hv hx
   rcases arrV_isnil_inv hv with ⟨o', off, n, cp, rfl, rfl⟩ | ⟨rfl, rfl⟩
   ·obtain ⟨L, ad, g1, g2, g3, g4, g5⟩ := hx.asl_inv
    have h1 := Lib.run_eql_slice_nil (P := P) w t e (some ad) n cp 0 0 hu
    exact Out.same R (v := .bool false) (by rw [g5]; simp only [eqGuard] at h1 ⊢; simpa using congrArg (fun r => r.andThen fun v w => .ok (Next.value v) w) h1) (.bool _)
   ·have h1 := Lib.run_eql_slice_nil (P := P) w t e none 0 0 0 0 hu
    exact Out.same R (v := .bool true) (by rw [hx.nils_inv]; simp only [eqGuard] at h1 ⊢; simpa using congrArg (fun r => r.andThen fun v w => .ok (Next.value v) w) h1) (.bool _)
  ·cases hc
 ·rename_i t x yt hop
  split at hc
  ·rename_i e hu
   simp only [Option.some.injEq] at hc; subst hc
   obtain ⟨rfl, hv⟩ := arr_of he
   have hx := opx_sound hs x
   simp only [List.map_cons, List.map_nil] at hv
   have hrun : (execOp a.eval o).run P w = ((do eqGuard .neq t x (.const (.slice none 0 0)) (a.eval x) (.slice none 0 0); binOp .neq t (a.eval x) (.slice none 0 0)).run P w).andThen fun v w => .ok (.value v) w := by
    simp only [execOp, hop, Sem.run_bind, Sem.run_pure, andThen_assocA]; rfl
   rw [hrun]
   generalize s.val (opx x) = px at hv hx
   rcases arrV_isnil_inv hv with ⟨o', off, n, cp, rfl, rfl⟩ | ⟨rfl, rfl⟩
   ·obtain ⟨L, ad, g1, g2, g3, g4, g5⟩ := hx.asl_inv
    have h1 := nslice (P := P) w t e (some ad) n cp 0 0 hu
    exact Out.same R (v := .bool true) (by rw [g5]; simp only [eqGuard] at h1 ⊢; simpa using congrArg (fun r => r.andThen fun v w => .ok (Next.value v) w) h1) (.bool _)
   ·have h1 := nslice (P := P) w t e none 0 0 0 0 hu
    exact Out.same R (v := .bool false) (by rw [hx.nils_inv]; simp only [eqGuard] at h1 ⊢; simpa using congrArg (fun r => r.andThen fun v w => .ok (Next.value v) w) h1) (.bool _)
  ·cases hc
 ·-- len
  rename_i args ts hop
  split at hc
  ·rename_i x t ha ht
   split at hc
   ·rename_i e hu
    simp only [Option.some.injEq] at hc; subst hc
    obtain ⟨rfl, hv⟩ := arr_of he
    have hx := opx_sound hs x
    simp only [List.map_cons, List.map_nil] at hv
    have ha' : args = #[x] := by apply Array.ext'; simpa using ha
    have ht' : ts = #[t] := by apply Array.ext'; simpa using ht
    subst ha'; subst ht'
    generalize s.val (opx x) = px at hv hx
    rcases arrV_len_inv hv with ⟨o', off, n, cp, rfl, rfl⟩ | ⟨rfl, rfl⟩
    ·obtain ⟨L, ad, g1, g2, g3, g4, g5⟩ := hx.asl_inv
     exact Out.same R (v := .int .i64 n) (by simp [execOp, hop, resolve, invoke, builtin, g5, Builtin.len_, run_underlying hu, goInt]) (.int _ _)
    ·exact Out.same R (v := .int .i64 0) (by simp [execOp, hop, resolve, invoke, builtin, hx.nils_inv, Builtin.len_, run_underlying hu, goInt]) (.int _ _)
   ·cases hc
  ·cases hc
 ·-- cap
  rename_i args ts hop
  split at hc
  ·rename_i x t ha ht
   split at hc
   ·rename_i e hu
    simp only [Option.some.injEq] at hc; subst hc
    obtain ⟨rfl, hv⟩ := arr_of he
    have hx := opx_sound hs x
    simp only [List.map_cons, List.map_nil] at hv
    have ha' : args = #[x] := by apply Array.ext'; simpa using ha
    have ht' : ts = #[t] := by apply Array.ext'; simpa using ht
    subst ha'; subst ht'
    generalize s.val (opx x) = px at hv hx
    rcases arrV_cap_inv hv with ⟨o', off, n, cp, rfl, rfl⟩ | ⟨rfl, rfl⟩
    ·obtain ⟨L, ad, g1, g2, g3, g4, g5⟩ := hx.asl_inv
     exact Out.same R (v := .int .i64 cp) (by simp [execOp, hop, resolve, invoke, builtin, g5, Builtin.cap_, run_underlying hu, goInt]) (.int _ _)
    ·exact Out.same R (v := .int .i64 0) (by simp [execOp, hop, resolve, invoke, builtin, hx.nils_inv, Builtin.cap_, run_underlying hu, goInt]) (.int _ _)
   ·cases hc
  ·cases hc
 ·cases hc
end
end Go.Proofs.YtdgpiobmncohjaaGreatDoor.Aw
