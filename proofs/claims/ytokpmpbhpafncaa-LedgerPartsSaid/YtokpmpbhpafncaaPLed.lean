/-
  A ledger in memory, and what its functions do to it.
-/
import Derived.Test.YtokpmpbhpafncaaMLed
import Derived.Test.YtokpmpbhpafncaaPSort
set_option linter.unusedSimpArgs false
set_option linter.unusedVariables false
namespace Go.Proofs.Ytokpmpbhpafncaa.Aw
open Go.RowKit

def entE (e : Nat × Acc × Nat) : Nat × Int × PV := (e.1, e.2.1.id, .ref e.2.2 0)
/-- A ledger: its box, its map, its accounts. -/
structure LedAt (ob : List AObj) (b m ck : Nat) (E : List (Nat × Acc × Nat)) (cap : Int) (A : List Acc) : Prop where
  hb : ob[b]? = some (.box [.int .i64 cap, .mp m])
  hm : ob[m]? = some (.map ck (E.map entE))
  ok : MapOk ck (E.map entE)
  acc : ∀ e ∈ E, ob[e.2.2]? = some (.box (row2 e.2.1))
  adr : (E.map (·.2.2)).Nodup
  mem : ∀ a, a ∈ A ↔ a ∈ E.map (·.2.1)
  led : LedOk cap A
def fpE (b m : Nat) (E : List (Nat × Acc × Nat)) : List Nat := b :: m :: E.map (·.2.2)
def Led (ob : List AObj) (fp : List Nat) (b : Nat) (cap : Int) (A : List Acc) : Prop := ∃ m ck E, LedAt ob b m ck E cap A ∧ fp = fpE b m E
/-- What lies outside stays; what is new lies behind. -/
structure Frame (ob : List AObj) (fp : List Nat) (ob' : List AObj) (fp' : List Nat) : Prop where
  len : ob.length ≤ ob'.length
  out : ∀ i, i < ob.length → i ∉ fp → ob'[i]? = ob[i]?
  new : ∀ i ∈ fp', i ∈ fp ∨ ob.length ≤ i

theorem lt_of_get {ob : List AObj} {i : Nat} {a : AObj} (h : ob[i]? = some a) : i < ob.length := (List.getElem?_eq_some_iff.1 h).1
theorem Frame.refl (ob : List AObj) (fp : List Nat) : Frame ob fp ob fp := ⟨Nat.le_refl _, fun _ _ _ => rfl, fun _ h => .inl h⟩
theorem Frame.app (ob ex : List AObj) (fp : List Nat) : Frame ob fp (ob ++ ex) fp := ⟨by simp, fun i h _ => List.getElem?_append_left h, fun _ h => .inl h⟩
theorem Frame.trans {ob ob' ob'' : List AObj} {fp fp' fp'' : List Nat} (h : Frame ob fp ob' fp') (k : Frame ob' fp' ob'' fp'') : Frame ob fp ob'' fp'' := by
  refine ⟨Nat.le_trans h.len k.len, fun i hi hn => ?_, fun i hi => ?_⟩
  · rw [k.out i (Nat.lt_of_lt_of_le hi h.len) (fun hc => ?_), h.out i hi hn]
    rcases h.new i hc with h1 | h1
    · exact hn h1
    · omega
  · rcases k.new i hi with h1 | h1
    · exact h.new i h1
    · exact .inr (Nat.le_trans h.len h1)
theorem Led.lt {ob fp b cap A} (h : Led ob fp b cap A) : ∀ i ∈ fp, i < ob.length := by
  obtain ⟨m, ck, E, h, rfl⟩ := h
  intro i hi
  simp only [fpE, List.mem_cons, List.mem_map] at hi
  rcases hi with rfl | rfl | ⟨e, he, rfl⟩
  · exact lt_of_get h.hb
  · exact lt_of_get h.hm
  · exact lt_of_get (h.acc e he)
/-- Another ledger stays. -/
theorem Led.keep {ob ob' : List AObj} {fp : List Nat} {b : Nat} {cap : Int} {A : List Acc} (h : Led ob fp b cap A) (hk : ∀ i ∈ fp, ob'[i]? = ob[i]?) : Led ob' fp b cap A := by
  obtain ⟨m, ck, E, h, rfl⟩ := h
  refine ⟨m, ck, E, ⟨(hk _ (by simp [fpE])).trans h.hb, (hk _ (by simp [fpE])).trans h.hm, h.ok, fun e he => (hk _ (by simp only [fpE, List.mem_cons, List.mem_map]; exact .inr (.inr ⟨e, he, rfl⟩))).trans (h.acc e he), h.adr, h.mem, h.led⟩, rfl⟩
theorem Led.frame {ob ob' : List AObj} {fp fp1 fp1' : List Nat} {b : Nat} {cap : Int} {A : List Acc} (h : Led ob fp b cap A) (hd : ∀ i ∈ fp, i ∉ fp1) (hf : Frame ob fp1 ob' fp1') : Led ob' fp b cap A ∧ ∀ i ∈ fp, i ∉ fp1' :=
  ⟨h.keep fun i hi => hf.out i (h.lt i hi) (hd i hi), fun i hi hc => by
    rcases hf.new i hc with h1 | h1
    · exact hd i hi h1
    · have := h.lt i hi; omega⟩
theorem Led.app {ob ex : List AObj} {fp : List Nat} {b : Nat} {cap : Int} {A : List Acc} (h : Led ob fp b cap A) : Led (ob ++ ex) fp b cap A := h.keep fun i hi => List.getElem?_append_left (h.lt i hi)

/- keys -/
theorem mGet_in : ∀ {E : List (Nat × Acc × Nat)}, ((E.map entE).map (·.2.1)).Nodup → ∀ e ∈ E, mGet e.2.1.id (E.map entE) = some (.ref e.2.2 0)
  | [], _, e, h => by cases h
  | x :: r, hn, e, h => by
    simp only [List.map_cons, List.nodup_cons] at hn
    simp only [List.map_cons, mGet]
    rcases List.mem_cons.1 h with rfl | h'
    · exact if_pos rfl
    · rw [if_neg, mGet_in hn.2 e h']
      intro hc
      apply hn.1
      simp only [List.mem_map]
      exact ⟨entE e, ⟨e, h', rfl⟩, hc⟩
theorem mGet_out {id : Int} : ∀ {E : List (Nat × Acc × Nat)}, (∀ e ∈ E, e.2.1.id ≠ id) → mGet id (E.map entE) = none
  | [], _ => rfl
  | x :: r, h => by
    simp only [List.map_cons, mGet]
    rw [if_neg (fun hc => h x (by simp) hc.symm), mGet_out fun e he => h e (List.mem_cons_of_mem _ he)]
theorem LedAt.get {ob b m ck E cap A} (h : LedAt ob b m ck E cap A) {id : Int} {a : Acc} (ha : getA id A = some a) : ∃ e ∈ E, e.2.1 = a ∧ mGet id (E.map entE) = some (.ref e.2.2 0) := by
  obtain ⟨h1, h2⟩ := getA_some ha
  obtain ⟨e, he, rfl⟩ := List.mem_map.1 ((h.mem a).1 h1)
  exact ⟨e, he, rfl, by rw [← h2]; exact mGet_in h.ok.kd e he⟩
theorem LedAt.getN {ob b m ck E cap A} (h : LedAt ob b m ck E cap A) {id : Int} (ha : getA id A = none) : mGet id (E.map entE) = none :=
  mGet_out fun e he => getA_none ha e.2.1 ((h.mem _).2 (List.mem_map_of_mem he))

/- lengths, and the keys in their order -/
theorem LedAt.perm {ob b m ck E cap A} (h : LedAt ob b m ck E cap A) : (E.map (·.2.1)).Perm A := by
  have h1 : (E.map (·.2.1)).Nodup := by
    have := h.ok.kd
    rw [List.map_map] at this
    rw [List.nodup_iff_pairwise_ne, List.pairwise_map] at this ⊢
    exact this.imp fun hne e => hne (congrArg Acc.id e)
  have h2 : A.Nodup := by
    rw [List.nodup_iff_pairwise_ne]
    exact h.led.srt.imp fun hlt e => by rw [e] at hlt; omega
  exact (List.perm_ext_iff_of_nodup h1 h2).2 fun a => (h.mem a).symm
theorem LedAt.len {ob b m ck E cap A} (h : LedAt ob b m ck E cap A) : E.length = A.length := by have := h.perm.length_eq; simpa using this
theorem LedAt.sortK {ob b m ck E cap A} (h : LedAt ob b m ck E cap A) : Aw.sortK (E.map entE) = A.map (·.id) := by
  have h1 : ((E.map entE).map (·.2.1)).Perm (A.map (·.id)) := by
    have := h.perm.map (·.id)
    simpa [entE, Function.comp_def] using this
  rw [Aw.sortK, mergeSort_of_perm_i h1]
  apply List.mergeSort_of_pairwise
  rw [List.pairwise_map]
  exact h.led.srt.imp fun hlt => by simp only [decide_eq_true_eq]; omega

/- changes -/
def updE (ad : Nat) (a : Acc) (E : List (Nat × Acc × Nat)) : List (Nat × Acc × Nat) := E.map fun x => if x.2.2 = ad then (x.1, a, x.2.2) else x
theorem updE_addr (ad a) : ∀ E, (updE ad a E).map (·.2.2) = E.map (·.2.2) := fun E => by
  rw [updE, List.map_map]; apply List.map_congr_left; intro x _; simp only [Function.comp]; split <;> rfl
theorem adr_inj {E : List (Nat × Acc × Nat)} (h : (E.map (·.2.2)).Nodup) {x y : Nat × Acc × Nat} (hx : x ∈ E) (hy : y ∈ E) (he : x.2.2 = y.2.2) : x = y := by
  induction E with
  | nil => cases hx
  | cons z r ih =>
    rw [List.map_cons, List.nodup_cons] at h
    rcases List.mem_cons.1 hx with rfl | hx' <;> rcases List.mem_cons.1 hy with rfl | hy'
    · rfl
    · exact absurd (List.mem_map.2 ⟨y, hy', he.symm⟩) h.1
    · exact absurd (List.mem_map.2 ⟨x, hx', he⟩) h.1
    · exact ih h.2 hx' hy'
theorem key_inj {E : List (Nat × Acc × Nat)} (h : ((E.map entE).map (·.2.1)).Nodup) {x y : Nat × Acc × Nat} (hx : x ∈ E) (hy : y ∈ E) (he : x.2.1.id = y.2.1.id) : x = y := by
  induction E with
  | nil => cases hx
  | cons z r ih =>
    rw [List.map_cons, List.map_cons, List.nodup_cons] at h
    rcases List.mem_cons.1 hx with rfl | hx' <;> rcases List.mem_cons.1 hy with rfl | hy'
    · rfl
    · exact absurd (List.mem_map.2 ⟨entE y, List.mem_map_of_mem hy', he.symm⟩) h.1
    · exact absurd (List.mem_map.2 ⟨entE x, List.mem_map_of_mem hx', he⟩) h.1
    · exact ih h.2 hx' hy'
theorem LedAt.upd {ob b m ck E cap A} (h : LedAt ob b m ck E cap A) {e : Nat × Acc × Nat} (he : e ∈ E) {a : Acc} (hid : a.id = e.2.1.id) (ok : LedOk cap (insA a (delA e.2.1.id A))) :
    LedAt (ob.set e.2.2 (.box (row2 a))) b m ck (updE e.2.2 a E) cap (insA a (delA e.2.1.id A)) := by
  have hacc := h.acc e he
  have hlt := lt_of_get hacc
  have hnb : e.2.2 ≠ b := fun c => by have := h.hb; rw [← c, hacc] at this; simp [row2] at this
  have hnm : e.2.2 ≠ m := fun c => by have := h.hm; rw [← c, hacc] at this; cases this
  have hes : (updE e.2.2 a E).map entE = E.map entE := by
    rw [updE, List.map_map]; apply List.map_congr_left; intro x hx
    simp only [Function.comp]
    split
    · rename_i hc
      have := adr_inj h.adr hx he hc
      subst this
      simp [entE, hid]
    · rfl
  refine ⟨by rw [List.getElem?_set_ne hnb]; exact h.hb, by rw [List.getElem?_set_ne hnm, hes]; exact h.hm, by rw [hes]; exact h.ok, ?_, by rw [updE_addr]; exact h.adr, ?_, ok⟩
  · intro x hx
    obtain ⟨y, hy, rfl⟩ := List.mem_map.1 hx
    split
    · rename_i hc
      show (ob.set e.2.2 _)[y.2.2]? = _
      rw [hc, List.getElem?_set_self hlt]
    · rename_i hc
      rw [List.getElem?_set_ne (fun c => hc c.symm)]; exact h.acc y hy
  · intro x
    rw [mem_insA, mem_delA, h.mem]
    simp only [List.mem_map, updE]
    constructor
    · rintro (rfl | ⟨⟨y, hy, rfl⟩, hne⟩)
      · exact ⟨(e.1, x, e.2.2), ⟨e, he, by rw [if_pos rfl]⟩, rfl⟩
      · exact ⟨y, ⟨y, hy, by rw [if_neg]; intro hc; exact hne (congrArg (·.2.1.id) (adr_inj h.adr hy he hc))⟩, rfl⟩
    · rintro ⟨z, ⟨y, hy, rfl⟩, rfl⟩
      split
      · exact .inl rfl
      · rename_i hc
        exact .inr ⟨⟨y, hy, rfl⟩, fun hi => hc (congrArg (·.2.2) (key_inj h.ok.kd hy he hi))⟩
theorem fpE_upd (b m ad a E) : fpE b m (updE ad a E) = fpE b m E := by rw [fpE, fpE, updE_addr]
def delE (id : Int) (E : List (Nat × Acc × Nat)) : List (Nat × Acc × Nat) := E.filter fun e => decide (e.2.1.id ≠ id)
theorem mDel_map {id : Int} : ∀ {E : List (Nat × Acc × Nat)}, ((E.map entE).map (·.2.1)).Nodup → mDel id (E.map entE) = (delE id E).map entE
  | [], _ => rfl
  | x :: r, h => by
    simp only [List.map_cons, List.nodup_cons] at h
    simp only [List.map_cons, mDel, delE, List.filter_cons]
    by_cases hc : id = (entE x).2.1
    · rw [if_pos hc, if_neg (by simp; exact hc.symm), List.filter_eq_self.2]
      intro y hy
      simp only [decide_eq_true_eq]
      intro hy2
      apply h.1
      simp only [List.mem_map]
      exact ⟨entE y, ⟨y, hy, rfl⟩, by rw [← hc]; exact hy2⟩
    · rw [if_neg hc, if_pos (by simp; exact fun e => hc e.symm), mDel_map h.2]; rfl
theorem LedAt.del {ob b m ck E cap A} (h : LedAt ob b m ck E cap A) {id : Int} (ok : LedOk cap (delA id A)) :
    LedAt (ob.set m (.map ck (mDel id (E.map entE)))) b m ck (delE id E) cap (delA id A) := by
  have hlt := lt_of_get h.hm
  have hsub : (delE id E).Sublist E := List.filter_sublist
  refine ⟨?_, ?_, ⟨fun e he => ?_, ?_, ?_, fun e he => ?_, ?_⟩, fun e he => ?_, ?_, ?_, ok⟩
  · rw [List.getElem?_set_ne]; exact h.hb
    intro c; have := h.hb; rw [← c, h.hm] at this; cases this
  · rw [List.getElem?_set_self hlt, mDel_map h.ok.kd]
  · obtain ⟨x, hx, rfl⟩ := List.mem_map.1 he
    exact h.ok.lt _ (List.mem_map_of_mem (hsub.subset hx))
  · exact List.Pairwise.sublist ((hsub.map entE).map _) h.ok.nd
  · exact List.Pairwise.sublist ((hsub.map entE).map _) h.ok.kd
  · obtain ⟨x, hx, rfl⟩ := List.mem_map.1 he
    exact h.ok.kw _ (List.mem_map_of_mem (hsub.subset hx))
  · have := (hsub.map entE).length_le; have := h.ok.sz; omega
  · have hm := hsub.subset he
    rw [List.getElem?_set_ne]; exact h.acc e hm
    intro c; have := h.acc e hm; rw [← c, h.hm] at this; cases this
  · exact List.Pairwise.sublist (hsub.map _) h.adr
  · intro x
    rw [mem_delA, h.mem]
    simp only [List.mem_map, delE, List.mem_filter, decide_eq_true_eq]
    constructor
    · rintro ⟨⟨y, hy, rfl⟩, hne⟩; exact ⟨y, ⟨hy, hne⟩, rfl⟩
    · rintro ⟨y, ⟨hy, hne⟩, rfl⟩; exact ⟨⟨y, hy, rfl⟩, hne⟩
theorem wf_small {n : Int} (h0 : 0 ≤ n) (h1 : n ≤ 100000000) : (Lit.int .i64 n).wf = true := by
  have e1 : IntKind.i64.min = -9223372036854775808 := by decide
  have e2 : IntKind.i64.max = 9223372036854775807 := by decide
  simp only [Lit.wf, e1, e2, Bool.and_eq_true, decide_eq_true_eq]
  omega
theorem LedAt.add {ob b m ck E cap A} (h : LedAt ob b m ck E cap A) {a : Acc} (hn : getA a.id A = none) (ok : LedOk cap (insA a A)) :
    LedAt ((ob ++ [AObj.box (row2 a)]).set m (.map (ck + 1) (E.map entE ++ [(ck, a.id, PV.ref ob.length 0)]))) b m (ck + 1) (E ++ [(ck, a, ob.length)]) cap (insA a A) := by
  have hlm := lt_of_get h.hm
  have hlb := lt_of_get h.hb
  have hE : ∀ e ∈ E, e.2.1.id ≠ a.id := fun e he => getA_none hn e.2.1 ((h.mem _).2 (List.mem_map_of_mem he))
  have hEl : ∀ e ∈ E, e.2.2 < ob.length := fun e he => lt_of_get (h.acc e he)
  have hmap : (E ++ [(ck, a, ob.length)]).map entE = E.map entE ++ [(ck, a.id, PV.ref ob.length 0)] := by simp [entE]
  have hai := ok.ids a (mem_insA.2 (.inl rfl))
  have hlen := h.len
  have hl8 := h.led.len
  refine ⟨?_, ?_, ⟨fun e he => ?_, ?_, ?_, fun e he => ?_, ?_⟩, fun e he => ?_, ?_, ?_, ok⟩
  · rw [List.getElem?_set_ne, List.getElem?_append_left hlb]; exact h.hb
    intro c; have := h.hb; rw [← c, h.hm] at this; cases this
  · rw [List.getElem?_set_self (by simp; omega), hmap]
  · rw [hmap] at he
    rcases List.mem_append.1 he with he | he
    · exact Nat.lt_succ_of_lt (h.ok.lt e he)
    · simp only [List.mem_singleton] at he; subst he; exact Nat.lt_succ_self _
  · rw [hmap, List.map_append, List.nodup_append]
    refine ⟨h.ok.nd, by simp, fun x hx y hy => ?_⟩
    obtain ⟨e, he, rfl⟩ := List.mem_map.1 hx
    simp only [List.map_cons, List.map_nil, List.mem_singleton] at hy
    subst hy
    have := h.ok.lt e he; omega
  · rw [hmap, List.map_append, List.nodup_append]
    refine ⟨h.ok.kd, by simp, fun x hx y hy => ?_⟩
    obtain ⟨e, he, rfl⟩ := List.mem_map.1 hx
    obtain ⟨z, hz, rfl⟩ := List.mem_map.1 he
    simp only [List.map_cons, List.map_nil, List.mem_singleton] at hy
    subst hy
    exact hE z hz
  · rw [hmap] at he
    rcases List.mem_append.1 he with he | he
    · exact h.ok.kw e he
    · simp only [List.mem_singleton] at he; subst he
      exact wf_small (by show 0 ≤ a.id; omega) (by show a.id ≤ _; omega)
  · rw [hmap]; simp; omega
  · rcases List.mem_append.1 he with he | he
    · have := hEl e he
      rw [List.getElem?_set_ne, List.getElem?_append_left this]; exact h.acc e he
      intro c; have := h.acc e he; rw [← c, h.hm] at this; cases this
    · simp only [List.mem_singleton] at he; subst he
      show ((ob ++ _).set m _)[ob.length]? = _
      rw [List.getElem?_set_ne (by omega)]; simp
  · rw [List.map_append, List.nodup_append]
    refine ⟨h.adr, by simp, fun x hx y hy => ?_⟩
    obtain ⟨e, he, rfl⟩ := List.mem_map.1 hx
    simp only [List.map_cons, List.map_nil, List.mem_singleton] at hy
    subst hy
    have := hEl e he; omega
  · intro x
    rw [mem_insA, h.mem]
    simp only [List.map_append, List.mem_append, List.map_cons, List.map_nil, List.mem_singleton]
    exact ⟨fun h => h.elim .inr .inl, fun h => h.elim .inr .inl⟩

/- the functions -/
theorem new_i (ob : List AObj) (cap : Int) (h1 : cap ≤ 9223372036854775807) : ICall Try.prog 9 [.int .i64 cap] ob fun r ob' => ∃ fp, r = .ref (ob.length + 1) 0 ∧ Led ob' fp (ob.length + 1) (max cap 0) [] ∧ Frame ob [] ob' fp := by
  refine icall_dr Try.func9 comp_ledger_New ?_
  simp (config := {maxSteps := 4000000}) only [U_ledger_New, reduceIte, reduceCtorEq, Nat.reduceEqDiff, Nat.reduceAdd, Int.reduceLT, Int.reduceLE, Int.reduceNeg, Int.reduceEq, Nat.reduceLT, Nat.reduceSub, Nat.reduceMul, Nat.reduceBEq, Nat.reduceLeDiff, Int.reduceBEq, Int.reduceBNe, Int.reduceToNat, ne_eq, implies_true, bA]
  refine ⟨_, rfl, fpE (ob.length + 1) ob.length [], rfl, ⟨ob.length, 0, [], ⟨by simp, by simp, ⟨by simp, by simp, by simp, by simp, by simp⟩, by simp, by simp, by simp, LedOk.new _ (by omega) (by omega)⟩, rfl⟩, ⟨by simp, fun i hi _ => List.getElem?_append_left hi, fun i hi => ?_⟩⟩
  simp only [fpE, List.map_nil, List.mem_cons, List.not_mem_nil, or_false] at hi
  right; omega
theorem get_i {ob b m ck E cap A} (h : LedAt ob b m ck E cap A) (id : Int) : ICall Try.prog 24 [.ref b 0, .int .i64 id] ob fun r ob' => ob' = ob ∧
    ((∃ e ∈ E, getA id A = some e.2.1 ∧ r = .tup [.ref e.2.2 0, .int .i64 0]) ∨ (getA id A = none ∧ r = .tup [.nilp, .int .i64 4])) := by
  refine icall_dr Try.func24 comp_ledger_Ledger_get ?_
  have hb := h.hb
  have hm := h.hm
  cases hg : getA id A with
  | some a =>
    obtain ⟨e, he, rfl, hk⟩ := h.get hg
    simp (config := {maxSteps := 4000000}) only [U_ledger_Ledger_get, hb, hm, hk, reduceIte, reduceCtorEq, Nat.reduceEqDiff, Nat.reduceAdd, Int.reduceLT, Int.reduceLE, Int.reduceNeg, Int.reduceEq, Nat.reduceLT, Nat.reduceSub, Nat.reduceMul, Nat.reduceBEq, Nat.reduceLeDiff, Int.reduceBEq, Int.reduceBNe, Int.reduceToNat, ne_eq, implies_true, bA]
    exact ⟨_, rfl, .inl ⟨e, he, rfl, rfl⟩⟩
  | none =>
    have hk := h.getN hg
    simp (config := {maxSteps := 4000000}) only [U_ledger_Ledger_get, hb, hm, hk, reduceIte, reduceCtorEq, Nat.reduceEqDiff, Nat.reduceAdd, Int.reduceLT, Int.reduceLE, Int.reduceNeg, Int.reduceEq, Nat.reduceLT, Nat.reduceSub, Nat.reduceMul, Nat.reduceBEq, Nat.reduceLeDiff, Int.reduceBEq, Int.reduceBNe, Int.reduceToNat, ne_eq, implies_true, bA]
    exact ⟨_, rfl, .inr rfl⟩
theorem getNil_i (ob : List AObj) (id : Int) : ICall Try.prog 24 [.nilp, .int .i64 id] ob fun r ob' => r = .tup [.nilp, .int .i64 1] ∧ ob' = ob := by
  refine icall_dr Try.func24 comp_ledger_Ledger_get ?_
  simp (config := {maxSteps := 4000000}) only [U_ledger_Ledger_get, reduceIte, reduceCtorEq, Nat.reduceEqDiff, Nat.reduceAdd, Int.reduceLT, Int.reduceLE, Int.reduceNeg, Int.reduceEq, Nat.reduceLT, Nat.reduceSub, Nat.reduceMul, Nat.reduceBEq, Nat.reduceLeDiff, Int.reduceBEq, Int.reduceBNe, Int.reduceToNat, ne_eq, implies_true, bA]
  exact ⟨_, rfl, rfl⟩
theorem keys_i (ob : List AObj) (m : Nat) : ICall Try.prog 26 [.mp m] ob fun r ob' => r = .fn (.func 35) [] [.ref ob.length 0] ∧ ob' = ob ++ [.box [.mp m]] := by
  refine icall_dr Try.func26 comp_maps_Keys_ledger_account ?_
  simp (config := {maxSteps := 4000000}) only [U_maps_Keys_ledger_account, reduceIte, reduceCtorEq, Nat.reduceEqDiff, Nat.reduceAdd, Int.reduceLT, Int.reduceLE, Int.reduceNeg, Int.reduceEq, Nat.reduceLT, Nat.reduceSub, Nat.reduceMul, Nat.reduceBEq, Nat.reduceLeDiff, Int.reduceBEq, Int.reduceBNe, Int.reduceToNat, ne_eq, implies_true, bA]
  exact ⟨_, rfl, rfl⟩
theorem ids_i {ob b m ck E cap A} (h : LedAt ob b m ck E cap A) : ICall Try.prog 16 [.ref b 0] ob fun r ob' => r = .osl (ob.length + 1) 0 A.length ∧ ob' = ob ++ [.box [.mp m], .list 1 (rowsZ .i64 (A.map (·.id)))] := by
  refine icall_dr Try.func16 comp_ledger_Ledger_IDs ?_
  have hb := h.hb
  simp (config := {maxSteps := 4000000}) only [U_ledger_Ledger_IDs, hb, reduceIte, reduceCtorEq, Nat.reduceEqDiff, Nat.reduceAdd, Int.reduceLT, Int.reduceLE, Int.reduceNeg, Int.reduceEq, Nat.reduceLT, Nat.reduceSub, Nat.reduceMul, Nat.reduceBEq, Nat.reduceLeDiff, Int.reduceBEq, Int.reduceBNe, Int.reduceToNat, ne_eq, implies_true, bA]
  refine callM (keys_i ob m) ?_
  rintro r ob' ⟨rfl, rfl⟩
  simp (config := {maxSteps := 4000000}) only [U_ledger_Ledger_IDs, reduceIte, reduceCtorEq, Nat.reduceEqDiff, Nat.reduceAdd, Int.reduceLT, Int.reduceLE, Int.reduceNeg, Int.reduceEq, Nat.reduceLT, Nat.reduceSub, Nat.reduceMul, Nat.reduceBEq, Nat.reduceLeDiff, Int.reduceBEq, Int.reduceBNe, Int.reduceToNat, ne_eq, implies_true, bA]
  refine callM (sorted_icall (m := m) (ck := ck) (es := E.map entE) (by simp) (by rw [List.getElem?_append_left (lt_of_get h.hm)]; exact h.hm) h.ok) ?_
  rintro r ob' ⟨rfl, rfl⟩
  rw [h.sortK]
  simp (config := {maxSteps := 4000000}) only [U_ledger_Ledger_IDs, reduceIte, reduceCtorEq, Nat.reduceEqDiff, Nat.reduceAdd, Int.reduceLT, Int.reduceLE, Int.reduceNeg, Int.reduceEq, Nat.reduceLT, Nat.reduceSub, Nat.reduceMul, Nat.reduceBEq, Nat.reduceLeDiff, Int.reduceBEq, Int.reduceBNe, Int.reduceToNat, ne_eq, implies_true, bA]
  exact ⟨_, rfl, by rw [h.len]⟩
theorem total_i {ob b m ck E cap A} (h : LedAt ob b m ck E cap A) : ICall Try.prog 13 [.ref b 0] ob fun r ob' => r = .int .i64 (sumA A) ∧ ∃ ex, ob' = ob ++ ex := by
  refine icall_dr Try.func13 comp_ledger_Ledger_Total ?_
  simp (config := {maxSteps := 4000000}) only [U_ledger_Ledger_Total, reduceIte, reduceCtorEq, Nat.reduceEqDiff, Nat.reduceAdd, Int.reduceLT, Int.reduceLE, Int.reduceNeg, Int.reduceEq, Nat.reduceLT, Nat.reduceSub, Nat.reduceMul, Nat.reduceBEq, Nat.reduceLeDiff, Int.reduceBEq, Int.reduceBNe, Int.reduceToNat, ne_eq, implies_true, bA]
  refine callM (ids_i h) ?_
  rintro r ob' ⟨rfl, rfl⟩
  obtain ⟨ob2, hob2⟩ : ∃ ob2, ob ++ [AObj.box [.mp m], .list 1 (rowsZ .i64 (A.map (·.id)))] = ob2 := ⟨_, rfl⟩
  have hn : ob2[ob.length + 1]? = some (.list 1 (rowsZ .i64 (A.map (·.id)))) := by rw [← hob2]; simp
  have hb : ob2[b]? = some (.box [.int .i64 cap, .mp m]) := by rw [← hob2, List.getElem?_append_left (lt_of_get h.hb)]; exact h.hb
  have hm : ob2[m]? = some (.map ck (E.map entE)) := by rw [← hob2, List.getElem?_append_left (lt_of_get h.hm)]; exact h.hm
  have hacc : ∀ e ∈ E, ob2[e.2.2]? = some (.box (row2 e.2.1)) := fun e he => by rw [← hob2, List.getElem?_append_left (lt_of_get (h.acc e he))]; exact h.acc e he
  rw [hob2]
  have hl : (rowsZ .i64 (A.map (·.id))).length = A.length := by simp [rowsZ]
  have h8 := h.led.len
  have hr : rowsO (some (AObj.list 1 (rowsZ .i64 (A.map (·.id))))) 0 A.length = some (rowsZ .i64 (A.map (·.id))) := rowsO_all hl.symm
  have hrl : ((rowsZ .i64 (A.map (·.id))).length : Int) = (A.length : Int) := by rw [hl]
  simp (config := {maxSteps := 4000000}) only [U_ledger_Ledger_Total, hn, hr, hrl, reduceIte, reduceCtorEq, Nat.reduceEqDiff, Nat.reduceAdd, Int.reduceLT, Int.reduceLE, Int.reduceNeg, Int.reduceEq, Nat.reduceLT, Nat.reduceSub, Nat.reduceMul, Nat.reduceBEq, Nat.reduceLeDiff, Int.reduceBEq, Int.reduceBNe, Int.reduceToNat, ne_eq, implies_true, bA]
  refine loopF (fun i : Nat => ⟨ofL [(0, .ref b 0), (3, .int .i64 (sumA (A.take i))), (7, .osl (ob.length + 1) 0 A.length), (8, .int .i64 (A.length : Int)), (9, .int .i64 (i : Int))], ob2⟩) (fun i => i ≤ A.length) (fun i => A.length - i) 0 ?_ (Nat.zero_le _) ?_
  · simp (config := {maxSteps := 4000000}) only [U_ledger_Ledger_Total, reduceIte, reduceCtorEq, Nat.reduceEqDiff, Nat.reduceAdd, Int.reduceLT, Int.reduceLE, Int.reduceNeg, Int.reduceEq, Nat.reduceLT, Nat.reduceSub, Nat.reduceMul, Nat.reduceBEq, Nat.reduceLeDiff, Int.reduceBEq, Int.reduceBNe, Int.reduceToNat, ne_eq, implies_true, bA]
    all_goals rfl
  · intro i hi
    by_cases hlt : i < A.length
    · have d : decide ((i : Int) < (A.length : Int)) = true := by simpa using hlt
      have hlt' : i < (A.map (·.id)).length := by simpa using hlt
      have hid : (A.map (·.id))[i] = A[i].id := by simp
      have i1 := islO_map (g := fun n : Int => [PV.int .i64 n]) (l := A.map (·.id)) (e := 1) (o := ob.length + 1) (m := A.length) (k := .i64) (by simp) hlt'
      have i2 := ldL_map (g := fun n : Int => [PV.int .i64 n]) (l := A.map (·.id)) (e := 1) (len := A.length) (off := 0) (n := 1) (by simp) hlt' (by simp)
      rw [hid] at i2
      obtain ⟨e, he, hea, hk⟩ := h.get (getA_mem h.led.srt (List.getElem_mem hlt))
      have he2 := hacc e he
      rw [hea] at he2
      have hu := (sumA_take h.led.use (i + 1))
      have hu0 := (sumA_take h.led.use i)
      have hsum := h.led.sum
      have hc1 := h.led.c1
      have hge := sumA_get hlt
      have e1 : IntKind.i64.wrap (sumA (A.take i) + A[i].used) = sumA (A.take (i + 1)) := by rw [wrapI (by omega) (by omega), hge]
      have e2 : IntKind.i64.wrap ((i : Int) + 1) = ((i + 1 : Nat) : Int) := by rw [wrapI (by omega) (by omega)]; omega
      simp (config := {maxSteps := 4000000}) only [U_ledger_Ledger_Total, d, hn, i1, i2, hb, hm, hk, he2, row2, e1, e2, rowsZ, reduceIte, reduceCtorEq, Nat.reduceEqDiff, Nat.reduceAdd, Int.reduceLT, Int.reduceLE, Int.reduceNeg, Int.reduceEq, Nat.reduceLT, Nat.reduceSub, Nat.reduceMul, Nat.reduceBEq, Nat.reduceLeDiff, Int.reduceBEq, Int.reduceBNe, Int.reduceToNat, ne_eq, implies_true, bA]
      exact ⟨i + 1, rfl, hlt, by omega⟩
    · have d : decide ((i : Int) < (A.length : Int)) = false := by simpa using hlt
      have hA : A.take i = A := List.take_of_length_le (by omega)
      simp (config := {maxSteps := 4000000}) only [U_ledger_Ledger_Total, d, hA, reduceIte, reduceCtorEq, Nat.reduceEqDiff, Nat.reduceAdd, Int.reduceLT, Int.reduceLE, Int.reduceNeg, Int.reduceEq, Nat.reduceLT, Nat.reduceSub, Nat.reduceMul, Nat.reduceBEq, Nat.reduceLeDiff, Int.reduceBEq, Int.reduceBNe, Int.reduceToNat, ne_eq, implies_true, bA]
      exact ⟨_, rfl, rfl, _, hob2.symm⟩
theorem total_r {ob b m ck E cap A} (h : LedAt ob b m ck E cap A) : RCall Try.prog 13 [.ref b 0] ob (.int .i64 (sumA A)) := RCall.of (total_i h) (fun r ob' h => h) rfl
theorem left_r {ob b m ck E cap A} (h : LedAt ob b m ck E cap A) : RCall Try.prog 14 [.ref b 0] ob (.int .i64 (cap - sumA A)) := by
  refine RCall.of (K := fun r ob' => r = .int .i64 (cap - sumA A) ∧ ob' = ob) ?_ (fun r ob' h => ⟨h.1, [], by rw [h.2]; simp⟩) rfl
  refine icall_dr Try.func14 comp_ledger_Ledger_Left ?_
  have hb := h.hb
  have h0 := sumA_nn h.led.use
  have h1 := h.led.c0
  have h2 := h.led.c1
  have h3 := h.led.sum
  have e1 : IntKind.i64.wrap (cap - sumA A) = cap - sumA A := wrapI (by omega) (by omega)
  simp (config := {maxSteps := 4000000}) only [U_ledger_Ledger_Left, hb, reduceIte, reduceCtorEq, Nat.reduceEqDiff, Nat.reduceAdd, Int.reduceLT, Int.reduceLE, Int.reduceNeg, Int.reduceEq, Nat.reduceLT, Nat.reduceSub, Nat.reduceMul, Nat.reduceBEq, Nat.reduceLeDiff, Int.reduceBEq, Int.reduceBNe, Int.reduceToNat, ne_eq, implies_true, bA]
  refine callR (total_r h) ?_
  simp (config := {maxSteps := 4000000}) only [U_ledger_Ledger_Left, e1, reduceIte, reduceCtorEq, Nat.reduceEqDiff, Nat.reduceAdd, Int.reduceLT, Int.reduceLE, Int.reduceNeg, Int.reduceEq, Nat.reduceLT, Nat.reduceSub, Nat.reduceMul, Nat.reduceBEq, Nat.reduceLeDiff, Int.reduceBEq, Int.reduceBNe, Int.reduceToNat, ne_eq, implies_true, bA]
  exact ⟨_, rfl, rfl⟩
theorem of_r {ob b m ck E cap A} (h : LedAt ob b m ck E cap A) (id : Int) : RCall Try.prog 17 [.ref b 0, .int .i64 id] ob (.tup [.int .i64 (ofS A id).1, .int .i64 (ofS A id).2.1, .int .i64 (ofS A id).2.2]) := by
  refine RCall.of (K := fun r ob' => r = .tup [.int .i64 (ofS A id).1, .int .i64 (ofS A id).2.1, .int .i64 (ofS A id).2.2] ∧ ob' = ob) ?_ (fun r ob' h => ⟨h.1, [], by rw [h.2]; simp⟩) rfl
  refine icall_dr Try.func17 comp_ledger_Ledger_Of ?_
  simp (config := {maxSteps := 4000000}) only [U_ledger_Ledger_Of, reduceIte, reduceCtorEq, Nat.reduceEqDiff, Nat.reduceAdd, Int.reduceLT, Int.reduceLE, Int.reduceNeg, Int.reduceEq, Nat.reduceLT, Nat.reduceSub, Nat.reduceMul, Nat.reduceBEq, Nat.reduceLeDiff, Int.reduceBEq, Int.reduceBNe, Int.reduceToNat, ne_eq, implies_true, bA]
  refine callM (get_i h id) ?_
  rintro r ob' ⟨rfl, ⟨e, he, hg, rfl⟩ | ⟨hg, rfl⟩⟩
  · have hacc := h.acc e he
    simp only [ofS, hg]
    simp (config := {maxSteps := 4000000}) only [U_ledger_Ledger_Of, hacc, row2, reduceIte, reduceCtorEq, Nat.reduceEqDiff, Nat.reduceAdd, Int.reduceLT, Int.reduceLE, Int.reduceNeg, Int.reduceEq, Nat.reduceLT, Nat.reduceSub, Nat.reduceMul, Nat.reduceBEq, Nat.reduceLeDiff, Int.reduceBEq, Int.reduceBNe, Int.reduceToNat, ne_eq, implies_true, bA]
    exact ⟨_, rfl, rfl⟩
  · simp only [ofS, hg]
    simp (config := {maxSteps := 4000000}) only [U_ledger_Ledger_Of, reduceIte, reduceCtorEq, Nat.reduceEqDiff, Nat.reduceAdd, Int.reduceLT, Int.reduceLE, Int.reduceNeg, Int.reduceEq, Nat.reduceLT, Nat.reduceSub, Nat.reduceMul, Nat.reduceBEq, Nat.reduceLeDiff, Int.reduceBEq, Int.reduceBNe, Int.reduceToNat, ne_eq, implies_true, bA]
    exact ⟨_, rfl, rfl⟩
theorem sized_spec (n : Int) : PCall Try.prog 23 [.int .i64 n] (.bool (decide (0 ≤ n) && decide (n ≤ 16777216))) := by
  refine pcall_dr Try.func23 comp_ledger_sized ?_
  by_cases h0 : 0 ≤ n
  · have d : decide (0 ≤ n) = true := by simpa using h0
    simp (config := {maxSteps := 4000000}) only [U_ledger_sized, d, Bool.true_and, reduceIte, reduceCtorEq, Nat.reduceEqDiff, Nat.reduceAdd, Int.reduceLT, Int.reduceLE, Int.reduceNeg, Int.reduceEq, Nat.reduceLT, Nat.reduceSub, Nat.reduceMul, Nat.reduceBEq, Nat.reduceLeDiff, Int.reduceBEq, Int.reduceBNe, Int.reduceToNat, ne_eq, implies_true, bA]
  · have d : decide (0 ≤ n) = false := by simpa using h0
    simp (config := {maxSteps := 4000000}) only [U_ledger_sized, d, Bool.false_and, reduceIte, reduceCtorEq, Nat.reduceEqDiff, Nat.reduceAdd, Int.reduceLT, Int.reduceLE, Int.reduceNeg, Int.reduceEq, Nat.reduceLT, Nat.reduceSub, Nat.reduceMul, Nat.reduceBEq, Nat.reduceLeDiff, Int.reduceBEq, Int.reduceBNe, Int.reduceToNat, ne_eq, implies_true, bA]

/-- What a call does to a ledger. -/
def Mut (ob : List AObj) (fp : List Nat) (b : Nat) (cap : Int) (A' : List Acc) (res : PV) (r : PV) (ob' : List AObj) : Prop := r = res ∧ ∃ fp', Led ob' fp' b cap A' ∧ Frame ob fp ob' fp'
theorem Mut.same {ob b m ck E cap A res} (h : LedAt ob b m ck E cap A) : Mut ob (fpE b m E) b cap A res res ob := ⟨rfl, _, ⟨m, ck, E, h, rfl⟩, Frame.refl _ _⟩
theorem open_i {ob b m ck E cap A} (h : LedAt ob b m ck E cap A) (id size : Int) : ICall Try.prog 11 [.ref b 0, .int .i64 id, .int .i64 size] ob
    (Mut ob (fpE b m E) b cap (openS A id size).1 (.int .i64 (openS A id size).2)) := by
  refine icall_dr Try.func11 comp_ledger_Ledger_Open ?_
  have hb := h.hb
  have hm := h.hm
  have hlen := h.len
  have hok := h.led.open id size
  unfold openS at hok ⊢
  by_cases c1 : id < 1
  · have d1 : decide (id < 1) = true := by simpa using c1
    rw [if_pos (.inl c1)]
    simp (config := {maxSteps := 4000000}) only [U_ledger_Ledger_Open, d1, reduceIte, reduceCtorEq, Nat.reduceEqDiff, Nat.reduceAdd, Int.reduceLT, Int.reduceLE, Int.reduceNeg, Int.reduceEq, Nat.reduceLT, Nat.reduceSub, Nat.reduceMul, Nat.reduceBEq, Nat.reduceLeDiff, Int.reduceBEq, Int.reduceBNe, Int.reduceToNat, ne_eq, implies_true, bA]
    exact ⟨_, rfl, Mut.same h⟩
  · have d1 : decide (id < 1) = false := by simpa using c1
    by_cases c2 : 65535 < id
    · have d2 : decide (65535 < id) = true := by simpa using c2
      rw [if_pos (.inr (.inl c2))]
      simp (config := {maxSteps := 4000000}) only [U_ledger_Ledger_Open, d1, d2, reduceIte, reduceCtorEq, Nat.reduceEqDiff, Nat.reduceAdd, Int.reduceLT, Int.reduceLE, Int.reduceNeg, Int.reduceEq, Nat.reduceLT, Nat.reduceSub, Nat.reduceMul, Nat.reduceBEq, Nat.reduceLeDiff, Int.reduceBEq, Int.reduceBNe, Int.reduceToNat, ne_eq, implies_true, bA]
      exact ⟨_, rfl, Mut.same h⟩
    · have d2 : decide (65535 < id) = false := by simpa using c2
      simp (config := {maxSteps := 4000000}) only [U_ledger_Ledger_Open, d1, d2, reduceIte, reduceCtorEq, Nat.reduceEqDiff, Nat.reduceAdd, Int.reduceLT, Int.reduceLE, Int.reduceNeg, Int.reduceEq, Nat.reduceLT, Nat.reduceSub, Nat.reduceMul, Nat.reduceBEq, Nat.reduceLeDiff, Int.reduceBEq, Int.reduceBNe, Int.reduceToNat, ne_eq, implies_true, bA]
      refine callI (sized_spec size) ?_
      by_cases c3 : size < 0 ∨ 16777216 < size
      · have d3 : (decide (0 ≤ size) && decide (size ≤ 16777216)) = false := by rw [Bool.and_eq_false_iff]; simp; omega
        rw [if_pos (.inr (.inr c3))]
        simp (config := {maxSteps := 4000000}) only [U_ledger_Ledger_Open, d3, reduceIte, reduceCtorEq, Nat.reduceEqDiff, Nat.reduceAdd, Int.reduceLT, Int.reduceLE, Int.reduceNeg, Int.reduceEq, Nat.reduceLT, Nat.reduceSub, Nat.reduceMul, Nat.reduceBEq, Nat.reduceLeDiff, Int.reduceBEq, Int.reduceBNe, Int.reduceToNat, ne_eq, implies_true, bA]
        exact ⟨_, rfl, Mut.same h⟩
      · have d3 : (decide (0 ≤ size) && decide (size ≤ 16777216)) = true := by rw [Bool.and_eq_true]; simp; omega
        have cn : ¬ (id < 1 ∨ 65535 < id ∨ size < 0 ∨ 16777216 < size) := by omega
        rw [if_neg cn] at hok ⊢
        cases hg : getA id A with
        | some a =>
          obtain ⟨e, he, rfl, hk⟩ := h.get hg
          simp (config := {maxSteps := 4000000}) only [U_ledger_Ledger_Open, d3, hb, hm, hk, reduceIte, reduceCtorEq, Nat.reduceEqDiff, Nat.reduceAdd, Int.reduceLT, Int.reduceLE, Int.reduceNeg, Int.reduceEq, Nat.reduceLT, Nat.reduceSub, Nat.reduceMul, Nat.reduceBEq, Nat.reduceLeDiff, Int.reduceBEq, Int.reduceBNe, Int.reduceToNat, ne_eq, implies_true, bA]
          exact ⟨_, rfl, Mut.same h⟩
        | none =>
          have hk := h.getN hg
          rw [hg] at hok
          by_cases c4 : 8 ≤ A.length
          · have d4 : decide ((8 : Int) ≤ (E.length : Int)) = true := by simp; omega
            simp only [c4, if_true]
            simp (config := {maxSteps := 4000000}) only [U_ledger_Ledger_Open, d3, hb, hm, hk, d4, reduceIte, reduceCtorEq, Nat.reduceEqDiff, Nat.reduceAdd, Int.reduceLT, Int.reduceLE, Int.reduceNeg, Int.reduceEq, Nat.reduceLT, Nat.reduceSub, Nat.reduceMul, Nat.reduceBEq, Nat.reduceLeDiff, Int.reduceBEq, Int.reduceBNe, Int.reduceToNat, ne_eq, implies_true, bA]
            exact ⟨_, rfl, Mut.same h⟩
          · have d4 : decide ((8 : Int) ≤ (E.length : Int)) = false := by simp; omega
            simp only [c4, if_false] at hok ⊢
            have hbL : ∀ x, (ob ++ [x])[b]? = some (.box [.int .i64 cap, .mp m]) := fun x => by rw [List.getElem?_append_left (lt_of_get hb)]; exact hb
            have hmL : ∀ x, (ob ++ [x])[m]? = some (.map ck (E.map entE)) := fun x => by rw [List.getElem?_append_left (lt_of_get hm)]; exact hm
            simp (config := {maxSteps := 4000000}) only [U_ledger_Ledger_Open, d3, hb, hm, hk, d4, hbL, hmL, reduceIte, reduceCtorEq, Nat.reduceEqDiff, Nat.reduceAdd, Int.reduceLT, Int.reduceLE, Int.reduceNeg, Int.reduceEq, Nat.reduceLT, Nat.reduceSub, Nat.reduceMul, Nat.reduceBEq, Nat.reduceLeDiff, Int.reduceBEq, Int.reduceBNe, Int.reduceToNat, ne_eq, implies_true, bA]
            refine ⟨_, rfl, rfl, fpE b m (E ++ [(ck, ⟨id, size, 0⟩, ob.length)]), ⟨m, ck + 1, _, h.add (a := ⟨id, size, 0⟩) hg hok, rfl⟩, ?_⟩
            refine ⟨by simp, fun i hi hn => ?_, fun i hi => ?_⟩
            · rw [List.getElem?_set_ne, List.getElem?_append_left hi]
              rintro rfl; exact hn (by simp [fpE])
            · simp only [fpE, List.map_append, List.map_cons, List.map_nil, List.mem_cons, List.mem_append, List.not_mem_nil, or_false] at hi ⊢
              rcases hi with hi | hi | hi | hi
              · exact .inl (.inl hi)
              · exact .inl (.inr (.inl hi))
              · exact .inl (.inr (.inr hi))
              · right; omega
theorem frame_set {ob : List AObj} {fp : List Nat} {i : Nat} {a : AObj} (hi : i ∈ fp) : Frame ob fp (ob.set i a) fp :=
  ⟨by simp, fun j hj hn => by rw [List.getElem?_set_ne]; rintro rfl; exact hn hi, fun j hj => .inl hj⟩
theorem mem_fpE {b m E} {e : Nat × Acc × Nat} (he : e ∈ E) : e.2.2 ∈ fpE b m E := by simp only [fpE, List.mem_cons, List.mem_map]; exact .inr (.inr ⟨e, he, rfl⟩)
theorem Mut.upd {ob b m ck E cap A res} (h : LedAt ob b m ck E cap A) {e : Nat × Acc × Nat} (he : e ∈ E) {a : Acc} {id : Int} (hg : getA id A = some e.2.1) (hid : a.id = id) (ok : LedOk cap (insA a (delA id A))) :
    Mut ob (fpE b m E) b cap (insA a (delA id A)) res res (ob.set e.2.2 (.box (row2 a))) := by
  have h2 := (getA_some hg).2
  subst h2
  exact ⟨rfl, fpE b m E, ⟨m, ck, _, h.upd he hid ok, (fpE_upd _ _ _ _ _).symm⟩, frame_set (mem_fpE he)⟩
theorem close_i {ob b m ck E cap A} (h : LedAt ob b m ck E cap A) (id : Int) : ICall Try.prog 15 [.ref b 0, .int .i64 id] ob
    (Mut ob (fpE b m E) b cap (closeS A id).1 (.tup [.int .i64 (closeS A id).2.1, .int .i64 (closeS A id).2.2])) := by
  refine icall_dr Try.func15 comp_ledger_Ledger_Close ?_
  have hb := h.hb
  have hm := h.hm
  have hok := h.led.close id
  unfold closeS at hok ⊢
  simp (config := {maxSteps := 4000000}) only [U_ledger_Ledger_Close, reduceIte, reduceCtorEq, Nat.reduceEqDiff, Nat.reduceAdd, Int.reduceLT, Int.reduceLE, Int.reduceNeg, Int.reduceEq, Nat.reduceLT, Nat.reduceSub, Nat.reduceMul, Nat.reduceBEq, Nat.reduceLeDiff, Int.reduceBEq, Int.reduceBNe, Int.reduceToNat, ne_eq, implies_true, bA]
  refine callM (get_i h id) ?_
  rintro r ob' ⟨rfl, ⟨e, he, hg, rfl⟩ | ⟨hg, rfl⟩⟩
  · have hacc := h.acc e he
    rw [hg] at hok
    simp only [hg] at hok ⊢
    have hne : e.2.2 ≠ m := fun c => by rw [← c, hacc] at hm; cases hm
    have hacc2 : ∀ x, (ob'.set m x)[e.2.2]? = some (.box (row2 e.2.1)) := fun x => by rw [List.getElem?_set_ne hne.symm]; exact hacc
    simp (config := {maxSteps := 4000000}) only [U_ledger_Ledger_Close, hb, hm, hacc2, row2, reduceIte, reduceCtorEq, Nat.reduceEqDiff, Nat.reduceAdd, Int.reduceLT, Int.reduceLE, Int.reduceNeg, Int.reduceEq, Nat.reduceLT, Nat.reduceSub, Nat.reduceMul, Nat.reduceBEq, Nat.reduceLeDiff, Int.reduceBEq, Int.reduceBNe, Int.reduceToNat, ne_eq, implies_true, bA]
    refine ⟨_, rfl, rfl, fpE b m (delE id E), ⟨m, ck, _, h.del hok, rfl⟩, by simp, fun i hi hn => ?_, fun i hi => .inl ?_⟩
    · rw [List.getElem?_set_ne]; rintro rfl; exact hn (by simp [fpE])
    · have hsub : (delE id E).Sublist E := List.filter_sublist
      simp only [fpE, List.mem_cons] at hi ⊢
      rcases hi with hi | hi | hi
      · exact .inl hi
      · exact .inr (.inl hi)
      · exact .inr (.inr ((hsub.map _).subset hi))
  · simp only [hg]
    simp (config := {maxSteps := 4000000}) only [U_ledger_Ledger_Close, reduceIte, reduceCtorEq, Nat.reduceEqDiff, Nat.reduceAdd, Int.reduceLT, Int.reduceLE, Int.reduceNeg, Int.reduceEq, Nat.reduceLT, Nat.reduceSub, Nat.reduceMul, Nat.reduceBEq, Nat.reduceLeDiff, Int.reduceBEq, Int.reduceBNe, Int.reduceToNat, ne_eq, implies_true, bA]
    exact ⟨_, rfl, Mut.same h⟩
theorem resize_i {ob b m ck E cap A} (h : LedAt ob b m ck E cap A) (id size : Int) : ICall Try.prog 22 [.ref b 0, .int .i64 id, .int .i64 size] ob
    (Mut ob (fpE b m E) b cap (resizeS A id size).1 (.int .i64 (resizeS A id size).2)) := by
  refine icall_dr Try.func22 comp_ledger_Ledger_Resize ?_
  have hok := h.led.resize id size
  unfold resizeS at hok ⊢
  simp (config := {maxSteps := 4000000}) only [U_ledger_Ledger_Resize, reduceIte, reduceCtorEq, Nat.reduceEqDiff, Nat.reduceAdd, Int.reduceLT, Int.reduceLE, Int.reduceNeg, Int.reduceEq, Nat.reduceLT, Nat.reduceSub, Nat.reduceMul, Nat.reduceBEq, Nat.reduceLeDiff, Int.reduceBEq, Int.reduceBNe, Int.reduceToNat, ne_eq, implies_true, bA]
  refine callI (sized_spec size) ?_
  by_cases c3 : size < 0 ∨ 16777216 < size
  · have d3 : (decide (0 ≤ size) && decide (size ≤ 16777216)) = false := by rw [Bool.and_eq_false_iff]; simp; omega
    rw [if_pos c3]
    simp (config := {maxSteps := 4000000}) only [U_ledger_Ledger_Resize, d3, reduceIte, reduceCtorEq, Nat.reduceEqDiff, Nat.reduceAdd, Int.reduceLT, Int.reduceLE, Int.reduceNeg, Int.reduceEq, Nat.reduceLT, Nat.reduceSub, Nat.reduceMul, Nat.reduceBEq, Nat.reduceLeDiff, Int.reduceBEq, Int.reduceBNe, Int.reduceToNat, ne_eq, implies_true, bA]
    exact ⟨_, rfl, Mut.same h⟩
  · have d3 : (decide (0 ≤ size) && decide (size ≤ 16777216)) = true := by rw [Bool.and_eq_true]; simp; omega
    rw [if_neg c3] at hok ⊢
    simp (config := {maxSteps := 4000000}) only [U_ledger_Ledger_Resize, d3, reduceIte, reduceCtorEq, Nat.reduceEqDiff, Nat.reduceAdd, Int.reduceLT, Int.reduceLE, Int.reduceNeg, Int.reduceEq, Nat.reduceLT, Nat.reduceSub, Nat.reduceMul, Nat.reduceBEq, Nat.reduceLeDiff, Int.reduceBEq, Int.reduceBNe, Int.reduceToNat, ne_eq, implies_true, bA]
    refine callM (get_i h id) ?_
    rintro r ob' ⟨rfl, ⟨e, he, hg, rfl⟩ | ⟨hg, rfl⟩⟩
    · have hacc := h.acc e he
      simp only [hg] at hok ⊢
      simp (config := {maxSteps := 4000000}) only [U_ledger_Ledger_Resize, hacc, row2, reduceIte, reduceCtorEq, Nat.reduceEqDiff, Nat.reduceAdd, Int.reduceLT, Int.reduceLE, Int.reduceNeg, Int.reduceEq, Nat.reduceLT, Nat.reduceSub, Nat.reduceMul, Nat.reduceBEq, Nat.reduceLeDiff, Int.reduceBEq, Int.reduceBNe, Int.reduceToNat, ne_eq, implies_true, bA]
      exact ⟨_, rfl, Mut.upd h he hg rfl hok⟩
    · simp only [hg]
      simp (config := {maxSteps := 4000000}) only [U_ledger_Ledger_Resize, reduceIte, reduceCtorEq, Nat.reduceEqDiff, Nat.reduceAdd, Int.reduceLT, Int.reduceLE, Int.reduceNeg, Int.reduceEq, Nat.reduceLT, Nat.reduceSub, Nat.reduceMul, Nat.reduceBEq, Nat.reduceLeDiff, Int.reduceBEq, Int.reduceBNe, Int.reduceToNat, ne_eq, implies_true, bA]
      exact ⟨_, rfl, Mut.same h⟩
theorem charge_i {ob b m ck E cap A} (h : LedAt ob b m ck E cap A) (id n : Int) : ICall Try.prog 12 [.ref b 0, .int .i64 id, .int .i64 n] ob
    (Mut ob (fpE b m E) b cap (chargeS cap A id n).1 (.int .i64 (chargeS cap A id n).2)) := by
  refine icall_dr Try.func12 comp_ledger_Ledger_Charge ?_
  have hok := h.led.charge id n
  unfold chargeS at hok ⊢
  by_cases c1 : n < 0
  · have d1 : decide (n < 0) = true := by simpa using c1
    rw [if_pos c1]
    simp (config := {maxSteps := 4000000}) only [U_ledger_Ledger_Charge, d1, reduceIte, reduceCtorEq, Nat.reduceEqDiff, Nat.reduceAdd, Int.reduceLT, Int.reduceLE, Int.reduceNeg, Int.reduceEq, Nat.reduceLT, Nat.reduceSub, Nat.reduceMul, Nat.reduceBEq, Nat.reduceLeDiff, Int.reduceBEq, Int.reduceBNe, Int.reduceToNat, ne_eq, implies_true, bA]
    exact ⟨_, rfl, Mut.same h⟩
  · have d1 : decide (n < 0) = false := by simpa using c1
    rw [if_neg c1] at hok ⊢
    simp (config := {maxSteps := 4000000}) only [U_ledger_Ledger_Charge, d1, reduceIte, reduceCtorEq, Nat.reduceEqDiff, Nat.reduceAdd, Int.reduceLT, Int.reduceLE, Int.reduceNeg, Int.reduceEq, Nat.reduceLT, Nat.reduceSub, Nat.reduceMul, Nat.reduceBEq, Nat.reduceLeDiff, Int.reduceBEq, Int.reduceBNe, Int.reduceToNat, ne_eq, implies_true, bA]
    refine callM (get_i h id) ?_
    rintro r ob' ⟨rfl, ⟨e, he, hg, rfl⟩ | ⟨hg, rfl⟩⟩
    · have hacc := h.acc e he
      simp only [hg] at hok ⊢
      simp (config := {maxSteps := 4000000}) only [U_ledger_Ledger_Charge, reduceIte, reduceCtorEq, Nat.reduceEqDiff, Nat.reduceAdd, Int.reduceLT, Int.reduceLE, Int.reduceNeg, Int.reduceEq, Nat.reduceLT, Nat.reduceSub, Nat.reduceMul, Nat.reduceBEq, Nat.reduceLeDiff, Int.reduceBEq, Int.reduceBNe, Int.reduceToNat, ne_eq, implies_true, bA]
      refine callR (left_r h) ?_
      by_cases c2 : cap - sumA A < n
      · have d2 : decide (cap - sumA A < n) = true := by simpa using c2
        rw [if_pos c2]
        simp (config := {maxSteps := 4000000}) only [U_ledger_Ledger_Charge, d2, reduceIte, reduceCtorEq, Nat.reduceEqDiff, Nat.reduceAdd, Int.reduceLT, Int.reduceLE, Int.reduceNeg, Int.reduceEq, Nat.reduceLT, Nat.reduceSub, Nat.reduceMul, Nat.reduceBEq, Nat.reduceLeDiff, Int.reduceBEq, Int.reduceBNe, Int.reduceToNat, ne_eq, implies_true, bA]
        exact ⟨_, rfl, Mut.same h⟩
      · have d2 : decide (cap - sumA A < n) = false := by simpa using c2
        rw [if_neg c2] at hok ⊢
        have hin := (getA_some hg).1
        have hu := h.led.use _ hin
        have hle := h.led.le hin
        have hc1 := h.led.c1
        have e1 : IntKind.i64.wrap (e.2.1.used + n) = e.2.1.used + n := wrapI (by omega) (by omega)
        simp (config := {maxSteps := 4000000}) only [U_ledger_Ledger_Charge, d2, hacc, row2, e1, reduceIte, reduceCtorEq, Nat.reduceEqDiff, Nat.reduceAdd, Int.reduceLT, Int.reduceLE, Int.reduceNeg, Int.reduceEq, Nat.reduceLT, Nat.reduceSub, Nat.reduceMul, Nat.reduceBEq, Nat.reduceLeDiff, Int.reduceBEq, Int.reduceBNe, Int.reduceToNat, ne_eq, implies_true, bA]
        exact ⟨_, rfl, Mut.upd h he hg rfl hok⟩
    · simp only [hg]
      simp (config := {maxSteps := 4000000}) only [U_ledger_Ledger_Charge, reduceIte, reduceCtorEq, Nat.reduceEqDiff, Nat.reduceAdd, Int.reduceLT, Int.reduceLE, Int.reduceNeg, Int.reduceEq, Nat.reduceLT, Nat.reduceSub, Nat.reduceMul, Nat.reduceBEq, Nat.reduceLeDiff, Int.reduceBEq, Int.reduceBNe, Int.reduceToNat, ne_eq, implies_true, bA]
      exact ⟨_, rfl, Mut.same h⟩
theorem credit_i {ob b m ck E cap A} (h : LedAt ob b m ck E cap A) (id n : Int) : ICall Try.prog 18 [.ref b 0, .int .i64 id, .int .i64 n] ob
    (Mut ob (fpE b m E) b cap (creditS A id n).1 (.int .i64 (creditS A id n).2)) := by
  refine icall_dr Try.func18 comp_ledger_Ledger_Credit ?_
  have hok := h.led.credit id n
  unfold creditS at hok ⊢
  by_cases c1 : n < 0
  · have d1 : decide (n < 0) = true := by simpa using c1
    rw [if_pos c1]
    simp (config := {maxSteps := 4000000}) only [U_ledger_Ledger_Credit, d1, reduceIte, reduceCtorEq, Nat.reduceEqDiff, Nat.reduceAdd, Int.reduceLT, Int.reduceLE, Int.reduceNeg, Int.reduceEq, Nat.reduceLT, Nat.reduceSub, Nat.reduceMul, Nat.reduceBEq, Nat.reduceLeDiff, Int.reduceBEq, Int.reduceBNe, Int.reduceToNat, ne_eq, implies_true, bA]
    exact ⟨_, rfl, Mut.same h⟩
  · have d1 : decide (n < 0) = false := by simpa using c1
    rw [if_neg c1] at hok ⊢
    simp (config := {maxSteps := 4000000}) only [U_ledger_Ledger_Credit, d1, reduceIte, reduceCtorEq, Nat.reduceEqDiff, Nat.reduceAdd, Int.reduceLT, Int.reduceLE, Int.reduceNeg, Int.reduceEq, Nat.reduceLT, Nat.reduceSub, Nat.reduceMul, Nat.reduceBEq, Nat.reduceLeDiff, Int.reduceBEq, Int.reduceBNe, Int.reduceToNat, ne_eq, implies_true, bA]
    refine callM (get_i h id) ?_
    rintro r ob' ⟨rfl, ⟨e, he, hg, rfl⟩ | ⟨hg, rfl⟩⟩
    · have hacc := h.acc e he
      simp only [hg] at hok ⊢
      by_cases c2 : e.2.1.used < n
      · have d2 : decide (e.2.1.used < n) = true := by simpa using c2
        rw [if_pos c2]
        simp (config := {maxSteps := 4000000}) only [U_ledger_Ledger_Credit, d2, hacc, row2, reduceIte, reduceCtorEq, Nat.reduceEqDiff, Nat.reduceAdd, Int.reduceLT, Int.reduceLE, Int.reduceNeg, Int.reduceEq, Nat.reduceLT, Nat.reduceSub, Nat.reduceMul, Nat.reduceBEq, Nat.reduceLeDiff, Int.reduceBEq, Int.reduceBNe, Int.reduceToNat, ne_eq, implies_true, bA]
        exact ⟨_, rfl, Mut.same h⟩
      · have d2 : decide (e.2.1.used < n) = false := by simpa using c2
        rw [if_neg c2] at hok ⊢
        have hin := (getA_some hg).1
        have hle := h.led.le hin
        have hs := h.led.sum
        have hc1 := h.led.c1
        have e1 : IntKind.i64.wrap (e.2.1.used - n) = e.2.1.used - n := wrapI (by omega) (by omega)
        simp (config := {maxSteps := 4000000}) only [U_ledger_Ledger_Credit, d2, hacc, row2, e1, reduceIte, reduceCtorEq, Nat.reduceEqDiff, Nat.reduceAdd, Int.reduceLT, Int.reduceLE, Int.reduceNeg, Int.reduceEq, Nat.reduceLT, Nat.reduceSub, Nat.reduceMul, Nat.reduceBEq, Nat.reduceLeDiff, Int.reduceBEq, Int.reduceBNe, Int.reduceToNat, ne_eq, implies_true, bA]
        exact ⟨_, rfl, Mut.upd h he hg rfl hok⟩
    · simp only [hg]
      simp (config := {maxSteps := 4000000}) only [U_ledger_Ledger_Credit, reduceIte, reduceCtorEq, Nat.reduceEqDiff, Nat.reduceAdd, Int.reduceLT, Int.reduceLE, Int.reduceNeg, Int.reduceEq, Nat.reduceLT, Nat.reduceSub, Nat.reduceMul, Nat.reduceBEq, Nat.reduceLeDiff, Int.reduceBEq, Int.reduceBNe, Int.reduceToNat, ne_eq, implies_true, bA]
      exact ⟨_, rfl, Mut.same h⟩
end Go.Proofs.Ytokpmpbhpafncaa.Aw
