/-
  Maps from numbers: what is got behind a change, which keys there are, and a walk over one. Plain Lean.
-/
import Derived.Test.YthjnfjgejdlbfaaMV
import Derived.Lib.SlKeysI
set_option linter.unusedSimpArgs false
set_option linter.unusedVariables false
namespace Go.Proofs.Ythjnfjgejdlbfaa.Aw
open Go.RowKit Go.Sort

/-- A map as the walk knows it: when its entries came, and that no key stands twice. -/
structure MapOk (ck : Nat) (es : List (Nat × Int × PV)) : Prop where
  lt : ∀ e ∈ es, e.1 < ck
  nd : (es.map (·.1)).Nodup
  kd : (es.map (·.2.1)).Nodup
  kw : ∀ e ∈ es, (Lit.int .i64 e.2.1).wf = true
  sz : es.length ≤ 16777216

def sortK (es : List (Nat × Int × PV)) : List Int := (es.map (·.2.1)).mergeSort leI

abbrev Ents := List (Nat × Int × PV)

/- getting -/
theorem mGet_app {k : Int} {e : Nat × Int × PV} : ∀ {es : Ents}, mGet k (es ++ [e]) = (mGet k es).or (if k = e.2.1 then some e.2.2 else none)
  | [] => by simp only [List.nil_append, mGet, Option.none_or]
  | x :: r => by
    simp only [List.cons_append, mGet]
    split
    · rfl
    · exact mGet_app
theorem mGet_mSet {k k' : Int} {v : PV} : ∀ {es : Ents}, (mGet k' es).isSome = true → mGet k (mSet k' v es) = if k = k' then some v else mGet k es
  | [], h => by simp [mGet] at h
  | x :: r, h => by
    simp only [mSet, mGet] at h ⊢
    by_cases c : k' = x.2.1
    · rw [if_pos c]
      simp only [mGet]
      by_cases c2 : k = k'
      · rw [if_pos c2, if_pos c2]
      · rw [if_neg c2, if_neg c2, if_neg (by omega)]
    · rw [if_neg c] at h ⊢
      simp only [mGet]
      by_cases c2 : k = x.2.1
      · rw [if_pos c2, if_pos c2, if_neg (by omega)]
      · rw [if_neg c2, if_neg c2, mGet_mSet h]
theorem mGet_none {k : Int} : ∀ {es : Ents}, (∀ e ∈ es, e.2.1 ≠ k) → mGet k es = none
  | [], _ => rfl
  | x :: r, h => by
    simp only [mGet]
    rw [if_neg (fun c => h x (by simp) c.symm), mGet_none fun e he => h e (List.mem_cons_of_mem _ he)]
theorem mGet_some {k : Int} {v : PV} : ∀ {es : Ents}, mGet k es = some v → ∃ e ∈ es, e.2.1 = k ∧ e.2.2 = v
  | [], h => by cases h
  | x :: r, h => by
    simp only [mGet] at h
    split at h
    · rename_i c; cases h; exact ⟨x, by simp, c.symm, rfl⟩
    · obtain ⟨e, he, h⟩ := mGet_some h; exact ⟨e, List.mem_cons_of_mem _ he, h⟩
theorem mGet_mem : ∀ {es : Ents}, (es.map (·.2.1)).Nodup → ∀ e ∈ es, mGet e.2.1 es = some e.2.2
  | [], _, e, h => by cases h
  | x :: r, hn, e, h => by
    simp only [List.map_cons, List.nodup_cons] at hn
    simp only [mGet]
    rcases List.mem_cons.1 h with rfl | h'
    · exact if_pos rfl
    · rw [if_neg, mGet_mem hn.2 e h']
      intro hc; apply hn.1; rw [← hc]; exact List.mem_map_of_mem h'
theorem mDel_filter {k : Int} : ∀ {es : Ents}, (es.map (·.2.1)).Nodup → mDel k es = es.filter fun e => decide (e.2.1 ≠ k)
  | [], _ => rfl
  | x :: r, hn => by
    simp only [List.map_cons, List.nodup_cons] at hn
    simp only [mDel, List.filter_cons]
    by_cases c : k = x.2.1
    · rw [if_pos c, if_neg (by simp; exact c.symm), List.filter_eq_self.2]
      intro y hy
      simp only [decide_eq_true_eq]
      intro hc; apply hn.1; rw [← c, ← hc]; exact List.mem_map_of_mem hy
    · rw [if_neg c, if_pos (by simp; exact fun e => c e.symm), mDel_filter hn.2]
theorem mGet_filter {k : Int} (p : Int → Bool) : ∀ {es : Ents}, mGet k (es.filter fun e => p e.2.1) = if p k then mGet k es else none
  | [] => by simp [mGet]
  | x :: r => by
    simp only [List.filter_cons]
    cases hp : p x.2.1 with
    | true =>
      simp only [if_true, mGet]
      by_cases c : k = x.2.1
      · rw [if_pos c, if_pos c, c, if_pos hp]
      · rw [if_neg c, if_neg c, mGet_filter]
    | false =>
      simp only [Bool.false_eq_true, if_false, mGet]
      by_cases c : k = x.2.1
      · rw [mGet_filter, c, if_neg (by simp [hp]), if_neg (by simp [hp])]
      · rw [if_neg c, mGet_filter]

/- putting -/
def mPutE (ck : Nat) (k : Int) (v : PV) (es : Ents) : Ents := if (mGet k es).isSome then mSet k v es else es ++ [(ck, k, v)]
def mPutC (ck : Nat) (k : Int) (es : Ents) : Nat := if (mGet k es).isSome then ck else ck + 1
theorem mSetP_put {o c : Nat} {k : Int} {v : PV} {es : Ents} {ob : List AObj} {K : MK} : mSetP o c k v es (mGet k es) ob K = K .bot (ob.set o (.map (mPutC c k es) (mPutE c k v es))) := by
  unfold mSetP mPutC mPutE
  cases h : mGet k es <;> rfl
theorem mGet_put {ck : Nat} {k k' : Int} {v : PV} {es : Ents} : mGet k' (mPutE ck k v es) = if k' = k then some v else mGet k' es := by
  unfold mPutE
  split
  · rename_i h; rw [mGet_mSet h]
  · rename_i h
    rw [mGet_app]
    by_cases c : k' = k
    · subst c
      have : mGet k' es = none := by cases hg : mGet k' es with
        | none => rfl
        | some v => simp [hg] at h
      simp [this]
    · simp [c]
theorem mSet_map1 {k : Int} {v : PV} {es : Ents} : (mSet k v es).map (·.1) = es.map (·.1) := by
  induction es with
  | nil => rfl
  | cons x r ih => simp only [mSet]; split <;> simp [ih]
theorem mSet_map2 {k : Int} {v : PV} {es : Ents} : (mSet k v es).map (·.2.1) = es.map (·.2.1) := by
  induction es with
  | nil => rfl
  | cons x r ih =>
    simp only [mSet]; split
    · rename_i c; simp [c]
    · simp [ih]
theorem mem_keys {k : Int} {es : Ents} : k ∈ es.map (·.2.1) ↔ (mGet k es).isSome = true := by
  constructor
  · intro h
    cases hg : mGet k es with
    | some v => rfl
    | none =>
      exfalso
      obtain ⟨e, he, rfl⟩ := List.mem_map.1 h
      clear h
      induction es with
      | nil => cases he
      | cons x r ih =>
        simp only [mGet] at hg
        split at hg
        · cases hg
        · rename_i c
          rcases List.mem_cons.1 he with rfl | he
          · exact c rfl
          · exact ih he hg
  · intro h
    obtain ⟨v, hv⟩ := Option.isSome_iff_exists.1 h
    obtain ⟨e, he, h1, _⟩ := mGet_some hv
    exact List.mem_map.2 ⟨e, he, h1⟩
theorem MapOk.put {ck : Nat} {es : Ents} (h : MapOk ck es) {k : Int} {v : PV} (hk : (Lit.int .i64 k).wf = true) (hl : es.length + 1 ≤ 16777216) : MapOk (mPutC ck k es) (mPutE ck k v es) := by
  unfold mPutC mPutE
  split
  · have m1 := mSet_map1 (k := k) (v := v) (es := es)
    have m2 := mSet_map2 (k := k) (v := v) (es := es)
    refine ⟨fun e he => ?_, by rw [m1]; exact h.nd, by rw [m2]; exact h.kd, fun e he => ?_, ?_⟩
    · have : e.1 ∈ es.map (·.1) := by rw [← m1]; exact List.mem_map_of_mem he
      obtain ⟨x, hx, e1⟩ := List.mem_map.1 this
      rw [← e1]; exact h.lt x hx
    · have : e.2.1 ∈ es.map (·.2.1) := by rw [← m2]; exact List.mem_map_of_mem (f := fun x : Nat × Int × PV => x.2.1) he
      obtain ⟨x, hx, e1⟩ := List.mem_map.1 this
      rw [← e1]; exact h.kw x hx
    · have := congrArg List.length m1
      simp only [List.length_map] at this
      have := h.sz
      omega
  · rename_i hn
    refine ⟨fun e he => ?_, ?_, ?_, fun e he => ?_, by simp; omega⟩
    · rcases List.mem_append.1 he with he | he
      · exact Nat.lt_succ_of_lt (h.lt e he)
      · simp only [List.mem_singleton] at he; subst he; exact Nat.lt_succ_self _
    · rw [List.map_append, List.nodup_append]
      refine ⟨h.nd, by simp, fun x hx y hy => ?_⟩
      obtain ⟨e, he, rfl⟩ := List.mem_map.1 hx
      simp only [List.map_cons, List.map_nil, List.mem_singleton] at hy
      subst hy
      have := h.lt e he; omega
    · rw [List.map_append, List.nodup_append]
      refine ⟨h.kd, by simp, fun x hx y hy => ?_⟩
      simp only [List.map_cons, List.map_nil, List.mem_singleton] at hy
      subst hy
      rintro rfl
      exact hn (mem_keys.1 hx)
    · rcases List.mem_append.1 he with he | he
      · exact h.kw e he
      · simp only [List.mem_singleton] at he; subst he; exact hk
theorem MapOk.sub {ck : Nat} {es es' : Ents} (h : MapOk ck es) (hs : es'.Sublist es) : MapOk ck es' :=
  ⟨fun e he => h.lt e (hs.subset he), List.Pairwise.sublist (hs.map _) h.nd, List.Pairwise.sublist (hs.map _) h.kd, fun e he => h.kw e (hs.subset he), Nat.le_trans hs.length_le h.sz⟩
theorem MapOk.nil : MapOk 0 [] := ⟨by simp, by simp, by simp, by simp, by simp⟩
theorem wf_k {n : Int} (h0 : -1000000000 ≤ n) (h1 : n ≤ 1000000000) : (Lit.int .i64 n).wf = true := by
  have e1 : IntKind.i64.min = -9223372036854775808 := by decide
  have e2 : IntKind.i64.max = 9223372036854775807 := by decide
  simp only [Lit.wf, e1, e2, Bool.and_eq_true, decide_eq_true_eq]
  omega

/- which keys there are -/
section
variable {α : Type} [Key α]
theorem mem_keyG {k : Int} {S : List α} : k ∈ S.map key ↔ (getG k S).isSome = true := by
  constructor
  · intro h
    cases hg : getG k S with
    | some v => rfl
    | none =>
      obtain ⟨e, he, rfl⟩ := List.mem_map.1 h
      exact absurd rfl (getG_none hg e he)
  · intro h
    obtain ⟨v, hv⟩ := Option.isSome_iff_exists.1 h
    obtain ⟨h1, h2⟩ := getG_some hv
    exact List.mem_map.2 ⟨v, h1, h2⟩
theorem keys_perm {ck : Nat} {es : Ents} {S : List α} (ok : MapOk ck es) (hs : SortedG S) (h : ∀ k, (mGet k es).isSome = (getG k S).isSome) : (es.map (·.2.1)).Perm (S.map key) := by
  have h2 : (S.map key).Nodup := by
    rw [List.nodup_iff_pairwise_ne, List.pairwise_map]
    exact hs.imp fun hlt e => by rw [e] at hlt; omega
  exact (List.perm_ext_iff_of_nodup ok.kd h2).2 fun k => by rw [mem_keys, mem_keyG, h]
theorem keys_len {es : Ents} {S : List α} (h : (es.map (·.2.1)).Perm (S.map key)) : es.length = S.length := by have := h.length_eq; simpa using this
theorem keys_sort {es : Ents} {S : List α} (h : (es.map (·.2.1)).Perm (S.map key)) (hs : SortedG S) : sortK es = S.map key := by
  rw [sortK, mergeSort_of_perm_i h]
  apply List.mergeSort_of_pairwise
  rw [List.pairwise_map]
  exact hs.imp fun hlt => by simp only [decide_eq_true_eq]; omega
end

/- a walk over a map -/
def seenE (seen : List Nat) (es : Ents) : Ents := es.filter fun e => seen.contains e.1
theorem seenE_nil (es : Ents) : seenE [] es = [] := by simp [seenE]
theorem seenE_all {seen : List Nat} {es : Ents} (h : mLeft seen es = []) : seenE seen es = es := by
  rw [mLeft, List.filter_eq_nil_iff] at h
  rw [seenE, List.filter_eq_self]
  intro e he
  have := h e he
  simpa using this
theorem mem_left {seen : List Nat} {es : Ents} {e : Nat × Int × PV} : e ∈ mLeft seen es ↔ e ∈ es ∧ seen.contains e.1 = false := by simp [mLeft]
theorem seen_snoc (seen : List Nat) (b x : Nat) : (seen ++ [b]).contains x = (seen.contains x || x == b) := by
  rw [Bool.eq_iff_iff]; simp
theorem seenE_step {seen : List Nat} {e : Nat × Int × PV} : ∀ {es : Ents}, (es.map (·.1)).Nodup → e ∈ mLeft seen es → (seenE (seen ++ [e.1]) es).Perm (e :: seenE seen es)
  | [], _, h => by simp [mLeft] at h
  | x :: r, hn, h => by
    simp only [List.map_cons, List.nodup_cons] at hn
    obtain ⟨h1, h2⟩ := mem_left.1 h
    rcases List.mem_cons.1 h1 with rfl | h1
    · have hr : seenE (seen ++ [e.1]) r = seenE seen r := by
        apply List.filter_congr
        intro y hy
        rw [seen_snoc]
        have : (y.1 == e.1) = false := by
          simp only [beq_eq_false_iff_ne]
          intro c; apply hn.1; rw [← c]; exact List.mem_map_of_mem hy
        rw [this, Bool.or_false]
      have e1 : seenE (seen ++ [e.1]) (e :: r) = e :: seenE (seen ++ [e.1]) r := by
        simp only [seenE, List.filter_cons, seen_snoc]; simp
      have e2 : seenE seen (e :: r) = seenE seen r := by
        simp only [seenE, List.filter_cons, h2]; simp
      rw [e1, e2, hr]
    · have ih := seenE_step hn.2 (mem_left.2 ⟨h1, h2⟩)
      have hne : (x.1 == e.1) = false := by
        simp only [beq_eq_false_iff_ne]
        intro c; apply hn.1; rw [c]; exact List.mem_map_of_mem h1
      cases hx : seen.contains x.1 with
      | true =>
        have e1 : seenE (seen ++ [e.1]) (x :: r) = x :: seenE (seen ++ [e.1]) r := by
          simp only [seenE, List.filter_cons, seen_snoc, hx, Bool.true_or, if_true]
        have e2 : seenE seen (x :: r) = x :: seenE seen r := by
          simp only [seenE, List.filter_cons, hx, if_true]
        rw [e1, e2]
        exact (ih.cons x).trans (List.Perm.swap e x _)
      | false =>
        have e1 : seenE (seen ++ [e.1]) (x :: r) = seenE (seen ++ [e.1]) r := by
          simp only [seenE, List.filter_cons, seen_snoc, hx, hne, Bool.or_self, Bool.false_eq_true, if_false]
        have e2 : seenE seen (x :: r) = seenE seen r := by
          simp only [seenE, List.filter_cons, hx, Bool.false_eq_true, if_false]
        rw [e1, e2]
        exact ih
theorem left_step {seen : List Nat} {e : Nat × Int × PV} {es : Ents} (h : e ∈ mLeft seen es) : (mLeft (seen ++ [e.1]) es).length < (mLeft seen es).length := by
  have e1 : mLeft (seen ++ [e.1]) es = (mLeft seen es).filter fun x => !(x.1 == e.1) := by
    rw [mLeft, mLeft, List.filter_filter]
    apply List.filter_congr
    intro x _
    rw [seen_snoc]
    cases seen.contains x.1 <;> cases (x.1 == e.1) <;> rfl
  rw [e1, List.length_filter_lt_length_iff_exists]
  exact ⟨e, h, by simp⟩
theorem find_entry {e : Nat × Int × PV} : ∀ {es : Ents}, (es.map (·.1)).Nodup → e ∈ es → (es.find? fun x => x.1 == e.1) = some e
  | [], _, h => by cases h
  | x :: r, hn, h => by
    simp only [List.map_cons, List.nodup_cons] at hn
    rw [List.find?_cons]
    rcases List.mem_cons.1 h with rfl | h'
    · simp
    · have : (x.1 == e.1) = false := by
        simp only [beq_eq_false_iff_ne]
        intro c; apply hn.1; rw [c]; exact List.mem_map_of_mem h'
      rw [this]
      exact find_entry hn.2 h'

/- leaving out while walking -/
def cutE (hole : Int → Bool) (seen : List Nat) (es : Ents) : Ents := es.filter fun e => !(seen.contains e.1 && hole e.2.1)
theorem cutE_nil (hole : Int → Bool) (es : Ents) : cutE hole [] es = es := by simp [cutE]
theorem cutE_sub (hole : Int → Bool) (seen : List Nat) (es : Ents) : (cutE hole seen es).Sublist es := List.filter_sublist
theorem cutE_mem {hole : Int → Bool} {seen : List Nat} {es : Ents} {e : Nat × Int × PV} (h : e ∈ mLeft seen (cutE hole seen es)) : e ∈ mLeft seen es := by
  obtain ⟨h1, h2⟩ := mem_left.1 h
  exact mem_left.2 ⟨(cutE_sub hole seen es).subset h1, h2⟩
theorem cutE_keep {hole : Int → Bool} {seen : List Nat} {es : Ents} {e : Nat × Int × PV} (hn : (es.map (·.1)).Nodup) (h : e ∈ es) (hh : hole e.2.1 = false) : cutE hole (seen ++ [e.1]) es = cutE hole seen es := by
  apply List.filter_congr
  intro y hy
  rw [seen_snoc]
  cases hc : (y.1 == e.1) with
  | false => rw [Bool.or_false]
  | true =>
    have : y = e := by
      have h1 := find_entry hn hy
      have h2 := find_entry hn h
      have hc' : y.1 = e.1 := by simpa using hc
      rw [hc'] at h1
      rw [h1] at h2
      exact Option.some.inj h2
    subst this
    simp [hh]
theorem cutE_drop {hole : Int → Bool} {seen : List Nat} {es : Ents} {e : Nat × Int × PV} (hn : (es.map (·.1)).Nodup) (hk : (es.map (·.2.1)).Nodup) (h : e ∈ es) (hh : hole e.2.1 = true) : mDel e.2.1 (cutE hole seen es) = cutE hole (seen ++ [e.1]) es := by
  rw [mDel_filter (List.Pairwise.sublist ((cutE_sub hole seen es).map _) hk), cutE, List.filter_filter]
  apply List.filter_congr
  intro y hy
  rw [seen_snoc]
  have key1 : (y.2.1 = e.2.1) ↔ (y.1 = e.1) := by
    constructor
    · intro c
      have h1 := mGet_mem hk y hy
      have : y = e := by
        have aux : ∀ {es : Ents}, (es.map (·.2.1)).Nodup → y ∈ es → e ∈ es → y = e := by
          intro es
          clear hy h hn hk
          induction es with
          | nil => intro _ h; cases h
          | cons x r ih =>
            intro hn h1 h2
            simp only [List.map_cons, List.nodup_cons] at hn
            rcases List.mem_cons.1 h1 with e1 | h1 <;> rcases List.mem_cons.1 h2 with e2 | h2
            · rw [e1, e2]
            · exact absurd (List.mem_map.2 ⟨e, h2, by rw [← c, e1]⟩) hn.1
            · exact absurd (List.mem_map.2 ⟨y, h1, by rw [c, e2]⟩) hn.1
            · exact ih hn.2 h1 h2
        exact aux hk hy h
      rw [this]
    · intro c
      have h1 := find_entry hn hy
      have h2 := find_entry hn h
      rw [c] at h1
      rw [h1] at h2
      rw [Option.some.inj h2]
  by_cases c : y.1 = e.1
  · have c2 := key1.2 c
    simp [c, c2, hh]
  · have c2 : ¬ y.2.1 = e.2.1 := fun x => c (key1.1 x)
    have c3 : (y.1 == e.1) = false := by simpa using c
    rw [c3]
    simp [c2]
theorem cutE_all {hole : Int → Bool} {seen : List Nat} {es : Ents} (h : mLeft seen (cutE hole seen es) = []) : cutE hole seen es = es.filter fun e => !hole e.2.1 := by
  apply List.filter_congr
  intro y hy
  cases hs : seen.contains y.1 with
  | true => simp
  | false =>
    exfalso
    have : y ∈ mLeft seen (cutE hole seen es) := mem_left.2 ⟨List.mem_filter.2 ⟨hy, by rw [hs]; rfl⟩, hs⟩
    rw [h] at this; cases this
theorem cutE_left {hole : Int → Bool} {seen : List Nat} {es : Ents} {e : Nat × Int × PV} (h : e ∈ mLeft seen (cutE hole seen es)) : (mLeft (seen ++ [e.1]) es).length < (mLeft seen es).length := left_step (cutE_mem h)
end Go.Proofs.Ythjnfjgejdlbfaa.Aw
