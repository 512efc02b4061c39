/-
  The model: a copy of it.
-/
import Derived.Test.YthjnfjgejdlbfaaPMC
import Derived.Test.YthjnfjgejdlbfaaLayC
set_option linter.unusedSimpArgs false
set_option linter.unusedVariables false
namespace Go.Proofs.Ythjnfjgejdlbfaa.Aw
open Go.RowKit

theorem clone_i {ob : List AObj} {m ck : Nat} {es : Ents} (hm : ob[m]? = some (.map ck es)) : ICall Try.prog 42 [.mp m] ob fun r ob' => r = .mp ob.length ∧ ob' = ob ++ [.map ck es] := by
  refine ⟨⟨okFn_spec (by kernel_rfl), _, _, rfl, rfl⟩, fun c w F l vs R hv => ?_⟩
  obtain ⟨v, vs', rfl, h1, h2⟩ := hv.cons_inv
  have := h2.nil_inv; subst this
  obtain ⟨L, ms, f1, f2, f3, rfl, f5, f6⟩ := map_at (s := ⟨fun _ => .bot, ob⟩) R h1 hm
  have cC := AnyW.maps_Clone Try.cloneA L.blk ms.toArray ck w f5
  change Calls Try.prog 42 _ _ _ at cC
  refine cC.mono ?_
  rintro e w' ⟨rfl, rfl⟩
  obtain ⟨R1', m1⟩ := R.ext (w' := w.alloc (.map ms.toArray ck)) below_alloc
  let Ln : Loc := ⟨w.heap.size, 0, 0, 0, 0, 0, false, true⟩
  obtain ⟨R2, m2⟩ := R1'.new (ob' := ob ++ [.map ck es]) (L := Ln) (i := ob.length) (a := .map ck es) (by
      cases hl : l ob.length with
      | none => rfl
      | some L => exact absurd (R.lt _ L hl) (Nat.lt_irrefl _)) (by simp) (by simp) (by simp) (fun j hj hlt => by
      simp only [List.length_append, List.length_cons, List.length_nil] at hlt
      rw [List.getElem?_append_left (by omega)])
    (fun m => ⟨rfl, rfl, ms, alloc_heap w _, (f6.up m1).up m⟩)
    (fun _ => ⟨R.below.size, lt_of_cells (alloc_heap w _), fun hF => absurd (R.flt _ hF) (Nat.lt_irrefl _), fun o L' ho hn e => by have := (R.own o L' ho hn).2.1; simp only [Ln] at e; omega⟩)
  exact ⟨_, _, _, F, _, rfl, R2, m1.trans m2, .mp (L := Ln) (updL_same _ _ _) rfl, rfl, rfl⟩

/- who was seen -/
theorem seenF_step {α : Type} (f : α → Nat) {seen : List Nat} {e : α} : ∀ {l : List α}, (l.map f).Nodup → e ∈ l → seen.contains (f e) = false → (l.filter fun x => (seen ++ [f e]).contains (f x)).Perm (e :: l.filter fun x => seen.contains (f x))
  | [], _, h, _ => by cases h
  | x :: r, hn, h1, h2 => by
    simp only [List.map_cons, List.nodup_cons] at hn
    rcases List.mem_cons.1 h1 with rfl | h1
    · have hr : (r.filter fun x => (seen ++ [f e]).contains (f x)) = r.filter fun x => seen.contains (f x) := by
        apply List.filter_congr
        intro y hy
        rw [seen_snoc]
        have : (f y == f e) = false := by
          simp only [beq_eq_false_iff_ne]
          intro c; apply hn.1; rw [← c]; exact List.mem_map_of_mem hy
        rw [this, Bool.or_false]
      rw [List.filter_cons, List.filter_cons, h2, if_pos (by rw [seen_snoc]; simp), if_neg (by simp), hr]
    · have ih := seenF_step f hn.2 h1 h2
      have hne : (f x == f e) = false := by
        simp only [beq_eq_false_iff_ne]
        intro c; apply hn.1; rw [c]; exact List.mem_map_of_mem h1
      rw [List.filter_cons, List.filter_cons]
      cases hx : seen.contains (f x) with
      | true =>
        rw [if_pos (by rw [seen_snoc, hx]; simp), if_pos rfl]
        exact (ih.cons x).trans (List.Perm.swap e x _)
      | false =>
        rw [if_neg (by rw [seen_snoc, hx, hne]; simp), if_neg (by simp)]
        exact ih

/- the copies -/
def cpyE (L : Nat) : Nat → List SpE → List SpE
  | _, [] => []
  | i, e :: r => ⟨i, e.s, L + 2 * i, L + 2 * i + 1, e.ck, e.es⟩ :: cpyE L (i + 1) r
def cpyO (L : Nat) : Nat → List SpE → List AObj
  | _, [] => []
  | i, e :: r => .box [.int .i64 e.s.size, .mp (L + 2 * i + 1)] :: .map e.ck e.es :: cpyO L (i + 1) r
theorem cpyE_snoc (L : Nat) (x : SpE) : ∀ (T : List SpE) (i : Nat), cpyE L i (T ++ [x]) = cpyE L i T ++ [⟨i + T.length, x.s, L + 2 * (i + T.length), L + 2 * (i + T.length) + 1, x.ck, x.es⟩]
  | [], i => by simp [cpyE]
  | e :: r, i => by
    simp only [List.cons_append, cpyE, cpyE_snoc L x r (i + 1), List.length_cons]
    rw [show i + 1 + r.length = i + (r.length + 1) by omega]
theorem cpyO_snoc (L : Nat) (x : SpE) : ∀ (T : List SpE) (i : Nat), cpyO L i (T ++ [x]) = cpyO L i T ++ [.box [.int .i64 x.s.size, .mp (L + 2 * (i + T.length) + 1)], .map x.ck x.es]
  | [], i => by simp [cpyO]
  | e :: r, i => by
    simp only [List.cons_append, cpyO, cpyO_snoc L x r (i + 1), List.length_cons]
    rw [show i + 1 + r.length = i + (r.length + 1) by omega]
theorem cpyO_len (L : Nat) : ∀ (T : List SpE) (i : Nat), (cpyO L i T).length = 2 * T.length
  | [], i => rfl
  | e :: r, i => by simp only [cpyO, List.length_cons, cpyO_len L r (i + 1)]; omega
theorem cpyE_s (L : Nat) : ∀ (T : List SpE) (i : Nat), (cpyE L i T).map (·.s) = T.map (·.s)
  | [], i => rfl
  | e :: r, i => by simp only [cpyE, List.map_cons, cpyE_s L r (i + 1)]
theorem cpyE_len (L : Nat) : ∀ (T : List SpE) (i : Nat), (cpyE L i T).length = T.length
  | [], i => rfl
  | e :: r, i => by simp only [cpyE, List.length_cons, cpyE_len L r (i + 1)]
theorem cpyE_mem (L : Nat) : ∀ (T : List SpE) (i : Nat), ∀ x ∈ cpyE L i T, ∃ k e, k < T.length ∧ e ∈ T ∧ x = ⟨i + k, e.s, L + 2 * (i + k), L + 2 * (i + k) + 1, e.ck, e.es⟩ ∧
    (cpyO L i T)[2 * k]? = some (.box [.int .i64 e.s.size, .mp (L + 2 * (i + k) + 1)]) ∧ (cpyO L i T)[2 * k + 1]? = some (.map e.ck e.es)
  | [], i, x, h => by cases h
  | e :: r, i, x, h => by
    rcases List.mem_cons.1 h with rfl | h
    · exact ⟨0, e, by simp, by simp, rfl, rfl, rfl⟩
    · obtain ⟨k, y, h1, h2, h3, h4, h5⟩ := cpyE_mem L r (i + 1) x h
      refine ⟨k + 1, y, by simpa using h1, List.mem_cons_of_mem _ h2, ?_, ?_, ?_⟩
      · rw [h3, show i + 1 + k = i + (k + 1) by omega]
      · rw [show 2 * (k + 1) = 2 * k + 1 + 1 by omega, cpyO, List.getElem?_cons_succ, List.getElem?_cons_succ, h4, show i + 1 + k = i + (k + 1) by omega]
      · rw [show 2 * (k + 1) + 1 = 2 * k + 1 + 1 + 1 by omega, cpyO, List.getElem?_cons_succ, List.getElem?_cons_succ, h5]
theorem cpyE_nodup (L : Nat) (f : SpE → Nat) (g : Nat → Nat) (hg : ∀ a b, g a = g b → a = b) (hf : ∀ (i : Nat) (e : SpE), f ⟨i, e.s, L + 2 * i, L + 2 * i + 1, e.ck, e.es⟩ = g i) : ∀ (T : List SpE) (i : Nat), ((cpyE L i T).map f).Nodup
  | [], i => List.nodup_nil
  | e :: r, i => by
    simp only [cpyE, List.map_cons, List.nodup_cons]
    refine ⟨fun hc => ?_, cpyE_nodup L f g hg hf r (i + 1)⟩
    obtain ⟨x, hx, hxe⟩ := List.mem_map.1 hc
    obtain ⟨k, y, _, _, rfl, _⟩ := cpyE_mem L r (i + 1) x hx
    rw [hf, hf] at hxe
    have := hg _ _ hxe
    omega
theorem copyAt {ob : List AObj} {b m ck : Nat} {E : List SpE} {cap : Int} {A : List Spc} (h : ModAt ob b m ck E cap A) {T : List SpE} (hT : T.Perm E) {it : AObj} :
    ModAt (ob ++ (.map T.length ((cpyE (ob.length + 3) 0 T).map entM) :: .box [.int .i64 cap, .mp ob.length] :: it :: cpyO (ob.length + 3) 0 T)) (ob.length + 1) ob.length T.length (cpyE (ob.length + 3) 0 T) cap A := by
  have hE : ∀ e ∈ T, e ∈ E := fun e he => hT.mem_iff.1 he
  have hget : ∀ j, (ob ++ (AObj.map T.length ((cpyE (ob.length + 3) 0 T).map entM) :: .box [.int .i64 cap, .mp ob.length] :: it :: cpyO (ob.length + 3) 0 T))[ob.length + 3 + j]? = (cpyO (ob.length + 3) 0 T)[j]? := fun j => by
    rw [List.getElem?_append_right (by omega), show ob.length + 3 + j - ob.length = j + 1 + 1 + 1 by omega, List.getElem?_cons_succ, List.getElem?_cons_succ, List.getElem?_cons_succ]
  refine ⟨by rw [ap1]; rfl, by rw [ap0]; rfl, ⟨fun x hx => ?_, ?_, ?_, fun x hx => ?_, ?_⟩, fun x hx => ?_, fun x hx => ?_, fun x hx => ?_, fun x hx => ?_, ?_, ?_, fun x hx => ?_, fun x hx => ?_, ?_, h.vol⟩
  · obtain ⟨y, hy, rfl⟩ := List.mem_map.1 hx
    obtain ⟨k, e, h1, h2, rfl, _⟩ := cpyE_mem _ T 0 y hy
    show 0 + k < T.length; omega
  · rw [List.map_map]
    exact cpyE_nodup _ _ id (fun _ _ h => h) (fun _ _ => rfl) T 0
  · have : ((cpyE (ob.length + 3) 0 T).map entM).map (·.2.1) = (T.map (·.s)).map key := by
      rw [← cpyE_s (ob.length + 3) T 0, List.map_map, List.map_map]; rfl
    rw [this, ((hT.map (·.s)).map key).nodup_iff, ← (h.keysP).nodup_iff.trans ((h.mem.map key).nodup_iff).symm]
    exact h.ok.kd
  · obtain ⟨y, hy, rfl⟩ := List.mem_map.1 hx
    obtain ⟨k, e, h1, h2, rfl, _⟩ := cpyE_mem _ T 0 y hy
    exact h.ok.kw (entM e) (List.mem_map_of_mem (hE e h2))
  · rw [List.length_map, cpyE_len, hT.length_eq]; have := h.ok.sz; simpa using this
  · obtain ⟨k, e, h1, h2, rfl, h3, h4⟩ := cpyE_mem _ T 0 x hx
    show _[ob.length + 3 + 2 * (0 + k)]? = _
    rw [Nat.zero_add, hget, h3, Nat.zero_add]
  · obtain ⟨k, e, h1, h2, rfl, h3, h4⟩ := cpyE_mem _ T 0 x hx
    show _[ob.length + 3 + 2 * (0 + k) + 1]? = _
    rw [Nat.zero_add, Nat.add_assoc _ (2 * k) 1, hget, h4]
  · obtain ⟨k, e, h1, h2, rfl, h3, h4⟩ := cpyE_mem _ T 0 x hx
    exact h.mok e (hE e h2)
  · obtain ⟨k, e, h1, h2, rfl, h3, h4⟩ := cpyE_mem _ T 0 x hx
    exact h.rel e (hE e h2)
  · exact cpyE_nodup _ _ (fun i => ob.length + 3 + 2 * i) (fun a b h => by omega) (fun _ _ => rfl) T 0
  · exact cpyE_nodup _ _ (fun i => ob.length + 3 + 2 * i + 1) (fun a b h => by omega) (fun _ _ => rfl) T 0
  · obtain ⟨k, e, h1, h2, rfl, h3, h4⟩ := cpyE_mem _ T 0 x hx
    show ob.length + 3 + 2 * (0 + k) ≠ _; omega
  · obtain ⟨k, e, h1, h2, rfl, h3, h4⟩ := cpyE_mem _ T 0 x hx
    show ob.length + 3 + 2 * (0 + k) + 1 ≠ _; omega
  · rw [cpyE_s]; exact (hT.map (·.s)).trans h.mem
theorem copy_i {ob b m ck E cap A} (h : ModAt ob b m ck E cap A) : ICall Try.prog 19 [.ref b 0] ob fun r ob' => ∃ fp', r = .ref (ob.length + 1) 0 ∧ Mod ob' fp' (ob.length + 1) cap A ∧ Frame ob [] ob' fp' := by
  refine icall_dr Try.func19 comp_model_Model_Copy ?_
  have hb := h.hb
  have hlb := lt_of_get hb
  have hlm := lt_of_get h.hm
  have hmA := fun l => apL h.hm l
  have hbA := fun l => apL hb l
  have hc0 := h.vol.c0
  have hc1 := h.vol.c1
  simp (config := {maxSteps := 4000000}) only [U_model_Model_Copy, hb, reduceIte, reduceCtorEq, Nat.reduceEqDiff, Nat.reduceAdd, Int.reduceLT, Int.reduceLE, Int.reduceNeg, Int.reduceEq, Nat.reduceLT, Nat.reduceSub, Nat.reduceMul, Nat.reduceBEq, Nat.reduceLeDiff, Int.reduceBEq, Int.reduceBNe, Int.reduceToNat, ne_eq, implies_true, bA]
  refine callM (K := fun r ob' => r = .ref (ob.length + 1) 0 ∧ ob' = ob ++ [.map 0 [], .box [.int .i64 cap, .mp ob.length]]) ?_ ?_
  · refine icall_dr Try.func10 comp_model_New ?_
    have hmx : max cap 0 = cap := by omega
    simp (config := {maxSteps := 4000000}) only [U_model_New, hmx, reduceIte, reduceCtorEq, Nat.reduceEqDiff, Nat.reduceAdd, Int.reduceLT, Int.reduceLE, Int.reduceNeg, Int.reduceEq, Nat.reduceLT, Nat.reduceSub, Nat.reduceMul, Nat.reduceBEq, Nat.reduceLeDiff, Int.reduceBEq, Int.reduceBNe, Int.reduceToNat, ne_eq, implies_true, bA]
    exact ⟨_, rfl, rfl⟩
  rintro r ob' ⟨rfl, rfl⟩
  simp (config := {maxSteps := 4000000}) only [U_model_Model_Copy, hbA, hmA, reduceIte, reduceCtorEq, Nat.reduceEqDiff, Nat.reduceAdd, Int.reduceLT, Int.reduceLE, Int.reduceNeg, Int.reduceEq, Nat.reduceLT, Nat.reduceSub, Nat.reduceMul, Nat.reduceBEq, Nat.reduceLeDiff, Int.reduceBEq, Int.reduceBNe, Int.reduceToNat, ne_eq, implies_true, bA]
  refine loopF (fun x : List Nat × List SpE => ⟨ofL [(3, .ref (ob.length + 1) 0), (17, .ref (ob.length + 2) 0)], ob ++ (.map x.2.length ((cpyE (ob.length + 3) 0 x.2).map entM) :: .box [.int .i64 cap, .mp ob.length] :: .iter m ck x.1 ck :: cpyO (ob.length + 3) 0 x.2)⟩)
    (fun x => x.2.Perm (E.filter fun e => x.1.contains e.born)) (fun x => (mLeft x.1 (E.map entM)).length) ([], []) ?_ (by simp) ?_
  · simp (config := {maxSteps := 4000000}) only [U_model_Model_Copy, reduceIte, reduceCtorEq, Nat.reduceEqDiff, Nat.reduceAdd, Int.reduceLT, Int.reduceLE, Int.reduceNeg, Int.reduceEq, Nat.reduceLT, Nat.reduceSub, Nat.reduceMul, Nat.reduceBEq, Nat.reduceLeDiff, Int.reduceBEq, Int.reduceBNe, Int.reduceToNat, ne_eq, implies_true, bA]
    all_goals rfl
  · rintro ⟨seen, T⟩ hT
    simp only at hT
    obtain ⟨O, hO⟩ : ∃ O, ob ++ (AObj.map T.length ((cpyE (ob.length + 3) 0 T).map entM) :: .box [.int .i64 cap, .mp ob.length] :: .iter m ck seen ck :: cpyO (ob.length + 3) 0 T) = O := ⟨_, rfl⟩
    have hOl : O.length = ob.length + 3 + 2 * T.length := by rw [← hO]; simp [cpyO_len]; omega
    have hO0 : O[ob.length]? = some (.map T.length ((cpyE (ob.length + 3) 0 T).map entM)) := by rw [← hO, ap0]; rfl
    have hO1 : O[ob.length + 1]? = some (.box [.int .i64 cap, .mp ob.length]) := by rw [← hO, ap1]; rfl
    have hO2 : O[ob.length + 2]? = some (.iter m ck seen ck) := by rw [← hO, ap2]; rfl
    have hOm : O[m]? = some (.map ck (E.map entM)) := by rw [← hO]; exact hmA _
    have hOi : ∀ {i a}, ob[i]? = some a → O[i]? = some a := fun h => by rw [← hO]; exact apL h _
    rw [hO]
    simp (config := {maxSteps := 4000000}) only [U_model_Model_Copy, hO2, hOm, reduceIte, reduceCtorEq, Nat.reduceEqDiff, Nat.reduceAdd, Int.reduceLT, Int.reduceLE, Int.reduceNeg, Int.reduceEq, Nat.reduceLT, Nat.reduceSub, Nat.reduceMul, Nat.reduceBEq, Nat.reduceLeDiff, Int.reduceBEq, Int.reduceBNe, Int.reduceToNat, ne_eq, implies_true, bA]
    refine ⟨h.ok.lt, Nat.le_refl _, fun hl => ?_, fun e he => ?_⟩
    · have hall : (E.filter fun e => seen.contains e.born) = E := by
        rw [List.filter_eq_self]
        intro e he
        simp only [mLeft, List.filter_eq_nil_iff] at hl
        have := hl (entM e) (List.mem_map_of_mem he)
        simpa [entM] using this
      rw [hall] at hT
      simp (config := {maxSteps := 4000000}) only [U_model_Model_Copy, reduceIte, reduceCtorEq, Nat.reduceEqDiff, Nat.reduceAdd, Int.reduceLT, Int.reduceLE, Int.reduceNeg, Int.reduceEq, Nat.reduceLT, Nat.reduceSub, Nat.reduceMul, Nat.reduceBEq, Nat.reduceLeDiff, Int.reduceBEq, Int.reduceBNe, Int.reduceToNat, ne_eq, implies_true, bA]
      refine ⟨_, rfl, _, rfl, ⟨_, _, _, by rw [← hO]; exact copyAt h hT, rfl⟩, by omega, fun i hi _ => by rw [← hO, List.getElem?_append_left hi], fun i hi => .inr ?_⟩
      rcases mem_fpM.1 hi with rfl | rfl | ⟨x, hx, rfl⟩ | ⟨x, hx, rfl⟩
      · omega
      · omega
      · obtain ⟨k, e, h1, h2, rfl, h3, h4⟩ := cpyE_mem _ T 0 x hx
        show ob.length ≤ ob.length + 3 + 2 * (0 + k); omega
      · obtain ⟨k, e, h1, h2, rfl, h3, h4⟩ := cpyE_mem _ T 0 x hx
        show ob.length ≤ ob.length + 3 + 2 * (0 + k) + 1; omega
    · obtain ⟨he1, he2⟩ := mem_left.1 he
      obtain ⟨x, hx, rfl⟩ := List.mem_map.1 he1
      have hf := find_entry h.ok.nd he1
      simp only [entM] at hf he2
      have hnd : (E.map (·.born)).Nodup := by have := h.ok.nd; rw [List.map_map] at this; exact this
      have hst := seenF_step (fun e : SpE => e.born) hnd hx he2
      -- a new key
      have hnk : mGet x.s.id ((cpyE (ob.length + 3) 0 T).map entM) = none := mGet_none fun y hy => by
        obtain ⟨z, hz, rfl⟩ := List.mem_map.1 hy
        obtain ⟨k, e, h1, h2, rfl, _⟩ := cpyE_mem _ T 0 z hz
        have h2' := List.mem_filter.1 (hT.mem_iff.1 h2)
        show e.s.id ≠ x.s.id
        intro hc
        have hk : ((E.map entM).map (·.2.1)).Nodup := h.ok.kd
        rw [List.map_map] at hk
        have : e = x := by
          have hi := List.nodup_iff_pairwise_ne.1 hk
          rw [List.pairwise_map] at hi
          rcases List.mem_iff_getElem.1 h2'.1 with ⟨p, hp, hpe⟩
          rcases List.mem_iff_getElem.1 hx with ⟨q, hq, hqe⟩
          rcases Nat.lt_trichotomy p q with hlt | heq | hgt
          · have := List.pairwise_iff_getElem.1 hi p q hp hq hlt
            rw [hpe, hqe] at this; exact absurd hc this
          · subst heq; rw [← hpe, ← hqe]
          · have := List.pairwise_iff_getElem.1 hi q p hq hp hgt
            rw [hpe, hqe] at this; exact absurd hc.symm this
        subst this
        have h3 := h2'.2
        rw [he2] at h3; cases h3
      obtain ⟨O2, hO2e⟩ : ∃ O2, O.set (ob.length + 2) (.iter m ck (seen ++ [x.born]) ck) = O2 := ⟨_, rfl⟩
      have hl2 : O2.length = O.length := by rw [← hO2e]; simp
      have g0 : O2[ob.length]? = some (.map T.length ((cpyE (ob.length + 3) 0 T).map entM)) := by rw [← hO2e, List.getElem?_set_ne (by omega)]; exact hO0
      have g1 : O2[ob.length + 1]? = some (.box [.int .i64 cap, .mp ob.length]) := by rw [← hO2e, List.getElem?_set_ne (by omega)]; exact hO1
      have g2 : O2[ob.length + 2]? = some (.iter m ck (seen ++ [x.born]) ck) := by rw [← hO2e, List.getElem?_set_self (by omega)]
      have gm : O2[m]? = some (.map ck (E.map entM)) := by rw [← hO2e, List.getElem?_set_ne (by omega)]; exact hOm
      have gs : O2[x.sb]? = some (.box [.int .i64 x.s.size, .mp x.sm]) := by rw [← hO2e, List.getElem?_set_ne (by have := lt_of_get (h.sp x hx); omega)]; exact hOi (h.sp x hx)
      have gp : O2[x.sm]? = some (.map x.ck x.es) := by rw [← hO2e, List.getElem?_set_ne (by have := lt_of_get (h.mp x hx); omega)]; exact hOi (h.mp x hx)
      have G0 := fun l => apL g0 l
      have G1 := fun l => apL g1 l
      have Gs := fun l => apL gs l
      have n1 : (x.sb == O2.length) = false := by have := lt_of_get gs; simp; omega
      have n2 : (ob.length + 1 == O2.length) = false := by have := lt_of_get g1; simp; omega
      have hsA := sA (lt_of_get g0)
      have hfin : O2.set ob.length (.map (T.length + 1) ((cpyE (ob.length + 3) 0 T).map entM ++ [(T.length, x.s.id, .ref O2.length 0)])) ++ [.box [.int .i64 x.s.size, .mp (O2.length + 1)], .map x.ck x.es] =
          ob ++ (.map (T ++ [x]).length ((cpyE (ob.length + 3) 0 (T ++ [x])).map entM) :: .box [.int .i64 cap, .mp ob.length] :: .iter m ck (seen ++ [x.born]) ck :: cpyO (ob.length + 3) 0 (T ++ [x])) := by
        have hl3 : O2.length = ob.length + 3 + 2 * (0 + T.length) := by omega
        rw [hl3, ← hO2e, ← hO, st2, st0, cpyE_snoc, cpyO_snoc]
        simp [entM]
      simp (config := {maxSteps := 4000000}) only [U_model_Model_Copy, hO2e, g2, gm, hf, entM, reduceIte, reduceCtorEq, Nat.reduceEqDiff, Nat.reduceAdd, Int.reduceLT, Int.reduceLE, Int.reduceNeg, Int.reduceEq, Nat.reduceLT, Nat.reduceSub, Nat.reduceMul, Nat.reduceBEq, Nat.reduceLeDiff, Int.reduceBEq, Int.reduceBNe, Int.reduceToNat, ne_eq, implies_true, bA]
      simp (config := {maxSteps := 4000000}) only [U_model_Model_Copy, ap0, ap1, st0, Gs, G0, G1, n1, n2, hO2e, reduceIte, reduceCtorEq, Nat.reduceEqDiff, Nat.reduceAdd, Int.reduceLT, Int.reduceLE, Int.reduceNeg, Int.reduceEq, Nat.reduceLT, Nat.reduceSub, Nat.reduceMul, Nat.reduceBEq, Nat.reduceLeDiff, Int.reduceBEq, Int.reduceBNe, Int.reduceToNat, ne_eq, implies_true, bA]
      refine ⟨⟨⟨?_, ?_⟩, ?_⟩, ?_⟩
      all_goals
        refine callM (clone_i (apL gp _)) ?_
        rintro r ob' ⟨rfl, rfl⟩
        simp (config := {maxSteps := 4000000}) only [U_model_Model_Copy, ap0, ap1, st0, Gs, G0, G1, n1, n2, hnk, hsA, reduceIte, reduceCtorEq, Nat.reduceEqDiff, Nat.reduceAdd, Int.reduceLT, Int.reduceLE, Int.reduceNeg, Int.reduceEq, Nat.reduceLT, Nat.reduceSub, Nat.reduceMul, Nat.reduceBEq, Nat.reduceLeDiff, Int.reduceBEq, Int.reduceBNe, Int.reduceToNat, ne_eq, implies_true, bA]
        refine ⟨(seen ++ [x.born], T ++ [x]), ?_, (List.perm_append_singleton _ _).trans ((hT.cons x).trans hst.symm), left_step he⟩
        rw [← hfin]
end Go.Proofs.Ythjnfjgejdlbfaa.Aw
