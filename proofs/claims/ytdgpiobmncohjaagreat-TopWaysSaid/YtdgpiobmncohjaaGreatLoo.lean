/-
  slices.Contains at extents; two lists alike.; Extents let take the place of others.; The extents below a node handed on.; A tree's extents, all of them or those near a range; what it says of a sector; laying over and cutting.
-/
import Derived.Test.YtdgpiobmncohjaaGreatExt
import Derived.Test.YtdgpiobmncohjaaGreatKdn
import Derived.Test.YtdgpiobmncohjaaGreatAwFit
import Derived.Test.YtdgpiobmncohjaaGreatShf
set_option linter.unusedSimpArgs false
set_option linter.unusedVariables false
set_option maxRecDepth 100000
namespace Go.Proofs.YtdgpiobmncohjaaGreat.Aw
open Go.RowKit

theorem xt_eq (a b : Xt) : (a.fr == b.fr && (a.n == b.n && (a.kd == b.kd && a.at_ == b.at_))) = decide (a = b) := by
  rw [Bool.eq_iff_iff]
  cases a; cases b
  simp
theorem idxE_spec (l : List Xt) (e : Xt) (hm : l.length ≤ 9223372036854775807) : PCall Tryz.prog 70 [.slc (l.map rowE), pE e] (.int .i64 (idxS (fun x => decide (e = x)) l)) := by
  refine pcall_dr Tryz.func70 cm56 ?_
  simp only [U56, rowE, seval, bA]
  refine loopF (fun i : Nat => ⟨ofL [(0, .slc (l.map rowE)), (3, .ref 0 0), (7, .int .i64 l.length), (8, .int .i64 i)], [AObj.box (rowE e)]⟩)
    (fun i => i ≤ l.length ∧ ∀ j (h : j < l.length), j < i → decide (e = l[j]) = false) (fun i => l.length - i) 0 ?_ ⟨Nat.zero_le _, fun j _ h => absurd h (by omega)⟩ ?_
  · simp only [U56, rowE, seval, bA]
    all_goals rfl
  · intro i ⟨hi, hj⟩
    by_cases h : i < l.length
    · have d : decide ((i : Int) < (l.length : Int)) = true := by simpa using h
      have e1 : IntKind.i64.wrap ((i : Int) + 1) = ((i + 1 : Nat) : Int) := by rw [wrapI (by omega) (by omega)]; omega
      by_cases he : e = l[i]
      · have dq := decide_eq_true he
        have hq := xt_eq e l[i]
        rw [dq] at hq
        simp only [U56, d, islV_map (g := rowE) h (rowE_len _), rowE, hq, seval, bA]
        rw [idx_hit (c := fun x => decide (e = x)) h (decide_eq_true he) hj]
      · have dq := decide_eq_false he
        have hq := xt_eq e l[i]
        rw [dq] at hq
        simp only [U56, d, islV_map (g := rowE) h (rowE_len _), rowE, hq, e1, seval, bA]
        refine ⟨i + 1, rfl, ⟨h, fun j hl hlt => ?_⟩, by omega⟩
        by_cases e : j = i
        · subst e; exact decide_eq_false he
        · exact hj j hl (by omega)
    · have d : decide ((i : Int) < (l.length : Int)) = false := by simpa using h
      simp only [U56, d, seval, bA]
      rw [idx_none (c := fun x => decide (e = x)) fun j hl => hj j hl (by omega)]
theorem con_spec (l : List Xt) (e : Xt) (hm : l.length ≤ 9223372036854775807) : PCall Tryz.prog 49 [.slc (l.map rowE), pE e] (.bool (decide (e ∈ l))) := by
  refine pcall_dr Tryz.func49 cm48 ?_
  simp only [U48, rowE, seval, bA]
  refine callI (idxE_spec l e hm) ?_
  simp only [U48, rowE, seval, bA]
  congr 1
  rcases idx_cases (fun x => decide (e = x)) l with ⟨p, hp, hi, hc, hj⟩ | ⟨hi, hj⟩
  · rw [hi]
    have : e ∈ l := by have := of_decide_eq_true hc; rw [this]; exact List.getElem_mem hp
    simp [this]
  · rw [hi]
    have : e ∉ l := fun hm => by
      obtain ⟨j, h, rfl⟩ := List.getElem_of_mem hm
      have := hj j h
      simp at this
    simp [this]
theorem alike_spec (a b : List Xt) (ha : a.length ≤ 9223372036854775807) (hb : b.length ≤ 9223372036854775807) : PCall Tryz.prog 10 [.slc (a.map rowE), .slc (b.map rowE)] (.bool (decide (a = b))) := by
  refine pcall_go Tryz.func10 cm62 ?_
  by_cases hl : a.length = b.length
  · have d0 : ((a.length : Int) != (b.length : Int)) = false := by simp only [bne_eq_false_iff_eq]; omega
    simp only [U62, d0, seval, bA]
    refine loopF (fun i : Nat => ⟨ofL [(0, .slc (a.map rowE)), (1, .slc (b.map rowE)), (5, .int .i64 i)], []⟩) (fun i => i ≤ a.length ∧ ∀ j (h1 : j < a.length) (h2 : j < b.length), j < i → a[j] = b[j]) (fun i => a.length - i) 0 ?_ ⟨Nat.zero_le _, fun j _ _ h => absurd h (by omega)⟩ ?_
    · simp only [U62, seval, bA]
      all_goals rfl
    · intro i ⟨hi, hj⟩
      by_cases h : i < a.length
      · have d : decide ((i : Int) < (a.length : Int)) = true := by simpa using h
        have h' : i < b.length := by omega
        have e1 : IntKind.i64.wrap ((i : Int) + 1) = ((i + 1 : Nat) : Int) := by rw [wrapI (by omega) (by omega)]; omega
        by_cases he : a[i] = b[i]
        · have dq := decide_eq_true he
          rw [← xt_eq] at dq
          simp only [U62, d, islV_map (g := rowE) h (rowE_len _), islV_map (g := rowE) h' (rowE_len _), rowE, dq, e1, seval, bA]
          refine ⟨i + 1, rfl, ⟨h, fun j h1 h2 hlt => ?_⟩, by omega⟩
          by_cases e : j = i
          · subst e; exact he
          · exact hj j h1 h2 (by omega)
        · have dq := decide_eq_false he
          rw [← xt_eq] at dq
          have hne : a ≠ b := fun e => he (by subst e; rfl)
          simp only [U62, d, islV_map (g := rowE) h (rowE_len _), islV_map (g := rowE) h' (rowE_len _), rowE, dq, seval, bA]
          simp [hne]
      · have d : decide ((i : Int) < (a.length : Int)) = false := by simpa using h
        have hab : a = b := List.ext_getElem hl fun j h1 h2 => hj j h1 h2 (by omega)
        simp only [U62, d, seval, bA]
        simp [hab]
  · have d0 : ((a.length : Int) != (b.length : Int)) = true := by simp only [bne_iff_ne, ne_eq]; omega
    have hne : a ≠ b := fun e => hl (by rw [e])
    simp only [U62, d0, seval, bA]
    simp [hne]
end Go.Proofs.YtdgpiobmncohjaaGreat.Aw
namespace Go.Proofs.YtdgpiobmncohjaaGreat.Aw
open Go.RowKit Ar

/-- A list of extents of the caller's own, or none. -/
def OwnL (ob : List AObj) (v : PV) (m : Nat) (W : List Xt) : Prop := (W = [] ∧ v = .nils) ∨ (v = .osl m 0 W.length ∧ ob[m]? = some (.list 4 (W.map rowE)))
theorem OwnL.same {ob ob' : List AObj} {T : Nat → Prop} {v : PV} {m : Nat} {W : List Xt} (h : OwnL ob v m W) (hS : Same ob ob' T) (hT : ¬ T m) : OwnL ob' v m W := by
  rcases h with h | ⟨h1, h2⟩
  · exact .inl h
  · exact .inr ⟨h1, hS.get h2 hT⟩

theorem Sub.trans {ob ob' : List AObj} {a b c : List Nat} (h : Sub ob a b) (hl : ob.length ≤ ob'.length) (k : Sub ob' b c) : Sub ob a c := by
  intro i hi
  rcases k i hi with h1 | h1
  · exact h i h1
  · exact .inr (by omega)
/-- One change behind another. -/
theorem TreeR.trans {ob ob1 ob2 : List AObj} {t : Nat} {fp fp1 : List Nat} {l : List Xt} (htl : t < ob.length) (hS : Same ob ob1 (· ∈ t :: fp)) (hsub : Sub ob fp fp1) (h : TreeR ob1 t fp1 l ob2) : TreeR ob t fp l ob2 := by
  obtain ⟨fp', hT, hsub', hS'⟩ := h.ex
  refine ⟨fp', hT, hsub.trans hS.1 hsub', ⟨Nat.le_trans hS.1 hS'.1, fun j hj hn => ?_⟩⟩
  refine (hS'.2 j (Nat.lt_of_lt_of_le hj hS.1) fun hm => ?_).trans (hS.2 j hj hn)
  rcases List.mem_cons.1 hm with rfl | hm
  · exact hn (by simp)
  · rcases hsub j hm with h1 | h1
    · exact hn (by simp [h1])
    · omega
theorem islO_own {ob : List AObj} {m : Nat} {W : List Xt} {j : Nat} (h : ob[m]? = some (.list 4 (W.map rowE))) (hj : j < W.length) : islO ob[m]? 4 m 0 W.length (.int .i64 (j : Int)) = some (.lref m j 0 W.length) := by
  rw [h]; exact islO_map rfl hj
theorem ldL_own {ob : List AObj} {m : Nat} {W : List Xt} {j : Nat} (h : ob[m]? = some (.list 4 (W.map rowE))) (hj : j < W.length) : ldL ob[m]? j 0 W.length 4 = some (rowE W[j]) := by
  rw [h, ldL_map (g := rowE) rfl hj (by simp [rowE])]; rfl
theorem rowsO_own {ob : List AObj} {m : Nat} {W : List Xt} (h : ob[m]? = some (.list 4 (W.map rowE))) : rowsO ob[m]? 0 W.length = some (W.map rowE) := by
  rw [h]; simp [rowsO]

theorem change_i {ob : List AObj} {t m : Nat} {fp : List Nat} {A B W I : List Xt} {wv : PV} (hT : TreeAt ob t (A ++ (W ++ B)) fp) (hc : Chg A B W I) (hw : OwnL ob wv m W) (hm : m ∉ t :: fp) (hWl : W.length ≤ 16777216) (hIl : I.length ≤ 16777216) :
    ICall Tryz.prog 25 [.ref t 0, wv, .slc (I.map rowE)] ob fun _ ob' => TreeR ob t fp (A ++ (I ++ B)) ob' := by
  have htl := hT.lt t (by simp)
  refine icall_dr Tryz.func25 cm71 ?_
  rcases hw with ⟨rfl, rfl⟩ | ⟨rfl, hwm⟩
  · simp only [U71, seval, bA]
    refine loopF (fun x : Nat => ⟨ofL [(0, .ref t 0), (1, .nils), (2, .slc (I.map rowE)), (10, .nils), (11, .int .i64 (0 : Int)), (12, .int .i64 (0 : Int))], ob⟩) (fun _ => True) (fun _ => 0) 0 ?_ trivial ?_
    · simp only [U71, seval, bA]
      all_goals rfl
    intro _ _
    simp only [U71, seval, bA]
    refine loopF (fun x : Nat × List AObj => ⟨ofL [(0, .ref t 0), (1, .nils), (25, .slc (I.map rowE)), (26, .int .i64 I.length), (27, .int .i64 x.1)], x.2⟩)
      (fun x => x.1 ≤ I.length ∧ Same ob x.2 (· ∈ t :: fp) ∧ ∃ l fp', PutAt A B [] I x.1 l ∧ TreeAt x.2 t l fp' ∧ Sub ob fp fp') (fun x => I.length - x.1) (0, ob) ?_ ⟨Nat.zero_le _, Same.refl _ _, _, fp, (TakeAt.zero hc).done hc, hT, fun i hi => .inl hi⟩ ?_
    · simp only [U71, seval, bA]
      all_goals rfl
    rintro ⟨j, ob2⟩ ⟨hj, hS2, l2, fp2, hP2, hT2, hsub2⟩
    simp only at hj hS2 hP2 hT2 hsub2
    by_cases h : j < I.length
    · have d : decide ((j : Int) < (I.length : Int)) = true := by simpa using h
      have e1 : IntKind.i64.wrap ((j : Int) + 1) = ((j + 1 : Nat) : Int) := by rw [wrapI (by omega) (by omega)]; omega
      have g1 : ∀ (x : AObj), (ob2 ++ [x])[ob2.length]? = some x := fun x => app0 ob2 x
      have g2 := setA ob2
      simp only [U71, d, islV_map (g := rowE) h (rowE_len _), rowE, g1, g2, seval, bA]
      refine callI (PCall.nzA (args' := [.nils, pE I[j]]) (con_spec [] I[j] (by simp)) rfl) ?_
      have hSa : Same ob2 (ob2 ++ [AObj.box (rowE I[j])]) (fun _ => False) := Same.app _ _ _
      simp only [rowE] at hSa
      have hS3 := hS2.trans (hSa.mono (fun _ h => h.elim))
      have hT3 := hT2.same hSa (fun _ _ h => h)
      by_cases hin : I[j] ∈ []
      · have dc : decide (I[j] ∈ []) = true := decide_eq_true hin
        simp only [U71, dc, e1, seval, bA]
        exact ⟨(j + 1, _), rfl, ⟨h, hS3, l2, fp2, hP2.skip h hin, hT3, hsub2⟩, by simp only; omega⟩
      · have dc : decide (I[j] ∈ []) = false := decide_eq_false hin
        simp only [U71, dc, e1, rowE, g1, seval, bA]
        have hbe := hc.bf I[j] (by simp)
        have hput := put_i (e := I[j]) hT3 hP2.s (fun x hx => hc.bf x (hP2.sub x hx)) hbe
        simp only [pE, rowE] at hput
        refine callM hput ?_
        intro r ob4 hR
        obtain ⟨fp', hT4, hsub4, hS4⟩ := (TreeR.trans htl hS3 hsub2 hR).ex
        simp only [U71, e1, seval, bA]
        exact ⟨(j + 1, _), rfl, ⟨h, hS4, _, fp', hP2.step hc h hin, hT4, hsub4⟩, by simp only; omega⟩
    · have d : decide ((j : Int) < (I.length : Int)) = false := by simpa using h
      have hje : j = I.length := by omega
      subst hje
      have hl := hP2.done hc
      subst hl
      simp only [U71, d, seval, bA]
      exact ⟨_, rfl, fp2, hT2, hsub2, hS2⟩
  · have ho := rowsO_own hwm
    simp only [U71, ho, List.length_map, seval, bA]
    refine loopF (fun x : Nat × List AObj => ⟨ofL [(0, .ref t 0), (1, .osl m 0 W.length), (2, .slc (I.map rowE)), (10, .osl m 0 W.length), (11, .int .i64 W.length), (12, .int .i64 x.1)], x.2⟩)
      (fun x => x.1 ≤ W.length ∧ Same ob x.2 (· ∈ t :: fp) ∧ ∃ l fp', TakeAt A B W I x.1 l ∧ TreeAt x.2 t l fp' ∧ Sub ob fp fp') (fun x => W.length - x.1) (0, ob) ?_ ⟨Nat.zero_le _, Same.refl _ _, _, fp, TakeAt.zero hc, hT, fun i hi => .inl hi⟩ ?_
    · simp only [U71, seval, bA]
      all_goals rfl
    rintro ⟨j, ob1⟩ ⟨hj, hS1, l1, fp1, hP1, hT1, hsub1⟩
    simp only at hj hS1 hP1 hT1 hsub1
    by_cases h : j < W.length
    · have d : decide ((j : Int) < (W.length : Int)) = true := by simpa using h
      have e1 : IntKind.i64.wrap ((j : Int) + 1) = ((j + 1 : Nat) : Int) := by rw [wrapI (by omega) (by omega)]; omega
      have g1 : ∀ (x : AObj), (ob1 ++ [x])[ob1.length]? = some x := fun x => app0 ob1 x
      have g2 := setA ob1
      have hw1 := hS1.get hwm hm
      have hw2 : ∀ x : AObj, (ob1 ++ [x])[m]? = ob1[m]? := fun x => by rw [app1 hw1 [x], hw1]
      have hi1 := islO_own hw1 h
      have hl1 := ldL_own hw1 h
      simp only [U71, d, hi1, hl1, hw2, rowE, g1, g2, seval, bA]
      refine callI (con_spec I W[j] (by omega)) ?_
      have hSa : Same ob1 (ob1 ++ [AObj.box (rowE W[j])]) (fun _ => False) := Same.app _ _ _
      simp only [rowE] at hSa
      have hS3 := hS1.trans (hSa.mono (fun _ h => h.elim))
      have hT3 := hT1.same hSa (fun _ _ h => h)
      by_cases hin : W[j] ∈ I
      · have dc : decide (W[j] ∈ I) = true := decide_eq_true hin
        simp only [U71, dc, e1, seval, bA]
        exact ⟨(j + 1, _), rfl, ⟨h, hS3, l1, fp1, hP1.skip h hin, hT3, hsub1⟩, by simp only; omega⟩
      · have dc : decide (W[j] ∈ I) = false := decide_eq_false hin
        simp only [U71, dc, e1, rowE, g1, ldB1, seval, bA]
        have hne : l1 ≠ [] := fun e => by have := hP1.has hc h; rw [e] at this; cases this
        refine callM (take_i (f := W[j].fr) hT3 hP1.s hne) ?_
        intro r ob4 hR
        obtain ⟨fp', hT4, hsub4, hS4⟩ := (TreeR.trans htl hS3 hsub1 hR).ex
        simp only [U71, e1, seval, bA]
        exact ⟨(j + 1, _), rfl, ⟨h, hS4, _, fp', hP1.step hc h hin, hT4, hsub4⟩, by simp only; omega⟩
    · have d : decide ((j : Int) < (W.length : Int)) = false := by simpa using h
      have hje : j = W.length := by omega
      subst hje
      simp only [U71, d, seval, bA]
      refine loopF (fun x : Nat × List AObj => ⟨ofL [(0, .ref t 0), (1, .osl m 0 W.length), (25, .slc (I.map rowE)), (26, .int .i64 I.length), (27, .int .i64 x.1)], x.2⟩)
        (fun x => x.1 ≤ I.length ∧ Same ob x.2 (· ∈ t :: fp) ∧ ∃ l fp', PutAt A B W I x.1 l ∧ TreeAt x.2 t l fp' ∧ Sub ob fp fp') (fun x => I.length - x.1) (0, ob1) ?_ ⟨Nat.zero_le _, hS1, l1, fp1, hP1.done hc, hT1, hsub1⟩ ?_
      · simp only [U71, seval, bA]
        all_goals rfl
      rintro ⟨j, ob2⟩ ⟨hj, hS2, l2, fp2, hP2, hT2, hsub2⟩
      simp only at hj hS2 hP2 hT2 hsub2
      by_cases h : j < I.length
      · have d : decide ((j : Int) < (I.length : Int)) = true := by simpa using h
        have e1 : IntKind.i64.wrap ((j : Int) + 1) = ((j + 1 : Nat) : Int) := by rw [wrapI (by omega) (by omega)]; omega
        have g1 : ∀ (x : AObj), (ob2 ++ [x])[ob2.length]? = some x := fun x => app0 ob2 x
        have g2 := setA ob2
        have hw2 := hS2.get hwm hm
        have hw3 : ∀ x : AObj, (ob2 ++ [x])[m]? = some (.list 4 (W.map rowE)) := fun x => app1 hw2 [x]
        have ho3 : rowsO (some (AObj.list 4 (W.map rowE))) 0 W.length = some (W.map rowE) := by simp [rowsO]
        simp only [U71, d, islV_map (g := rowE) h (rowE_len _), rowE, g1, g2, hw3, ho3, seval, bA]
        refine callS (con_spec W I[j] (by omega)) rfl ?_
        have hSa : Same ob2 (ob2 ++ [AObj.box (rowE I[j])]) (fun _ => False) := Same.app _ _ _
        simp only [rowE] at hSa
        have hS3 := hS2.trans (hSa.mono (fun _ h => h.elim))
        have hT3 := hT2.same hSa (fun _ _ h => h)
        by_cases hin : I[j] ∈ W
        · have dc : decide (I[j] ∈ W) = true := decide_eq_true hin
          simp only [U71, dc, e1, seval, bA]
          exact ⟨(j + 1, _), rfl, ⟨h, hS3, l2, fp2, hP2.skip h hin, hT3, hsub2⟩, by simp only; omega⟩
        · have dc : decide (I[j] ∈ W) = false := decide_eq_false hin
          simp only [U71, dc, e1, rowE, g1, seval, bA]
          have hbe := hc.bf I[j] (by simp)
          have hput := put_i (e := I[j]) hT3 hP2.s (fun x hx => hc.bf x (hP2.sub x hx)) hbe
          simp only [pE, rowE] at hput
          refine callM hput ?_
          intro r ob4 hR
          obtain ⟨fp', hT4, hsub4, hS4⟩ := (TreeR.trans htl hS3 hsub2 hR).ex
          simp only [U71, e1, seval, bA]
          exact ⟨(j + 1, _), rfl, ⟨h, hS4, _, fp', hP2.step hc h hin, hT4, hsub4⟩, by simp only; omega⟩
      · have d : decide ((j : Int) < (I.length : Int)) = false := by simpa using h
        have hje : j = I.length := by omega
        subst hje
        have hl := hP2.done hc
        subst hl
        simp only [U71, d, seval, bA]
        exact ⟨_, rfl, fp2, hT2, hsub2, hS2⟩
end Go.Proofs.YtdgpiobmncohjaaGreat.Aw
namespace Go.Proofs.YtdgpiobmncohjaaGreat.Aw
open Go.RowKit Ar

/-- What is handed on to: it answers as is said, and keeps what is known. -/
structure CbOk {σ : Type} (g : Nat) (cap : List PV) (Inv : σ → List AObj → Prop) (step : σ → Xt → Bool × σ) (len : σ → Nat) : Prop where
  grow : ∀ s e, len (step s e).2 ≤ len s + 1
  call : ∀ s ob e, OneP e → len s < 16777216 → Inv s ob → ICall Tryz.prog g (pE e :: cap) ob fun r ob' => r = .bool (step s e).1 ∧ Inv (step s e).2 ob'
  app : ∀ s ob x, Inv s ob → Inv s (ob ++ [x])
theorem run_len {σ : Type} {step : σ → Xt → Bool × σ} {len : σ → Nat} (hg : ∀ s e, len (step s e).2 ≤ len s + 1) : ∀ (l : List Xt) (s : σ), len (runX step l s).2 ≤ len s + l.length
  | [], s => Nat.le_refl _
  | e :: l, s => by
    rw [runX]
    have := hg s e
    split
    · have := run_len hg l (step s e).2
      simp only [List.length_cons]; omega
    · simp only [List.length_cons]; omega
def FromSpec (h : Nat) : Prop := ∀ {σ : Type} {g : Nat} {cap : List PV} {Inv : σ → List AObj → Prop} {step : σ → Xt → Bool × σ} {len : σ → Nat} {ob0 : List AObj} {k : Kd} {lo sec : Int},
  CbOk g cap Inv step len → Node ob0 h k → 1 ≤ k.s → k.s ≤ 8 → Chain lo k.l → (∀ s ob, Inv s ob → ∀ i ∈ k.fp, ob[i]? = ob0[i]?) → ∀ s ob, len s + (fltS sec k.l).length ≤ 16777216 → Inv s ob →
  ICall Tryz.prog 52 [nodeV h k, .int .i64 sec, .fn (.func g) [] cap] ob fun r ob' => r = .bool (runX step (fltS sec k.l) s).1 ∧ Inv (runX step (fltS sec k.l) s).2 ob'
theorem fltS_drop {sec : Int} {l : List Xt} {j : Nat} (h : j < l.length) : fltS sec (l.drop j) = if sec < endE l[j] then l[j] :: fltS sec (l.drop (j + 1)) else fltS sec (l.drop (j + 1)) := by
  rw [List.drop_eq_getElem_cons h, fltS, List.filter_cons]
  by_cases hc : sec < endE l[j]
  · rw [if_pos (decide_eq_true hc), if_pos hc]; rfl
  · rw [if_neg (by simpa using hc), if_neg hc]; rfl
theorem from_leaf : FromSpec 0 := by
  intro σ g cap Inv step len ob0 k lo sec hcb hN h1 h8 hch hfr s ob hlen0 hI
  obtain ⟨q, off, c, hL⟩ := hN
  obtain ⟨a, hbx⟩ := hL.bx
  have hsz := hL.sz
  have hA := hL.ar
  rw [hsz] at hA hbx
  have hbx' := fun s ob hI => (hfr s ob hI k.p (by rw [hL.fp]; simp)).trans hbx
  have hA' := fun s ob hI => hA.keep (hfr s ob hI q (by rw [hL.fp]; simp))
  have hb0 := hbx' s ob hI
  obtain ⟨tot, htot⟩ : ∃ tot, runX step (fltS sec k.l) s = tot := ⟨_, rfl⟩
  rw [htot]
  rw [nodeV_0]
  refine icall_dr Tryz.func52 cm79 ?_
  simp only [U79, hb0, ldB1, seval, bA]
  refine loopF (fun x : Nat × σ × List AObj => ⟨ofL [(1, .int .i64 sec), (2, .fn (.func g) [] cap), (20, .asl q off k.l.length c), (21, .int .i64 k.l.length), (22, .int .i64 x.1)], x.2.2⟩)
    (fun x => x.1 ≤ k.l.length ∧ Inv x.2.1 x.2.2 ∧ runX step (fltS sec (k.l.drop x.1)) x.2.1 = tot ∧ len x.2.1 + (fltS sec (k.l.drop x.1)).length ≤ 16777216) (fun x => k.l.length - x.1) (0, s, ob) ?_ ⟨Nat.zero_le _, hI, htot, hlen0⟩ ?_
  · simp only [U79, seval, bA]
    all_goals rfl
  rintro ⟨j, s', ob'⟩ ⟨hj, hI', hrun, hlj⟩
  simp only at hj hI' hrun hlj
  by_cases h : j < k.l.length
  · have d : decide ((j : Int) < (k.l.length : Int)) = true := by simpa using h
    have d' : decide (j < k.l.length) = true := by simpa using h
    have e1 : IntKind.i64.wrap ((j : Int) + 1) = ((j + 1 : Nat) : Int) := by rw [wrapI (by omega) (by omega)]; omega
    have hld := ldX (hA' s' ob' hI') h
    have hone := chain_one hch _ (List.getElem_mem h)
    have w : IntKind.i64.wrap (k.l[j].fr + k.l[j].n) = endE k.l[j] := by rw [wrapI (by have := hone.1; have := hone.2.1; omega) (by have := hone.2.2.2.1; omega)]; rfl
    have g1 : ∀ (x : AObj), (ob' ++ [x])[ob'.length]? = some x := fun x => app0 ob' x
    have g2 := setA ob'
    rw [fltS_drop h] at hrun hlj
    by_cases hs : sec < endE k.l[j]
    · have ds : decide (sec < endE k.l[j]) = true := decide_eq_true hs
      rw [if_pos hs] at hlj
      rw [if_pos hs, runX] at hrun
      simp only [List.length_cons] at hlj
      have hgr := hcb.grow s' k.l[j]
      simp only [U79, d, d', hld, rowE, g1, g2, ldB1, w, ds, seval, bA]
      refine callM (hcb.call s' _ _ hone (by omega) (hcb.app _ _ _ hI')) ?_
      rintro r ob2 ⟨rfl, hI2⟩
      by_cases hb : (step s' k.l[j]).1 = true
      · rw [if_pos hb] at hrun
        simp only [U79, hb, e1, seval, bA]
        exact ⟨(j + 1, (step s' k.l[j]).2, ob2), rfl, ⟨h, hI2, hrun, by simp only []; omega⟩, by simp only; omega⟩
      · rw [if_neg hb] at hrun
        simp only [Bool.not_eq_true] at hb
        simp only [U79, hb, seval, bA]
        exact ⟨_, rfl, by rw [← hrun], by rw [← hrun]; exact hI2⟩
    · have ds : decide (sec < endE k.l[j]) = false := decide_eq_false hs
      rw [if_neg hs] at hrun hlj
      simp only [U79, d, d', hld, rowE, g1, g2, ldB1, w, ds, e1, seval, bA]
      exact ⟨(j + 1, s', _), rfl, ⟨h, hcb.app _ _ _ hI', hrun, hlj⟩, by simp only; omega⟩
  · have d : decide ((j : Int) < (k.l.length : Int)) = false := by simpa using h
    have hd : k.l.drop j = [] := List.drop_eq_nil_of_le (by omega)
    rw [hd] at hrun
    simp only [fltS, List.filter_nil, runX] at hrun
    simp only [U79, d, seval, bA]
    exact ⟨_, rfl, by rw [← hrun], by rw [← hrun]; exact hI'⟩

/-- What stands ahead of the kid under which a sector stands ends there. -/
theorem about_end {ks A B : List Kd} {x : Kd} {v lo : Int} {i : Nat} (hi : i = undF (keyK ks) v (ks.length - 1)) (hA : About ks v i A x B) (hc : Chain lo (ks.flatMap (·.l))) (hx : x.l ≠ []) : ∀ y ∈ A.flatMap (·.l), endE y ≤ v := by
  intro y hy
  have hat := undF_at (keyK ks) v (ks.length - 1)
  rw [← hi] at hat
  rcases hat with h0 | h0
  · have : A = [] := List.eq_nil_of_length_eq_zero (by rw [hA.len, h0])
    rw [this] at hy; simp at hy
  · have hlt := (List.getElem?_eq_some_iff.1 hA.at).1
    have hke : keyK ks i = keyX x.l := by simp [keyK, hA.at]
    rw [hke] at h0
    rw [hA.eq, List.flatMap_append, List.flatMap_cons] at hc
    obtain ⟨m, _, h2, h3⟩ := chain_right hc
    obtain ⟨z, hz, hzk⟩ := keyX_mem hx
    have := chain_ge h2 z (by simp [hz])
    have := h3 y hy
    omega
theorem from_inner {h' : Nat} (IH : FromSpec h') : FromSpec (h' + 1) := by
  intro σ g cap Inv step len ob0 k lo sec hcb hN h1 h8 hch hfr s ob hlen0 hI
  obtain ⟨q, off, c, ks, hIn, hk⟩ := hN
  obtain ⟨a, hbx⟩ := hIn.bx
  have hsz := hIn.sz
  have hA := hIn.ar
  have h0 : 0 < ks.length := by omega
  rw [hsz] at hA hbx
  have hpm : k.p ∈ k.fp := by rw [hIn.fp]; simp
  have hqm : q ∈ k.fp := by rw [hIn.fp]; simp
  have hxm : ∀ x ∈ ks, ∀ i ∈ x.fp, i ∈ k.fp := fun x hx i hi => by rw [hIn.fp]; simp only [List.mem_cons, List.mem_flatMap]; exact .inr (.inr ⟨x, hx, hi⟩)
  have hA' := fun s ob hI => hA.keep (hfr s ob hI q hqm)
  have hb0 := (hfr s ob hI k.p hpm).trans hbx
  have hI0 : InnerAt ob h' k q off c ks := ⟨hIn.fp, hIn.nd, hIn.sz, hIn.fl, ⟨a, by rw [hsz]; exact hb0⟩, by rw [hsz]; exact hA' s ob hI, hIn.cb⟩
  have hk0 : ∀ x ∈ ks, Node ob h' x ∧ 1 ≤ x.s := fun x hx => ⟨(hk x hx).1.frame fun i hi => hfr s ob hI i (hxm x hx i hi), by have := (hk x hx).2.1; omega⟩
  have hks : SortX (ks.flatMap (·.l)) := by have := chain_sort hch; rw [hIn.fl] at this; exact this
  have hne : ∀ x ∈ ks, x.l ≠ [] := fun x hx => (hk x hx).1.ne (by have := (hk x hx).2.1; omega)
  obtain ⟨A, x, B, hAb⟩ := about hks hne h0 sec
  have hfl := hIn.fl
  have hch' := hch
  rw [hfl] at hch'
  have hend := about_end rfl hAb hch' (hne x (by rw [hAb.eq]; simp))
  obtain ⟨tot, htot⟩ : ∃ tot, runX step (fltS sec k.l) s = tot := ⟨_, rfl⟩
  rw [htot]
  rw [nodeV_s]
  refine icall_dr Tryz.func52 cm79 ?_
  simp only [U79, hb0, ldB1, seval, bA]
  refine callR (under_r hI0 hk0 h0 (by omega) sec) ?_
  have hlen := hAb.len
  generalize undF (keyK ks) sec (ks.length - 1) = i at *
  have hi : i < ks.length := (List.getElem?_eq_some_iff.1 hAb.at).1
  have s0 : aslB 1 q off ks.length c (some (i : Int)) (some (ks.length : Int)) (some (c : Int)) = some (.asl q (off + i * 1) (ks.length - i) (c - i)) := aslB_n (by obtain ⟨_, _, h, _⟩ := hA; omega)
  simp only [U79, s0, seval, bA]
  have hdrop : fltS sec k.l = fltS sec ((ks.drop i).flatMap (·.l)) := by
    have e1 : ks.drop i = x :: B := by rw [← hlen, hAb.eq, List.drop_left]
    rw [hfl, e1, hAb.eq, List.flatMap_append, fltS_app, fltS_nil hend, List.nil_append]
  rw [hdrop] at htot hlen0
  refine loopF (fun x : Nat × σ × List AObj => ⟨ofL [(1, .int .i64 sec), (2, .fn (.func g) [] cap), (50, .asl q (off + i * 1) (ks.length - i) (c - i)), (51, .int .i64 (ks.length - i : Nat)), (52, .int .i64 x.1)], x.2.2⟩)
    (fun x => x.1 ≤ ks.length - i ∧ Inv x.2.1 x.2.2 ∧ runX step (fltS sec ((ks.drop (i + x.1)).flatMap (·.l))) x.2.1 = tot ∧ len x.2.1 + (fltS sec ((ks.drop (i + x.1)).flatMap (·.l))).length ≤ 16777216) (fun x => ks.length - x.1) (0, s, ob) ?_ ⟨Nat.zero_le _, hI, htot, hlen0⟩ ?_
  · simp only [U79, seval, bA]
    all_goals rfl
  rintro ⟨j, s', ob'⟩ ⟨hj, hI', hrun, hlj⟩
  simp only at hj hI' hrun hlj
  by_cases h : j < ks.length - i
  · have d : decide ((j : Int) < ((ks.length - i : Nat) : Int)) = true := by simpa using h
    have d' : decide (j < ks.length - i) = true := by simpa using h
    have e1 : IntKind.i64.wrap ((j : Int) + 1) = ((j + 1 : Nat) : Int) := by rw [wrapI (by omega) (by omega)]; omega
    have hij : i + j < ks.length := by omega
    have hld := ldK (hA' s' ob' hI') (i := i + j) (x := nodeV h' ks[i + j]) (by simp [hij])
    rw [show off + (i + j) * 1 = off + i * 1 + j * 1 by omega] at hld
    have hx := hk ks[i + j] (List.getElem_mem hij)
    rw [List.drop_eq_getElem_cons hij, List.flatMap_cons, fltS_app] at hlj
    rw [List.drop_eq_getElem_cons hij, List.flatMap_cons, fltS_app, runX_app] at hrun
    rw [List.length_append] at hlj
    have hgr := run_len hcb.grow (fltS sec ks[i + j].l) s'
    simp only [U79, d, d', hld, nodeV, ldB1, seval, bA]
    have hcx : ∃ lo', Chain lo' ks[i + j].l := by
      have hc := hch'
      rw [← List.take_append_drop (i + j) ks, List.flatMap_append, List.drop_eq_getElem_cons hij, List.flatMap_cons] at hc
      obtain ⟨m, _, h2, _⟩ := chain_right hc
      exact ⟨m, chain_left h2⟩
    obtain ⟨lo', hcx⟩ := hcx
    have hih := IH (sec := sec) hcb hx.1 (by omega) hx.2.2 hcx (fun s ob hI i' hi' => hfr s ob hI i' (hxm _ (List.getElem_mem hij) i' hi')) s' ob' (by omega) hI'
    simp only [nodeV] at hih
    refine callM hih ?_
    rintro r ob2 ⟨rfl, hI2⟩
    by_cases hb : (runX step (fltS sec ks[i + j].l) s').1 = true
    · rw [if_pos hb] at hrun
      simp only [U79, hb, e1, seval, bA]
      exact ⟨(j + 1, (runX step (fltS sec ks[i + j].l) s').2, ob2), rfl, ⟨h, hI2, by simp only []; rw [← Nat.add_assoc]; exact hrun, by simp only []; rw [← Nat.add_assoc]; omega⟩, by simp only; omega⟩
    · rw [if_neg hb] at hrun
      simp only [Bool.not_eq_true] at hb
      simp only [U79, hb, seval, bA]
      exact ⟨_, rfl, by rw [← hrun], by rw [← hrun]; exact hI2⟩
  · have d : decide ((j : Int) < ((ks.length - i : Nat) : Int)) = false := by simpa using h
    have hd : ks.drop (i + j) = [] := List.drop_eq_nil_of_le (by omega)
    rw [hd] at hrun
    simp only [List.flatMap_nil, fltS, List.filter_nil, runX] at hrun
    simp only [U79, d, seval, bA]
    exact ⟨_, rfl, by rw [← hrun], by rw [← hrun]; exact hI'⟩
theorem from_i : ∀ h, FromSpec h
  | 0 => from_leaf
  | h + 1 => from_inner (from_i h)

/-- All of a tree handed on. -/
theorem walk_i {σ : Type} {g : Nat} {cap : List PV} {Inv : σ → List AObj → Prop} {step : σ → Xt → Bool × σ} {len : σ → Nat} {ob0 ob : List AObj} {t : Nat} {l : List Xt} {fp : List Nat} {lo sec : Int} {s : σ}
    (hcb : CbOk g cap Inv step len) (hT : TreeAt ob0 t l fp) (hch : Chain lo l) (hfr : ∀ s ob, Inv s ob → ∀ i ∈ t :: fp, ob[i]? = ob0[i]?) (hlen : len s + l.length ≤ 16777216) (hI : Inv s ob) :
    ICall Tryz.prog 27 [.ref t 0, .int .i64 sec, .fn (.func g) [] cap] ob fun _ ob' => Inv (runX step (fltS sec l) s).2 ob' := by
  obtain ⟨v, hv, hTop⟩ := hT.ex
  have hv' := (hfr s ob hI t (by simp)).trans hv
  refine icall_dr Tryz.func27 cm76 ?_
  cases hTop with
  | nil =>
    simp only [U76, hv', ldB1, seval, bA]
    exact ⟨_, rfl, hI⟩
  | node h k hN h1 h2 h8 =>
    simp only [U76, hv', ldB1, nodeV, seval, bA]
    have hf := from_i h (sec := sec) hcb hN h1 h8 hch (fun s ob hI i hi => hfr s ob hI i (by simp [hi])) s ob (by have : (fltS sec k.l).length ≤ k.l.length := List.length_filter_le _ _; omega) hI
    simp only [nodeV] at hf
    refine callM hf ?_
    rintro r ob2 ⟨rfl, hI2⟩
    simp only [U76, seval, bA]
    exact ⟨_, rfl, hI2⟩
end Go.Proofs.YtdgpiobmncohjaaGreat.Aw
namespace Go.Proofs.YtdgpiobmncohjaaGreat.Aw
open Go.RowKit Ar

/-- What is gathered in a box. -/
structure OutAt (ob0 : List AObj) (b : Nat) (o : List Xt) (ob : List AObj) : Prop where
  s : Same ob0 ob (· = b)
  ex : ∃ v m, ob[b]? = some (.box [v]) ∧ OwnL ob v m o ∧ ob0.length ≤ m
theorem OutAt.app {ob0 : List AObj} {b : Nat} {o : List Xt} {ob : List AObj} (h : OutAt ob0 b o ob) (x : AObj) : OutAt ob0 b o (ob ++ [x]) := by
  obtain ⟨v, m, h1, h2, h3⟩ := h.ex
  have hS : Same ob (ob ++ [x]) (fun _ => False) := Same.app _ _ _
  exact ⟨h.s.trans (hS.mono fun _ h => h.elim), v, m, app1 h1 [x], h2.same hS (fun h => h), h3⟩
theorem rowsOk_one (e : Xt) : rowsOk 4 [[PV.int .i64 e.fr, .int .i64 e.n, .int .i64 e.kd, .int .i64 e.at_]] = true := by rfl

/-- One more gathered: the first, and a further one. -/
theorem appN (ob : List AObj) (e : Xt) : appO ob [] none 4 .nils (some [[.int .i64 e.fr, .int .i64 e.n, .int .i64 e.kd, .int .i64 e.at_]]) = some (.osl ob.length 0 1, ob ++ [AObj.list 4 ([e].map rowE)]) := by
  rw [appO_nils (rowsOk_one e) (by simp)]; rfl
theorem appM {ob : List AObj} {m : Nat} {o : List Xt} (e : Xt) (h : ob[m]? = some (.list 4 (o.map rowE))) (hl : o.length < 16777216) : appO ob [] none 4 (.osl m 0 o.length) (some [[.int .i64 e.fr, .int .i64 e.n, .int .i64 e.kd, .int .i64 e.at_]]) = some (.osl m 0 (o.length + 1), ob.set m (.list 4 ((o ++ [e]).map rowE))) := by
  rw [appO_osl rfl h (by simp) (by simp; omega) (rowsOk_one e) (by simp)]; simp [rowE]
theorem OutAt.put0 {ob0 : List AObj} {b : Nat} {ob : List AObj} {e : Xt} (hb : b < ob0.length) (h : OutAt ob0 b [] ob) : OutAt ob0 b [e] ((ob ++ [AObj.list 4 ([e].map rowE)]).set b (AObj.box [.osl ob.length 0 1])) := by
  have l0 := h.s.1
  have hS : Same ob (ob ++ [AObj.list 4 ([e].map rowE)]) (· = b) := Same.app _ _ _
  have hT : Same (ob ++ [AObj.list 4 ([e].map rowE)]) ((ob ++ [AObj.list 4 ([e].map rowE)]).set b (AObj.box [.osl ob.length 0 1])) (· = b) := Same.set rfl
  exact ⟨(h.s.trans hS).trans hT, _, ob.length, setS (by rw [List.length_append]; omega) _, .inr ⟨rfl, hT.get (app0 _ _) (by omega)⟩, l0⟩
theorem OutAt.put1 {ob0 : List AObj} {b m : Nat} {ob : List AObj} {o : List Xt} {e : Xt} (hb : b < ob0.length) (h : OutAt ob0 b o ob) (hm : ob[m]? = some (.list 4 (o.map rowE))) (h0 : ob0.length ≤ m) : OutAt ob0 b (o ++ [e]) ((ob.set m (AObj.list 4 ((o ++ [e]).map rowE))).set b (.box [.osl m 0 (o.length + 1)])) := by
  have l0 := h.s.1
  have hml := (List.getElem?_eq_some_iff.1 hm).1
  have hT : Same (ob.set m (AObj.list 4 ((o ++ [e]).map rowE))) ((ob.set m (AObj.list 4 ((o ++ [e]).map rowE))).set b (.box [.osl m 0 (o.length + 1)])) (· = b) := Same.set rfl
  refine ⟨⟨by rw [List.length_set, List.length_set]; exact l0, fun j hj hn => ?_⟩, _, m, setS (by rw [List.length_set]; omega) _, .inr ⟨by rw [List.length_append]; rfl, hT.get (setS hml _) (by omega)⟩, h0⟩
  rw [List.getElem?_set_ne (by omega), List.getElem?_set_ne (by omega)]
  exact h.s.2 j hj hn
theorem all_cb {ob0 : List AObj} {b : Nat} (hb : b < ob0.length) : CbOk 28 [.ref b 0] (OutAt ob0 b) (fun o e => (true, o ++ [e])) List.length where
  grow s e := by simp
  app s ob x h := h.app x
  call := by
    intro o ob e he hl h
    have hO := h.app (AObj.box (rowE e))
    refine icall_dr Tryz.func28 cm67 ?_
    simp only [U67, rowE, seval, bA]
    have f1 := app0 ob (AObj.box (rowE e))
    simp only [rowE] at f1 hO
    generalize ob ++ [AObj.box [.int .i64 e.fr, .int .i64 e.n, .int .i64 e.kd, .int .i64 e.at_]] = ob1 at *
    obtain ⟨v, m, f0, h2, h3⟩ := hO.ex
    have hap := appN ob1 e
    rcases h2 with ⟨rfl, rfl⟩ | ⟨rfl, hm⟩
    · have g1 : ∀ l, (ob1 ++ l)[b]? = _ := fun l => app1 f0 l
      simp only [U67, f0, f1, ldB1, hap, g1, seval, bA]
      exact ⟨_, rfl, rfl, hO.put0 hb⟩
    · have hg : ∀ x, (ob1.set m x)[b]? = _ := fun x => setO (x := x) (show m ≠ b by omega) f0
      have hap := appM e hm hl
      simp only [U67, f0, f1, ldB1, hap, hg, seval, bA]
      exact ⟨_, rfl, rfl, hO.put1 hb hm h3⟩
theorem near_cb {ob0 : List AObj} {b c1 c2 : Nat} {f t : Int} (hb : b < ob0.length) (h1 : ob0[c1]? = some (.box [.int .i64 t])) (h2 : ob0[c2]? = some (.box [.int .i64 f])) (hc1 : c1 ≠ b) (hc2 : c2 ≠ b) : CbOk 48 [.ref c1 0, .ref c2 0, .ref b 0] (OutAt ob0 b) (nearF f t) List.length where
  grow s e := by unfold nearF; split <;> (try split) <;> simp
  app s ob x h := h.app x
  call := by
    intro o ob e he hl h
    have hO := h.app (AObj.box (rowE e))
    refine icall_dr Tryz.func48 cm73 ?_
    simp only [U73, rowE, seval, bA]
    have f1 := app0 ob (AObj.box (rowE e))
    simp only [rowE] at f1 hO
    generalize ob ++ [AObj.box [.int .i64 e.fr, .int .i64 e.n, .int .i64 e.kd, .int .i64 e.at_]] = ob1 at *
    have k1 := hO.s.get h1 hc1
    have k2 := hO.s.get h2 hc2
    by_cases ht : t < e.fr
    · have dt : decide (t < e.fr) = true := decide_eq_true ht
      simp only [U73, f1, k1, ldB1, dt, seval, bA]
      refine ⟨_, rfl, ?_, ?_⟩
      · simp [nearF, ht]
      · simp only [nearF, if_pos ht]; exact hO
    · have dt : decide (t < e.fr) = false := decide_eq_false ht
      have w : IntKind.i64.wrap (e.fr + e.n) = endE e := by rw [wrapI (by have := he.1; have := he.2.1; omega) (by have := he.2.2.2.1; omega)]; rfl
      by_cases hf : f ≤ endE e
      · have df : decide (f ≤ endE e) = true := decide_eq_true hf
        have hst : nearF f t o e = (true, o ++ [e]) := by simp [nearF, ht, hf]
        rw [hst]
        obtain ⟨v, m, f0, h2, h3⟩ := hO.ex
        have hap := appN ob1 e
        rcases h2 with ⟨rfl, rfl⟩ | ⟨rfl, hm⟩
        · have g1 : ∀ l, (ob1 ++ l)[b]? = _ := fun l => app1 f0 l
          simp only [U73, f0, f1, k1, k2, ldB1, hap, g1, dt, df, w, seval, bA]
          exact ⟨_, rfl, rfl, hO.put0 hb⟩
        · have hg : ∀ x, (ob1.set m x)[b]? = _ := fun x => setO (x := x) (show m ≠ b by omega) f0
          have hap := appM e hm hl
          simp only [U73, f0, f1, k1, k2, ldB1, hap, hg, dt, df, w, seval, bA]
          exact ⟨_, rfl, rfl, hO.put1 hb hm h3⟩
      · have df : decide (f ≤ endE e) = false := decide_eq_false hf
        have hst : nearF f t o e = (true, o) := by simp [nearF, ht, hf]
        rw [hst]
        simp only [U73, f1, k1, k2, ldB1, dt, df, w, seval, bA]
        exact ⟨_, rfl, rfl, hO⟩

theorem all_i {ob : List AObj} {t : Nat} {l : List Xt} {fp : List Nat} (hT : TreeAt ob t l fp) (hch : Chain 0 l) :
    ICall Tryz.prog 9 [.ref t 0] ob fun r ob' => ∃ m, OwnL ob' r m l ∧ ob.length ≤ m ∧ Same ob ob' (fun _ => False) := by
  refine icall_dr Tryz.func9 cm66 ?_
  simp only [U66, seval, bA]
  have hS0 : Same ob (ob ++ [AObj.box [.nils]]) (fun _ => False) := Same.app _ _ _
  have f0 := app0 ob (AObj.box [.nils])
  have hl0 : (ob ++ [AObj.box [.nils]]).length = ob.length + 1 := by simp
  have hT0 := hT.same hS0 (fun _ _ h => h)
  have hlt := hT.lt
  generalize ob ++ [AObj.box [.nils]] = ob1 at *
  have hO : OutAt ob1 ob.length [] ob1 := ⟨Same.refl _ _, _, ob1.length, f0, .inl ⟨rfl, rfl⟩, Nat.le_refl _⟩
  have hw := walk_i (sec := -1) (s := []) (all_cb (ob0 := ob1) (b := ob.length) (by omega)) hT0 hch (fun s ob' h i hi => h.s.2 i (by have := hlt i hi; omega) (by have := hlt i hi; omega)) (by have := chain_len0 hch; simp only [List.length_nil]; omega) hO
  refine callM hw ?_
  intro r ob2 h
  have hfl : fltS (-1) l = l := List.filter_eq_self.2 fun e he => by
    have h1 := (chain_one hch e he).1
    have h2 := (chain_one hch e he).2.1
    exact decide_eq_true (show -1 < endE e by simp only [endE]; omega)
  rw [hfl, run_all] at h
  simp only [List.nil_append] at h
  obtain ⟨v, m, h1, h2, h3⟩ := h.ex
  simp only [U66, h1, ldB1, seval, bA]
  have hfin : Same ob ob2 (fun _ => False) := ⟨by have := h.s.1; omega, fun j hj _ => (h.s.2 j (by omega) (by omega)).trans (hS0.2 j hj (fun h => h))⟩
  rcases h2 with ⟨rfl, rfl⟩ | ⟨rfl, h2⟩
  · try simp only [U66, h1, ldB1, seval, bA]
    exact ⟨_, rfl, m, .inl ⟨rfl, rfl⟩, by omega, hfin⟩
  · try simp only [U66, h1, ldB1, seval, bA]
    exact ⟨_, rfl, m, .inr ⟨rfl, h2⟩, by omega, hfin⟩
theorem near_i {ob : List AObj} {t : Nat} {l : List Xt} {fp : List Nat} {f u : Int} (hT : TreeAt ob t l fp) (hch : Chain 0 l) (hf : 0 ≤ f ∧ f ≤ 16777216) (hu : u ≤ 16777216) :
    ICall Tryz.prog 24 [.ref t 0, .int .i64 f, .int .i64 u] ob fun r ob' => ∃ m, OwnL ob' r m (nearS l f u) ∧ ob.length ≤ m ∧ Same ob ob' (fun _ => False) := by
  refine icall_dr Tryz.func24 cm72 ?_
  have w : IntKind.i64.wrap (f - 1) = f - 1 := wrapI (by omega) (by omega)
  obtain ⟨ex, hex⟩ : ∃ ex, ex = [AObj.box [.int .i64 f], AObj.box [.int .i64 u], AObj.box [.nils]] := ⟨_, rfl⟩
  have hS0 : Same ob (ob ++ ex) (fun _ => False) := Same.app _ _ _
  have f0 : (ob ++ ex)[ob.length]? = some (.box [.int .i64 f]) := by rw [List.getElem?_append_right (Nat.le_refl _), Nat.sub_self, hex]; rfl
  have f1 : (ob ++ ex)[ob.length + 1]? = some (.box [.int .i64 u]) := by rw [List.getElem?_append_right (by omega), Nat.add_sub_cancel_left, hex]; rfl
  have f2 : (ob ++ ex)[ob.length + 2]? = some (.box [.nils]) := by rw [List.getElem?_append_right (by omega), Nat.add_sub_cancel_left, hex]; rfl
  have hl0 : (ob ++ ex).length = ob.length + 3 := by rw [List.length_append, hex]; rfl
  have hT0 := hT.same hS0 (fun _ _ h => h)
  have hlt := hT.lt
  simp only [U72, w, seval, bA]
  rw [← hex]
  generalize ob ++ ex = ob1 at *
  simp only [U72, w, f0, ldB1, seval, bA]
  have hO : OutAt ob1 (ob.length + 2) [] ob1 := ⟨Same.refl _ _, _, ob1.length, f2, .inl ⟨rfl, rfl⟩, Nat.le_refl _⟩
  have hw := walk_i (sec := f - 1) (s := []) (near_cb (ob0 := ob1) (b := ob.length + 2) (by omega) f1 f0 (by omega) (by omega)) hT0 hch (fun s ob' h i hi => h.s.2 i (by have := hlt i hi; omega) (by have := hlt i hi; omega)) (by have := chain_len0 hch; simp only [List.length_nil]; omega) hO
  refine callM hw ?_
  intro r ob2 h
  rw [run_near [] hch] at h
  simp only [List.nil_append] at h
  obtain ⟨v, m, h1, h2, h3⟩ := h.ex
  simp only [U72, h1, ldB1, seval, bA]
  have hfin : Same ob ob2 (fun _ => False) := ⟨by have := h.s.1; omega, fun j hj _ => (h.s.2 j (by omega) (by omega)).trans (hS0.2 j hj (fun h => h))⟩
  rcases h2 with ⟨h2, rfl⟩ | ⟨rfl, h2⟩
  · try simp only [U72, h1, ldB1, seval, bA]
    exact ⟨_, rfl, m, .inl ⟨h2, rfl⟩, by omega, hfin⟩
  · try simp only [U72, h1, ldB1, seval, bA]
    exact ⟨_, rfl, m, .inr ⟨rfl, h2⟩, by omega, hfin⟩

theorem tcount_i {ob : List AObj} {t : Nat} {l : List Xt} {fp : List Nat} (hT : TreeAt ob t l fp) (hl : OkL l) :
    ICall Tryz.prog 11 [.ref t 0] ob fun r ob' => r = .int .i64 (cntS l) ∧ Same ob ob' (fun _ => False) := by
  refine icall_dr Tryz.func11 cm68 ?_
  simp only [U68, seval, bA]
  refine callM (all_i hT hl.1) ?_
  rintro r ob1 ⟨m, ho, hm, hS⟩
  have hc := count_spec l (by have := ok_len hl; omega)
  rw [if_pos (okB_ok.2 hl)] at hc
  rcases ho with ⟨h0, rfl⟩ | ⟨rfl, ho⟩
  · subst h0
    simp only [U68, seval, bA]
    refine callI (PCall.nzA (args' := [.nils]) hc rfl) ?_
    simp only [U68, seval, bA]
    exact ⟨_, rfl, rfl, hS⟩
  · have ho3 : rowsO (some (AObj.list 4 (l.map rowE))) 0 l.length = some (l.map rowE) := by simp [rowsO]
    simp only [U68, ho, ho3, seval, bA]
    refine callS hc rfl ?_
    simp only [U68, seval, bA]
    exact ⟨_, rfl, rfl, hS⟩
/-- A list of the caller's own, as a call reads it. -/
theorem chg_over {m : List Xt} {e : Xt} (hm : OkL m) (he : OneP e) : Chg (befS m e.fr) (behS m (endE e)) (nearS m e.fr (endE e)) (overS (nearS m e.fr (endE e)) e) := by
  have hft : e.fr ≤ endE e := by have := he.2.1; simp only [endE]; omega
  have hs := near_split hft hm.1
  obtain ⟨h1, h2⟩ := over_near hm he
  have h3 := over_ok hm he
  rw [h2] at h3
  have hm' := hm
  rw [hs] at hm'
  exact ⟨chain_sort hm'.1, chain_sort h3.1, chain_bd hm'.1, chain_bd h3.1⟩
theorem chg_cut {m : List Xt} {f n : Int} (hm : OkL m) (hsp : SpanP f n) : Chg (befS m f) (behS m (f + n)) (nearS m f (f + n)) (cutS (nearS m f (f + n)) f n) := by
  have hft : f ≤ f + n := by have := hsp.2.1; omega
  have hs := near_split hft hm.1
  obtain ⟨h1, h2⟩ := cut_near hm hsp
  have h3 := cut_ok hm hsp
  rw [h2] at h3
  have hm' := hm
  rw [hs] at hm'
  exact ⟨chain_sort hm'.1, chain_sort h3.1, chain_bd hm'.1, chain_bd h3.1⟩
def errO (e : Xt) : Int := if OneP e then 0 else 1
def errC (f n : Int) : Int := if SpanP f n then 0 else 1
def overT (m : List Xt) (e : Xt) : List Xt := if OneP e then overS m e else m
def cutT (m : List Xt) (f n : Int) : List Xt := if SpanP f n then cutS m f n else m
theorem overT_ok {m : List Xt} {e : Xt} (h : OkL m) : OkL (overT m e) := by
  unfold overT
  split
  · rename_i he; exact over_ok h he
  · exact h
theorem cutT_ok {m : List Xt} {f n : Int} (h : OkL m) : OkL (cutT m f n) := by
  unfold cutT
  split
  · rename_i he; exact cut_ok h he
  · exact h
/-- Laying over and cutting, of a list of the caller's own. -/
theorem overA_i {ob : List AObj} {v : PV} {m : Nat} {l : List Xt} {e : Xt} (ho : OwnL ob v m l) (hok : OkL l) (hs' : OneP e) :
    ICall Tryz.prog 13 [v, pE e] ob fun r ob' => r = okR (overS l e) ∧ Same ob ob' (fun _ => False) := by
  have hs := decide_eq_true hs'
  have hb := okB_ok.2 hok
  have hlen := ok_len hok
  have hcl := chain_len0 (over_chain hok hs')
  have f1 := app0 ob (AObj.box (rowE e))
  have hS0 : Same ob (ob ++ [AObj.box (rowE e)]) (fun _ => False) := Same.app _ _ _
  have hone := one_spec e
  have hend := end_spec e hs'
  have c1 := check_spec l (by omega)
  have c2 := parts_spec l 0 e.fr (chain_one hok.1) hlen
  have c3 := parts_spec l (endE e) 16777216 (chain_one hok.1) hlen
  have ho' := ho.same hS0 (fun h => h)
  refine icall_dr Tryz.func13 cm9 ?_
  simp only [pE, rowE] at f1 hS0 hone hend ho'
  rcases ho' with ⟨rfl, rfl⟩ | ⟨rfl, hm⟩
  · simp only [U9, rowE, seval, bA]
    generalize ob ++ [AObj.box [.int .i64 e.fr, .int .i64 e.n, .int .i64 e.kd, .int .i64 e.at_]] = ob1 at *
    refine callI (PCall.nzA (args' := [.nils]) c1 rfl) ?_
    simp only [U9, hb, f1, ldB1, seval, bA]
    refine callI hone ?_
    simp only [U9, hs, f1, ldB1, seval, bA]
    refine callI (PCall.nzA (args' := [.nils, .int .i64 0, .int .i64 e.fr]) c2 rfl) ?_
    simp only [U9, f1, ldB1, seval, bA]
    refine callI hend ?_
    simp only [U9, seval, bA]
    refine callI (PCall.nzA (args' := [.nils, .int .i64 (endE e), .int .i64 16777216]) c3 rfl) ?_
    simp only [U9, seval, bA]
    refine callI (concat_spec [partsS [] 0 e.fr, [e], partsS [] (endE e) 16777216] (by simp) (by simpa using hcl)) ?_
    simp only [U9, List.flatten_cons, List.flatten_nil, List.append_nil, seval, bA]
    refine callI (tidy_spec (partsS [] 0 e.fr ++ ([e] ++ partsS [] (endE e) 16777216)) (over_chain hok hs')) ?_
    simp only [U9, seval, bA]
    exact ⟨_, rfl, rfl, hS0⟩
  · have ho3 : rowsO (some (AObj.list 4 (l.map rowE))) 0 l.length = some (l.map rowE) := by simp [rowsO]
    have hfl : ∀ a b, PV.flatR (.own 4 ((partsS l a b).map rowE)) = true := fun a b => by rw [flatR_own]; simp [flatL, PV.flat, rowE]
    simp only [U9, rowE, seval, bA]
    generalize ob ++ [AObj.box [.int .i64 e.fr, .int .i64 e.n, .int .i64 e.kd, .int .i64 e.at_]] = ob1 at *
    simp only [U9, rowE, hm, ho3, seval, bA]
    refine callS c1 rfl ?_
    simp only [U9, hb, f1, ldB1, seval, bA]
    refine callI hone ?_
    simp only [U9, hs, f1, ldB1, hm, ho3, seval, bA]
    refine callS c2 (hfl _ _) ?_
    simp only [U9, f1, ldB1, seval, bA]
    refine callI hend ?_
    simp only [U9, hm, ho3, seval, bA]
    refine callS c3 (hfl _ _) ?_
    simp only [U9, seval, bA]
    refine callI (concat_spec [partsS l 0 e.fr, [e], partsS l (endE e) 16777216] (by simp) (by simpa using hcl)) ?_
    simp only [U9, List.flatten_cons, List.flatten_nil, List.append_nil, seval, bA]
    refine callI (tidy_spec (partsS l 0 e.fr ++ ([e] ++ partsS l (endE e) 16777216)) (over_chain hok hs')) ?_
    simp only [U9, seval, bA]
    exact ⟨_, rfl, rfl, hS0⟩
theorem cutA_i {ob : List AObj} {v : PV} {m : Nat} {l : List Xt} {f n : Int} (ho : OwnL ob v m l) (hok : OkL l) (hs' : SpanP f n) :
    ICall Tryz.prog 12 [v, .int .i64 f, .int .i64 n] ob fun r ob' => r = okR (cutS l f n) ∧ Same ob ob' (fun _ => False) := by
  have hs := spanS_iff.2 hs'
  have hb := okB_ok.2 hok
  have hlen := ok_len hok
  have hcl := chain_len0 (cut_chain hok hs')
  have e1 : IntKind.i64.wrap (f + n) = f + n := by obtain ⟨a, b, c, d⟩ := hs'; exact wrapI (by omega) (by omega)
  have c1 := check_spec l (by omega)
  have c2 := parts_spec l 0 f (chain_one hok.1) hlen
  have c3 := parts_spec l (f + n) 16777216 (chain_one hok.1) hlen
  refine icall_dr Tryz.func12 cm7 ?_
  rcases ho with ⟨rfl, rfl⟩ | ⟨rfl, hm⟩
  · simp only [U7, seval, bA]
    refine callI (PCall.nzA (args' := [.nils]) c1 rfl) ?_
    simp only [U7, hb, seval, bA]
    refine callI (span_spec f n) ?_
    simp only [U7, hs, seval, bA]
    refine callI (PCall.nzA (args' := [.nils, .int .i64 0, .int .i64 f]) c2 rfl) ?_
    simp only [U7, e1, seval, bA]
    refine callI (PCall.nzA (args' := [.nils, .int .i64 (f + n), .int .i64 16777216]) c3 rfl) ?_
    simp only [U7, e1, seval, bA]
    refine callI (concat_spec [partsS [] 0 f, partsS [] (f + n) 16777216] (by simp) (by simpa using hcl)) ?_
    simp only [U7, List.flatten_cons, List.flatten_nil, List.append_nil, seval, bA]
    refine callI (tidy_spec (partsS [] 0 f ++ partsS [] (f + n) 16777216) (cut_chain hok hs')) ?_
    simp only [U7, seval, bA]
    exact ⟨_, rfl, rfl, Same.refl _ _⟩
  · have ho3 : rowsO (some (AObj.list 4 (l.map rowE))) 0 l.length = some (l.map rowE) := by simp [rowsO]
    have hfl : ∀ a b, PV.flatR (.own 4 ((partsS l a b).map rowE)) = true := fun a b => by rw [flatR_own]; simp [flatL, PV.flat, rowE]
    simp only [U7, hm, ho3, seval, bA]
    refine callS c1 rfl ?_
    simp only [U7, hb, seval, bA]
    refine callI (span_spec f n) ?_
    simp only [U7, hs, hm, ho3, seval, bA]
    refine callS c2 (hfl _ _) ?_
    simp only [U7, e1, hm, ho3, seval, bA]
    refine callS c3 (hfl _ _) ?_
    simp only [U7, e1, seval, bA]
    refine callI (concat_spec [partsS l 0 f, partsS l (f + n) 16777216] (by simp) (by simpa using hcl)) ?_
    simp only [U7, List.flatten_cons, List.flatten_nil, List.append_nil, seval, bA]
    refine callI (tidy_spec (partsS l 0 f ++ partsS l (f + n) 16777216) (cut_chain hok hs')) ?_
    simp only [U7, seval, bA]
    exact ⟨_, rfl, rfl, Same.refl _ _⟩
/-- .. of none. -/
theorem cut0_i {ob : List AObj} {f n : Int} : ICall Tryz.prog 12 [.slc [], .int .i64 f, .int .i64 n] ob fun r ob' => r = (if SpanP f n then okR (cutS [] f n) else errR) ∧ ob' = ob := by
  have hok : OkL [] := ⟨trivial, trivial⟩
  have hb : okB [] = true := rfl
  have c1 := check_spec [] (by simp)
  refine icall_dr Tryz.func12 cm7 ?_
  simp only [List.map_nil] at c1
  simp only [U7, seval, bA]
  refine callI c1 ?_
  simp only [U7, hb, seval, bA]
  refine callI (span_spec f n) ?_
  by_cases hs' : SpanP f n
  · have hs := spanS_iff.2 hs'
    have hcl := chain_len0 (cut_chain hok hs')
    have e1 : IntKind.i64.wrap (f + n) = f + n := by obtain ⟨a, b, c, d⟩ := hs'; exact wrapI (by omega) (by omega)
    have c2 := parts_spec [] 0 f (fun _ h => by cases h) (by simp)
    have c3 := parts_spec [] (f + n) 16777216 (fun _ h => by cases h) (by simp)
    rw [if_pos hs']
    simp only [U7, hs, seval, bA]
    refine callI c2 ?_
    simp only [U7, e1, seval, bA]
    refine callI c3 ?_
    simp only [U7, e1, seval, bA]
    refine callI (concat_spec [partsS [] 0 f, partsS [] (f + n) 16777216] (by simp) (by simpa using hcl)) ?_
    simp only [U7, List.flatten_cons, List.flatten_nil, List.append_nil, seval, bA]
    refine callI (tidy_spec (partsS [] 0 f ++ partsS [] (f + n) 16777216) (cut_chain hok hs')) ?_
    simp only [U7, seval, bA]
    exact ⟨_, rfl, rfl⟩
  · have hs : spanS f n = false := by
      cases h : spanS f n with
      | false => rfl
      | true => exact absurd (spanS_iff.1 h) hs'
    rw [if_neg hs']
    simp only [U7, hs, seval, bA]
    exact ⟨_, rfl, rfl⟩
theorem tover_i {ob : List AObj} {t : Nat} {l : List Xt} {fp : List Nat} {e : Xt} (hT : TreeAt ob t l fp) (hl : OkL l) :
    ICall Tryz.prog 8 [.ref t 0, pE e] ob fun r ob' => r = .int .i64 (errO e) ∧ TreeR ob t fp (overT l e) ob' := by
  have htl := hT.lt t (by simp)
  refine icall_dr Tryz.func8 cm70 ?_
  have f1 := app0 ob (AObj.box (rowE e))
  have hS0 : Same ob (ob ++ [AObj.box (rowE e)]) (fun _ => False) := Same.app _ _ _
  have hT0 := hT.same hS0 (fun _ _ h => h)
  have hl0 : (ob ++ [AObj.box (rowE e)]).length = ob.length + 1 := by simp
  simp only [rowE] at f1 hS0 hT0 hl0
  simp only [U70, rowE, seval, bA]
  generalize ob ++ [AObj.box [.int .i64 e.fr, .int .i64 e.n, .int .i64 e.kd, .int .i64 e.at_]] = ob1 at *
  have hone := one_spec e
  simp only [pE, rowE] at hone
  simp only [U70, f1, ldB1, seval, bA]
  refine callI hone ?_
  by_cases he : OneP e
  · have d := decide_eq_true he
    have w : IntKind.i64.wrap (e.fr + e.n) = endE e := by rw [wrapI (by have := he.1; have := he.2.1; omega) (by have := he.2.2.2.1; omega)]; rfl
    simp only [U70, d, f1, ldB1, w, seval, bA]
    refine callM (near_i hT0 hl.1 (f := e.fr) (u := endE e) ⟨he.1, he.2.2.1⟩ (by have := he.2.2.2.1; simp only [endE]; omega)) ?_
    rintro r ob2 ⟨m, ho, hm, hS2⟩
    have f2 := hS2.get f1 (fun h => h)
    obtain ⟨hokn, hov⟩ := over_near hl he
    have hT2 := hT0.same hS2 (fun _ _ h => h)
    have hlt := hT.lt
    have hchg := chg_over hl he
    have hft : e.fr ≤ endE e := by have := he.2.1; simp only [endE]; omega
    have hspl := near_split hft hl.1
    generalize hWe : nearS l e.fr (endE e) = W at *
    rw [hspl] at hT2
    have hfin : errO e = 0 := by simp [errO, he]
    have hfi2 : overT l e = befS l e.fr ++ (overS W e ++ behS l (endE e)) := by rw [← hov]; simp [overT, he]
    rw [hfin, hfi2]
    have hS12 : Same ob ob2 (· ∈ t :: fp) := (hS0.mono fun _ h => h.elim).trans (hS2.mono fun _ h => h.elim)
    have hA := overA_i ho hokn he
    simp only [pE, rowE] at hA
    have hbnd : W.length ≤ 16777216 ∧ (overS W e).length ≤ 16777216 := ⟨ok_len hokn, ok_len (over_ok hokn he)⟩
    have key : ∀ ob3, Same ob2 ob3 (fun _ => False) → ICall Tryz.prog 25 [.ref t 0, r, .slc ((overS W e).map rowE)] ob3 fun _ ob' => TreeR ob t fp (befS l e.fr ++ (overS W e ++ behS l (endE e))) ob' := fun ob3 hS3 =>
      callM (change_i (hT2.same hS3 (fun _ _ h => h)) hchg (ho.same hS3 (fun h => h)) (show m ∉ t :: fp from fun hh => by have := hlt m hh; omega) hbnd.1 hbnd.2) fun r ob' hR => hR.trans htl (hS12.trans (hS3.mono fun _ h => h.elim)) (fun i hi => .inl hi)
    simp only [U70, f2, ldB1, seval, bA]
    refine callM hA ?_
    rintro r' ob3 ⟨rfl, hS3⟩
    simp only [U70, okR, seval, bA]
    refine callM (key ob3 hS3) ?_
    intro r'' ob4 hR
    simp only [U70, seval, bA]
    exact ⟨_, rfl, rfl, hR⟩
  · have d := decide_eq_false he
    have hfin : errO e = 1 := by simp [errO, he]
    have hfi2 : overT l e = l := by simp [overT, he]
    rw [hfin, hfi2]
    simp only [U70, d, seval, bA]
    exact ⟨_, rfl, rfl, fp, hT0, fun i hi => .inl hi, hS0.mono fun _ h => h.elim⟩
theorem tcut_i {ob : List AObj} {t : Nat} {l : List Xt} {fp : List Nat} {f n : Int} (hT : TreeAt ob t l fp) (hl : OkL l) :
    ICall Tryz.prog 7 [.ref t 0, .int .i64 f, .int .i64 n] ob fun r ob' => r = .int .i64 (errC f n) ∧ TreeR ob t fp (cutT l f n) ob' := by
  have htl := hT.lt t (by simp)
  refine icall_dr Tryz.func7 cm69 ?_
  simp only [U69, seval, bA]
  refine callM cut0_i ?_
  rintro r ob1 ⟨rfl, hob⟩
  rw [hob]; clear hob ob1
  by_cases hs : SpanP f n
  · have w : IntKind.i64.wrap (f + n) = f + n := wrapI (by have := hs.1; have := hs.2.1; omega) (by have := hs.2.2.2; omega)
    rw [if_pos hs]
    simp only [U69, okR, w, seval, bA]
    refine callM (near_i hT hl.1 (f := f) (u := f + n) ⟨hs.1, hs.2.2.1⟩ (by have := hs.2.2.2; omega)) ?_
    rintro r ob2 ⟨m, ho, hm, hS2⟩
    obtain ⟨hokn, hov⟩ := cut_near hl hs
    have hT2 := hT.same hS2 (fun _ _ h => h)
    have hlt := hT.lt
    have hchg := chg_cut hl hs
    have hspl := near_split (t := f + n) (f := f) (by have := hs.2.1; omega) hl.1
    generalize hWe : nearS l f (f + n) = W at *
    rw [hspl] at hT2
    have hfin : errC f n = 0 := by simp [errC, hs]
    have hfi2 : cutT l f n = befS l f ++ (cutS W f n ++ behS l (f + n)) := by rw [← hov]; simp [cutT, hs]
    rw [hfin, hfi2]
    have hS12 : Same ob ob2 (· ∈ t :: fp) := hS2.mono fun _ h => h.elim
    have hA := cutA_i ho hokn hs
    have hbnd : W.length ≤ 16777216 ∧ (cutS W f n).length ≤ 16777216 := ⟨ok_len hokn, ok_len (cut_ok hokn hs)⟩
    have key : ∀ ob3, Same ob2 ob3 (fun _ => False) → ICall Tryz.prog 25 [.ref t 0, r, .slc ((cutS W f n).map rowE)] ob3 fun _ ob' => TreeR ob t fp (befS l f ++ (cutS W f n ++ behS l (f + n))) ob' := fun ob3 hS3 =>
      callM (change_i (hT2.same hS3 (fun _ _ h => h)) hchg (ho.same hS3 (fun h => h)) (show m ∉ t :: fp from fun hh => by have := hlt m hh; omega) hbnd.1 hbnd.2) fun r ob' hR => hR.trans htl (hS12.trans (hS3.mono fun _ h => h.elim)) (fun i hi => .inl hi)
    simp only [U69, seval, bA]
    refine callM hA ?_
    rintro r' ob3 ⟨rfl, hS3⟩
    simp only [U69, okR, seval, bA]
    refine callM (key ob3 hS3) ?_
    intro r'' ob4 hR
    simp only [U69, seval, bA]
    exact ⟨_, rfl, rfl, hR⟩
  · rw [if_neg hs]
    have hfin : errC f n = 1 := by simp [errC, hs]
    have hfi2 : cutT l f n = l := by simp [cutT, hs]
    rw [hfin, hfi2]
    simp only [U69, errR, seval, bA]
    exact ⟨_, rfl, rfl, fp, hT, fun i hi => .inl hi, Same.refl _ _⟩
theorem tnew_i (ob : List AObj) : ICall Tryz.prog 5 [] ob fun r ob' => r = .ref ob.length 0 ∧ TreeAt ob' ob.length [] [] ∧ Same ob ob' (fun _ => False) := by
  refine icall_dr Tryz.func5 cm65 ?_
  simp only [U65, seval, bA]
  exact ⟨_, rfl, rfl, ⟨⟨_, app0 _ _, .nil⟩, by simp⟩, Same.app _ _ _⟩
end Go.Proofs.YtdgpiobmncohjaaGreat.Aw
