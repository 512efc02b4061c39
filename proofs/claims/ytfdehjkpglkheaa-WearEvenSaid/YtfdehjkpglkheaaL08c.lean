/-
  WearEven, as a contract: it returns true.
-/
import Derived.Test.YtfdehjkpglkheaaL08b
import Derived.Test.YtfdehjkpglkheaaMEven
set_option linter.unusedSimpArgs false
set_option linter.unusedVariables false
namespace Go.Proofs.Ytfdehjkpglkheaa.Aw
open Go.RowKit

theorem Even.gap {l : List Blk} {q : List Nat} {m : Int} (h : Even l q m) (h0 : 0 < l.length) : 0 ≤ gapS l ∧ gapS l ≤ 1 := by
  have hm := h.m0
  have hgood : ∀ j, j < l.length → goodS (bl l j) = true := fun j hj => by
    have : (bl l j).st = 0 ∨ (bl l j).st = 2 := by
      by_cases hq : j ∈ q
      · exact .inr (h.full j hq).2
      · exact .inl (h.free j hj hq)
    simp only [goodS, Bool.and_eq_true, decide_eq_true_eq]; omega
  have hw : ∀ j, j < l.length → wornS (bl l j) = (bl l j).wo := fun j hj => by
    have := h.wo j hj
    rw [wornS, if_neg (by omega)]
  rcases firstN_first kWorn goodS l l.length with ⟨_, h2⟩ | ⟨k, h1, _, h3, h4, h5⟩
  · have := h2 0 (Nat.le_refl _) h0
    rw [hgood 0 h0] at this; cases this
  · rcases firstN_first kMost goodS l l.length with ⟨_, g2⟩ | ⟨k', g1, _, g3, g4, g5⟩
    · have := g2 0 (Nat.le_refl _) h0
      rw [hgood 0 h0] at this; cases this
    · rw [gapS, highN, lowN, h1, g1, if_neg (by omega), if_neg (by omega), Int.toNat_natCast, Int.toNat_natCast]
      have h6 := (h5 k' (Nat.zero_le _) g3 (hgood k' g3)).2
      simp only [ltK, kWorn] at h6
      rw [hw k h3, hw k' g3] at *
      have a1 := h.wo k h3
      have a2 := h.wo k' g3
      omega

theorem remN (x : Int) {n : Nat} (h0 : 0 < n) (h1 : n ≤ 1000) : ∃ r : Nat, (IntKind.i64.wrap (x.tmod n + n)).tmod n = r ∧ r < n := by
  have ha := Int.tmod_lt_of_pos x (show (0 : Int) < n by omega)
  have hb : -(n : Int) < x.tmod n := by have := Int.lt_tmod_of_pos x (show (0 : Int) < n by omega); omega
  rw [wrapI (by omega) (by omega)]
  have hc := Int.tmod_nonneg (n : Int) (show (0 : Int) ≤ x.tmod n + n by omega)
  have hd := Int.tmod_lt_of_pos (x.tmod n + n) (show (0 : Int) < n by omega)
  exact ⟨((x.tmod n + n).tmod n).toNat, by omega, by omega⟩

theorem wornOk_of {l : List Blk} (h : ∀ j, j < l.length → (bl l j).wo ≤ 1000000) : wornOk l := by
  intro b hb
  obtain ⟨j, hj, e⟩ := List.getElem_of_mem hb
  have := h j hj
  rw [bl_at hj, e] at this
  omega

set_option maxHeartbeats 4000000 in
theorem even_law (b k t : Int) : PCall Try.prog 5 [.int .i64 b, .int .i64 k, .int .i64 t] (.bool true) := by
  refine pcall_dr Try.func5 comp_law08_WearEven ?_
  obtain ⟨rb, e0, hb⟩ := remN b (n := 63) (by omega) (by omega)
  have e1 : IntKind.i64.wrap (2 + (rb : Int)) = ((rb + 2 : Nat) : Int) := by rw [wrapI (by omega) (by omega)]; omega
  have e2 : IntKind.i64.wrap (((rb + 2 : Nat) : Int) - 1) = ((rb + 1 : Nat) : Int) := by rw [wrapI (by omega) (by omega)]; omega
  have hz : ((rb + 1 : Nat) : Int) ≠ 0 := by omega
  obtain ⟨K, e3, hK⟩ := remN k (n := rb + 1) (by omega) (by omega)
  have e4 : IntKind.i64.wrap (1 + (K : Int)) = ((K + 1 : Nat) : Int) := by rw [wrapI (by omega) (by omega)]; omega
  obtain ⟨T, e5, hT⟩ := remN t (n := 500) (by omega) (by omega)
  have e0' : (IntKind.i64.wrap (b.tmod 63 + 63)).tmod 63 = (rb : Int) := e0
  have e5' : (IntKind.i64.wrap (t.tmod 500 + 500)).tmod 500 = (T : Int) := e5
  have hm : ∀ k, mksO [PV.int IntKind.i64 0, PV.int IntKind.i64 0, PV.int IntKind.i64 0] (PV.int IntKind.i64 ((rb + 2 : Nat) : Int)) (PV.int IntKind.i64 ((rb + 2 : Nat) : Int)) k = k (rb + 2) := fun k => by
    rw [mksO_int (by omega) (by omega) rfl rfl, Int.toNat_natCast]
  simp (config := {maxSteps := 4000000}) only [U_law08_WearEven, e0', e1, e2, hz, e3, e4, e5', hm, reduceIte, reduceCtorEq, Nat.reduceEqDiff, Nat.reduceAdd, Int.reduceLT, Int.reduceLE, Int.reduceNeg, Int.reduceEq, Nat.reduceLT, Nat.reduceSub, Nat.reduceMul, Nat.reduceBEq, Nat.reduceLeDiff, Int.reduceBEq, Int.reduceBNe, Int.reduceToNat, ne_eq, implies_true, bA]
  refine loopF (fun x : List Blk × List Nat × Nat => ⟨ofL [(0, .int .i64 ((rb + 2 : Nat) : Int)), (1, .int .i64 ((K + 1 : Nat) : Int)), (2, .int .i64 (T : Int)), (7, .osl 0 0 (rb + 2)), (8, .osl 1 x.2.2 (x.2.1.length - x.2.2)), (9, .int .i64 (x.2.1.length : Int))], [.list 3 (x.1.map rowB), .list 1 (rowsN .i64 x.2.1)]⟩)
    (fun x => x.1.length = rb + 2 ∧ x.2.2 ≤ x.2.1.length ∧ x.2.1.length - x.2.2 ≤ K ∧ x.2.1.length ≤ T ∧ (∀ j, j < x.1.length → (bl x.1 j).wo ≤ x.2.1.length) ∧ ∃ m, Even x.1 (x.2.1.drop x.2.2) m) (fun x => T - x.2.1.length) (List.replicate (rb + 2) ⟨0, 0, 0⟩, [], 0) ?_ ?_ ?_
  · simp (config := {maxSteps := 4000000}) only [U_law08_WearEven, reduceIte, reduceCtorEq, Nat.reduceEqDiff, Nat.reduceAdd, Int.reduceLT, Int.reduceLE, Int.reduceNeg, Int.reduceEq, Nat.reduceLT, Nat.reduceSub, Nat.reduceMul, Nat.reduceBEq, Nat.reduceLeDiff, Int.reduceBEq, Int.reduceBNe, Int.reduceToNat, ne_eq, implies_true, bA]
    simp [rowsN, rowB]
  · exact ⟨by simp, by simp, by simp, by simp, (fun j hj => by unfold bl; rw [List.getD_eq_getElem?_getD, List.getElem?_replicate]; split <;> simp), 0, Even.start _⟩
  · rintro ⟨l, Q, s⟩ ⟨h1, h2, h3, h4, hw, m, h5⟩
    simp only at h1 h2 h3 h4 hw h5
    by_cases h : Q.length < T
    · have d : decide ((Q.length : Int) < (T : Int)) = true := by simpa using h
      have r0 : rowsO (some (AObj.list 3 (l.map rowB))) 0 (rb + 2) = some (l.map rowB) := rowsO_all (by simp [h1])
      simp (config := {maxSteps := 4000000}) only [U_law08_WearEven, d, r0, reduceIte, reduceCtorEq, Nat.reduceEqDiff, Nat.reduceAdd, Int.reduceLT, Int.reduceLE, Int.reduceNeg, Int.reduceEq, Nat.reduceLT, Nat.reduceSub, Nat.reduceMul, Nat.reduceBEq, Nat.reduceLeDiff, Int.reduceBEq, Int.reduceBNe, Int.reduceToNat, ne_eq, implies_true, bA]
      refine callS (pick_spec l (by omega)) rfl ?_
      obtain ⟨j, hj, hj2⟩ := h5.some_free (by rw [List.length_drop]; omega)
      obtain ⟨k0, k1⟩ := pick_free l hj hj2
      obtain ⟨p, hp⟩ : ∃ p : Nat, pickS l = p := ⟨(pickS l).toNat, by omega⟩
      have hpl : p < l.length := by have := firstN_lt kWorn (isS 0) l l.length; rw [← show pickS l = firstN kWorn (isS 0) l l.length from rfl, hp] at this; omega
      have hps : (bl l p).st = 0 := by
        have := firstN_at (K := kWorn) (c := isS 0) (l := l) (b := l.length) (by rw [← show pickS l = firstN kWorn (isS 0) l l.length from rfl]; exact k0)
        rw [← show pickS l = firstN kWorn (isS 0) l l.length from rfl, hp] at this
        simpa [isS] using this
      have hnn : ∀ j, j < l.length → wornS (bl l j) = (bl l j).wo := fun j hj => by
        have := h5.wo j hj
        have := h5.m0
        rw [wornS, if_neg (by omega)]
      have h6 := h5.fill hpl hps (fun j hj hj2 => by
        have := (pick_free l hj hj2).2
        rw [hp, Int.toNat_natCast, hnn j hj, hnn p hpl] at this
        omega)
      rw [hp]
      have hb := bl_at hpl
      rw [hb] at h6 hps
      have d1 : decide ((p : Int) < 0) = false := by simp
      have d2 : decide (((rb + 2 : Nat) : Int) ≤ (p : Int)) = false := by simp; omega
      have d3 : (l[p].st != 0) = false := by simp [hps]
      have i1 := islO_map (g := rowB) (l := l) (e := 3) (o := 0) (m := rb + 2) (k := .i64) h1.symm hpl
      have i2 := ldL_map (g := rowB) (l := l) (e := 3) (len := rb + 2) (off := 0) (n := 1) h1.symm hpl (by simp [rowB])
      have i3 := fun ob => stL_map (g := rowB) (l := l) (ob := ob) (o := 0) (e := 3) (len := rb + 2) (off := 0) (vs := [.int .i64 2]) (x := ⟨2, l[p].va, l[p].wo⟩) h1.symm hpl (by simp [rowB]) rfl
      have ap : appO [AObj.list 3 ((l.set p ⟨2, l[p].va, l[p].wo⟩).map rowB), AObj.list 1 (rowsN .i64 Q)] [] none 1 (.osl 1 s (Q.length - s)) (some [[.int .i64 (p : Int)]]) =
          some (.osl 1 s (Q.length + 1 - s), [AObj.list 3 ((l.set p ⟨2, l[p].va, l[p].wo⟩).map rowB), AObj.list 1 (rowsN .i64 (Q ++ [p]))]) := by
        rw [appO_osl rfl rfl (by rw [rowsN_len]; omega) (by rw [rowsN_len]; omega) rfl (by simp)]
        simp [rowsN]; omega
      have r1 : rowsO (some (AObj.list 1 (rowsN .i64 (Q ++ [p])))) s (Q.length + 1 - s) = some ((rowsN .i64 (Q ++ [p])).drop s) := by
        simp only [rowsO, rowsN_len]; rw [if_pos (by simp; omega)]
      have r2 : (((rowsN .i64 (Q ++ [p])).drop s).length : Int) = ((Q.length + 1 - s : Nat) : Int) := by simp [rowsN]
      have e6 : IntKind.i64.wrap (((K + 1 : Nat) : Int) - 1) = (K : Int) := by rw [wrapI (by omega) (by omega)]; omega
      have hap : (Q ++ [p]).drop s = Q.drop s ++ [p] := List.drop_append_of_le_length h2
      by_cases hk : K < Q.length + 1 - s
      · have d4 : decide ((K : Int) < ((Q.length + 1 - s : Nat) : Int)) = true := by simpa using hk
        obtain ⟨l1, hl1⟩ : ∃ l1, l.set p ⟨2, l[p].va, l[p].wo⟩ = l1 := ⟨_, rfl⟩
        have hl1n : l1.length = rb + 2 := by rw [← hl1]; simpa using h1
        have hw1 : ∀ j, j < l1.length → (bl l1 j).wo ≤ Q.length := fun j hj => by
          rw [← hl1, bl_set hpl]
          split
          · rw [← hb]; exact hw p hpl
          · exact hw j (by omega)
        have hQs : s < (Q ++ [p]).length := by simp; omega
        obtain ⟨f, hf⟩ : ∃ f, (Q ++ [p])[s] = f := ⟨_, rfl⟩
        have hcons : Q.drop s ++ [p] = f :: (Q ++ [p]).drop (s + 1) := by rw [← hap, ← hf]; exact (List.getElem_cons_drop hQs).symm
        rw [hl1] at i3 ap h6
        rw [hcons] at h6
        have hfl := (h6.full f (by simp)).1
        have hbf := bl_at hfl
        obtain ⟨m', h7⟩ := h6.erase
        rw [hbf] at h7
        have hwf := hw1 f hfl
        rw [hbf] at hwf
        have hwo := h6.wo f hfl
        have hm0 := h6.m0
        rw [hbf] at hwo
        have j1 : islO (some (AObj.list 1 (rowsN .i64 (Q ++ [p])))) 1 1 s (Q.length + 1 - s) (.int .i64 0) = some (.lref 1 s 0 (Q.length + 1)) := by
          simp only [islO, rowsN_len]; rw [if_pos ⟨trivial, by simp; omega, by omega, by omega⟩]; simp
        have j2 : ldL (some (AObj.list 1 (rowsN .i64 (Q ++ [p])))) s 0 (Q.length + 1) 1 = some [.int .i64 (f : Int)] := by
          have := ldL_map (g := fun n : Nat => [PV.int .i64 (n : Int)]) (l := Q ++ [p]) (e := 1) (len := Q.length + 1) (off := 0) (n := 1) (by simp) hQs (by simp)
          rw [hf] at this
          exact this
        have j3 := islO_map (g := rowB) (l := l1) (e := 3) (o := 0) (m := rb + 2) (k := .i64) hl1n.symm hfl
        have j4 : ldL (some (AObj.list 3 (l1.map rowB))) f 2 (rb + 2) 1 = some [.int .i64 l1[f].wo] := ldL_map (g := rowB) (l := l1) (e := 3) (len := rb + 2) (off := 2) (n := 1) hl1n.symm hfl (by simp [rowB])
        have e7 : IntKind.i64.wrap (l1[f].wo + 1) = l1[f].wo + 1 := wrapI (by omega) (by omega)
        have j5 := fun ob => stL_map (g := rowB) (l := l1) (ob := ob) (o := 0) (e := 3) (len := rb + 2) (off := 0) (vs := [.int .i64 0, .int .i64 0, .int .i64 (l1[f].wo + 1)]) (x := ⟨0, 0, l1[f].wo + 1⟩) hl1n.symm hfl (by simp [rowB]) rfl
        have j6 : ∀ l2, sslV [AObj.list 3 (List.map rowB l2), AObj.list 1 (rowsN IntKind.i64 (Q ++ [p]))] [] 1 (PV.osl 1 s (Q.length + 1 - s)) (some (some 1)) (some none) = some (.osl 1 (s + 1) (Q.length + 1 - (s + 1))) := fun l2 => by
          have hb2 : bounds (Q.length + 1 - s) (some 1) none = some (1, Q.length + 1 - s) := by
            simp only [bounds, Option.getD_some, Option.getD_none]
            rw [if_pos (by omega)]; rfl
          have hc : s + (Q.length + 1 - s) = (rowsN IntKind.i64 (Q ++ [p])).length := by rw [rowsN_len]; simp; omega
          show (if (1 : Nat) = 1 ∧ s + (Q.length + 1 - s) = (rowsN IntKind.i64 (Q ++ [p])).length then _ else none) = _
          rw [if_pos ⟨rfl, hc⟩, hb2]
          simp only [Option.bind_some, if_true]
          congr 2
        simp (config := {maxSteps := 4000000}) only [U_law08_WearEven, d1, d2, d3, i1, i2, i3, rowB, ap, r1, r2, e6, d4, j1, j2, j3, j4, e7, j5, j6, reduceIte, reduceCtorEq, Nat.reduceEqDiff, Nat.reduceAdd, Int.reduceLT, Int.reduceLE, Int.reduceNeg, Int.reduceEq, Nat.reduceLT, Nat.reduceSub, Nat.reduceMul, Nat.reduceBEq, Nat.reduceLeDiff, Int.reduceBEq, Int.reduceBNe, Int.reduceToNat, ne_eq, implies_true, bA]
        obtain ⟨l2, hl2⟩ : ∃ l2, l1.set f ⟨0, 0, l1[f].wo + 1⟩ = l2 := ⟨_, rfl⟩
        have hl2n : l2.length = rb + 2 := by rw [← hl2]; simpa using hl1n
        rw [hl2] at h7 ⊢
        have hw2 : ∀ j, j < l2.length → (bl l2 j).wo ≤ ((Q.length + 1 : Nat) : Int) := fun j hj => by
          rw [← hl2, bl_set hfl]
          split
          · show l1[f].wo + 1 ≤ _; omega
          · have := hw1 j (by omega); omega
        have hg := h7.gap (by omega)
        have r3 : rowsO (some (AObj.list 3 (l2.map rowB))) 0 (rb + 2) = some (l2.map rowB) := rowsO_all (by simp [hl2n])
        have d5 : decide (1 < gapS l2) = false := by simpa using hg.2
        have d6 : decide (gapS l2 < 0) = false := by simpa using hg.1
        have e8 : IntKind.i64.wrap ((Q.length : Int) + 1) = ((Q.length + 1 : Nat) : Int) := by rw [wrapI (by omega) (by omega)]; omega
        have hwk : wornOk l2 := wornOk_of fun j hj => by have := hw2 j hj; omega
        simp (config := {maxSteps := 4000000}) only [U_law08_WearEven, r3, reduceIte, reduceCtorEq, Nat.reduceEqDiff, Nat.reduceAdd, Int.reduceLT, Int.reduceLE, Int.reduceNeg, Int.reduceEq, Nat.reduceLT, Nat.reduceSub, Nat.reduceMul, Nat.reduceBEq, Nat.reduceLeDiff, Int.reduceBEq, Int.reduceBNe, Int.reduceToNat, ne_eq, implies_true, bA]
        refine callS (gap_spec l2 (by omega) hwk) rfl ?_
        simp (config := {maxSteps := 4000000}) only [U_law08_WearEven, r3, d5, reduceIte, reduceCtorEq, Nat.reduceEqDiff, Nat.reduceAdd, Int.reduceLT, Int.reduceLE, Int.reduceNeg, Int.reduceEq, Nat.reduceLT, Nat.reduceSub, Nat.reduceMul, Nat.reduceBEq, Nat.reduceLeDiff, Int.reduceBEq, Int.reduceBNe, Int.reduceToNat, ne_eq, implies_true, bA]
        refine callS (gap_spec l2 (by omega) hwk) rfl ?_
        simp (config := {maxSteps := 4000000}) only [U_law08_WearEven, d6, e8, reduceIte, reduceCtorEq, Nat.reduceEqDiff, Nat.reduceAdd, Int.reduceLT, Int.reduceLE, Int.reduceNeg, Int.reduceEq, Nat.reduceLT, Nat.reduceSub, Nat.reduceMul, Nat.reduceBEq, Nat.reduceLeDiff, Int.reduceBEq, Int.reduceBNe, Int.reduceToNat, ne_eq, implies_true, bA]
        exact ⟨(l2, Q ++ [p], s + 1), by simp, ⟨hl2n, by simp; omega, by simp; omega, by simp; omega, (by simpa using hw2), m', h7⟩, by simp; omega⟩
      · have d4 : decide ((K : Int) < ((Q.length + 1 - s : Nat) : Int)) = false := by simpa using hk
        obtain ⟨l1, hl1⟩ : ∃ l1, l.set p ⟨2, l[p].va, l[p].wo⟩ = l1 := ⟨_, rfl⟩
        have hl1n : l1.length = rb + 2 := by rw [← hl1]; simpa using h1
        have hw1 : ∀ j, j < l1.length → (bl l1 j).wo ≤ ((Q.length + 1 : Nat) : Int) := fun j hj => by
          rw [← hl1, bl_set hpl]
          split
          · rw [← hb]; have := hw p hpl; show (bl l p).wo ≤ _; omega
          · have := hw j (by omega); omega
        rw [hl1] at i3 ap h6
        rw [← hap] at h6
        have hg := h6.gap (by omega)
        have r3 : rowsO (some (AObj.list 3 (l1.map rowB))) 0 (rb + 2) = some (l1.map rowB) := rowsO_all (by simp [hl1n])
        have d5 : decide (1 < gapS l1) = false := by simpa using hg.2
        have d6 : decide (gapS l1 < 0) = false := by simpa using hg.1
        have e8 : IntKind.i64.wrap ((Q.length : Int) + 1) = ((Q.length + 1 : Nat) : Int) := by rw [wrapI (by omega) (by omega)]; omega
        have hwk : wornOk l1 := wornOk_of fun j hj => by have := hw1 j hj; omega
        simp (config := {maxSteps := 4000000}) only [U_law08_WearEven, d1, d2, d3, i1, i2, i3, rowB, ap, r1, r2, e6, d4, r3, reduceIte, reduceCtorEq, Nat.reduceEqDiff, Nat.reduceAdd, Int.reduceLT, Int.reduceLE, Int.reduceNeg, Int.reduceEq, Nat.reduceLT, Nat.reduceSub, Nat.reduceMul, Nat.reduceBEq, Nat.reduceLeDiff, Int.reduceBEq, Int.reduceBNe, Int.reduceToNat, ne_eq, implies_true, bA]
        refine callS (gap_spec l1 (by omega) hwk) rfl ?_
        simp (config := {maxSteps := 4000000}) only [U_law08_WearEven, r3, d5, reduceIte, reduceCtorEq, Nat.reduceEqDiff, Nat.reduceAdd, Int.reduceLT, Int.reduceLE, Int.reduceNeg, Int.reduceEq, Nat.reduceLT, Nat.reduceSub, Nat.reduceMul, Nat.reduceBEq, Nat.reduceLeDiff, Int.reduceBEq, Int.reduceBNe, Int.reduceToNat, ne_eq, implies_true, bA]
        refine callS (gap_spec l1 (by omega) hwk) rfl ?_
        simp (config := {maxSteps := 4000000}) only [U_law08_WearEven, d6, e8, reduceIte, reduceCtorEq, Nat.reduceEqDiff, Nat.reduceAdd, Int.reduceLT, Int.reduceLE, Int.reduceNeg, Int.reduceEq, Nat.reduceLT, Nat.reduceSub, Nat.reduceMul, Nat.reduceBEq, Nat.reduceLeDiff, Int.reduceBEq, Int.reduceBNe, Int.reduceToNat, ne_eq, implies_true, bA]
        exact ⟨(l1, Q ++ [p], s), by simp, ⟨hl1n, by simp; omega, by simp; omega, by simp; omega, (by simpa using hw1), m, h6⟩, by simp; omega⟩
    · have d : decide ((Q.length : Int) < (T : Int)) = false := by simpa using h
      simp (config := {maxSteps := 4000000}) only [U_law08_WearEven, d, reduceIte, reduceCtorEq, Nat.reduceEqDiff, Nat.reduceAdd, Int.reduceLT, Int.reduceLE, Int.reduceNeg, Int.reduceEq, Nat.reduceLT, Nat.reduceSub, Nat.reduceMul, Nat.reduceBEq, Nat.reduceLeDiff, Int.reduceBEq, Int.reduceBNe, Int.reduceToNat, ne_eq, implies_true, bA]
      refine callI awake08_spec ?_
      simp (config := {maxSteps := 4000000}) only [U_law08_WearEven, reduceIte, reduceCtorEq, Nat.reduceEqDiff, Nat.reduceAdd, Int.reduceLT, Int.reduceLE, Int.reduceNeg, Int.reduceEq, Nat.reduceLT, Nat.reduceSub, Nat.reduceMul, Nat.reduceBEq, Nat.reduceLeDiff, Int.reduceBEq, Int.reduceBNe, Int.reduceToNat, ne_eq, implies_true, bA]

theorem even_fit (ps : List PV) (h : fitVs [.int .i64, .int .i64, .int .i64] ps) : PCall Try.prog 5 ps (.bool true) := by
  obtain ⟨_, _, rfl, ⟨b, hb, wb⟩, _, _, rfl, ⟨k, hk, wk⟩, _, _, rfl, ⟨t, ht, wt⟩, rfl⟩ := h
  cases hb; cases hk; cases ht
  exact even_law b k t
end Go.Proofs.Ytfdehjkpglkheaa.Aw
