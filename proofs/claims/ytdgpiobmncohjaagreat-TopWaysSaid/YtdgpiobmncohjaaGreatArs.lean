/-
  A list split, and two lists cut anew, at both kinds.; slices.IndexFunc, DeleteFunc and BinarySearchFunc at boxes of extents; slices.Delete of one node.
-/
import Derived.Test.YtdgpiobmncohjaaGreatKdb
import Derived.Test.YtdgpiobmncohjaaGreatArr
import Derived.Test.YtdgpiobmncohjaaGreatExt
set_option linter.unusedSimpArgs false
set_option linter.unusedVariables false
namespace Go.Proofs.YtdgpiobmncohjaaGreat.Aw.Ar
open Go.RowKit
theorem quo2E (n : Nat) : binI .quo .i64 (n : Int) 2 = some (.int .i64 ((n / 2 : Nat) : Int)) ∨ 9223372036854775807 < n := by
  by_cases h : n ≤ 9223372036854775807
  · refine .inl ?_
    have e : (n : Int).tdiv 2 = ((n / 2 : Nat) : Int) := by rw [Int.tdiv_eq_ediv_of_nonneg (by omega)]; omega
    simp only [binI, e]
    rw [if_neg (by omega), wrapI (by omega) (by omega)]
  · exact .inr (by omega)
/-- A list that is too long, split. -/
theorem splitE {ob : List AObj} {o off n c : Nat} {xs : List PV} (hA : Arr ob 4 o off n c xs) (h2 : 2 ≤ n) (hn : n ≤ 16777216) (hc : c ≤ 9223372036854775807) :
    ICall Tryz.prog 86 [.asl o off n c] ob fun r ob' => ∃ q c', r = .tup [.asl o off (n / 2) (n / 2), .asl q 0 (n - n / 2) c'] ∧ Arr ob' 4 o off (n / 2) (n / 2) (xs.take (n / 2 * 4)) ∧ Arr ob' 4 q 0 (n - n / 2) c' (xs.drop (n / 2 * 4)) ∧ ob.length ≤ q ∧ c' ≤ 9223372036854775807 ∧ Same ob ob' (fun _ => False) := by
  refine icall_dr Tryz.func86 cm94 ?_
  have hq := (quo2E n).resolve_right (by omega)
  have hnc : n ≤ c := by obtain ⟨_, _, h, _⟩ := hA; exact h
  generalize hk : n / 2 = k at *
  have s1 : aslB 4 o off n c (some 0) (some (k : Int)) (some (k : Int)) = some (.asl o off k k) := aslB_z (by omega)
  have s2 : aslB 4 o off n c (some (k : Int)) (some (n : Int)) (some (c : Int)) = some (.asl o (off + k * 4) (n - k) (c - k)) := aslB_n (by omega)
  simp only [U94, hq, s1, s2, seval, bA]
  have hl := hA.slice (a := 0) (b := k) (m := k) (by omega) (by omega) (Nat.le_refl _) (by omega)
  have hr := hA.slice (a := k) (b := n) (m := c) (by omega) (Nat.le_refl _) (by omega) (Nat.le_refl _)
  refine callM (cloneE hr (by omega)) ?_
  rintro r ob' ⟨q, c', rfl, hX, hq1, hc1, hS⟩
  simp only [U94, hq, s1, s2, seval, bA]
  refine ⟨_, rfl, q, c', rfl, ?_, ?_, hq1, hc1, hS⟩
  · have := hS.arr hl (fun h => h)
    simpa using this
  · rw [List.take_of_length_le (by rw [hA.len]; omega)] at hX; exact hX

/-- Two lists, cut anew. -/
theorem cutE {ob : List AObj} {o1 off1 n1 c1 o2 off2 n2 c2 k : Nat} {xs ys : List PV} (hA : Arr ob 4 o1 off1 n1 c1 xs) (hB : Arr ob 4 o2 off2 n2 c2 ys) (h0 : 0 < n1 + n2) (hk : k ≤ n1 + n2) (hn : n1 + n2 ≤ 16777216) :
    ICall Tryz.prog 99 [.asl o1 off1 n1 c1, .asl o2 off2 n2 c2, .int .i64 (k : Int)] ob fun r ob' => ∃ q1 d1 q2 d2, r = .tup [.asl q1 0 k d1, .asl q2 0 (n1 + n2 - k) d2] ∧ Arr ob' 4 q1 0 k d1 ((xs ++ ys).take (k * 4)) ∧ Arr ob' 4 q2 0 (n1 + n2 - k) d2 ((xs ++ ys).drop (k * 4)) ∧
      ob.length ≤ q1 ∧ ob.length ≤ q2 ∧ q1 ≠ q2 ∧ d1 ≤ 9223372036854775807 ∧ d2 ≤ 9223372036854775807 ∧ Same ob ob' (fun _ => False) := by
  refine icall_dr Tryz.func99 cm77 ?_
  simp only [U77, List.replicate_succ, List.replicate_zero, List.set_cons_zero, List.set_cons_succ, seval, bA]
  have hS0 : Same ob (ob ++ [AObj.box [.asl o1 off1 n1 c1, .asl o2 off2 n2 c2]]) (fun _ => False) := Same.app _ _ _
  have hg : (ob ++ [AObj.box [.asl o1 off1 n1 c1, .asl o2 off2 n2 c2]])[ob.length]? = some (.box [.asl o1 off1 n1 c1, .asl o2 off2 n2 c2]) := by rw [List.getElem?_append_right (Nat.le_refl _), Nat.sub_self]; rfl
  generalize ob ++ [AObj.box [.asl o1 off1 n1 c1, .asl o2 off2 n2 c2]] = ob1 at *
  refine callM (concatE hg (hS0.arr hA (fun h => h)) (hS0.arr hB (fun h => h)) h0 hn) ?_
  rintro r ob2 ⟨q, cc, rfl, hX, hq1, hc1, hS1⟩
  have hnc : n1 + n2 ≤ cc := by obtain ⟨_, _, h, _⟩ := hX; exact h
  have s1 : aslB 4 q 0 (n1 + n2) cc (some 0) (some (k : Int)) (some (cc : Int)) = some (.asl q 0 k cc) := aslB_z (by omega)
  have s2 : aslB 4 q 0 (n1 + n2) cc (some (k : Int)) (some ((n1 + n2 : Nat) : Int)) (some (cc : Int)) = some (.asl q (0 + k * 4) (n1 + n2 - k) (cc - k)) := aslB_n (by omega)
  simp only [U77, s1, s2, seval, bA]
  have hl := hX.slice (a := 0) (b := k) (m := cc) (by omega) hk (by omega) (Nat.le_refl _)
  have hr := hX.slice (a := k) (b := n1 + n2) (m := cc) hk (Nat.le_refl _) (by omega) (Nat.le_refl _)
  simp only [Nat.zero_mul, Nat.add_zero, Nat.sub_zero, List.drop_zero] at hl
  refine callM (cloneE hl (by omega)) ?_
  rintro r ob3 ⟨q1, d1, rfl, hY, hq2, hd1, hS2⟩
  simp only [U77, s1, s2, seval, bA]
  (try rw [Nat.zero_add]); (try rw [Nat.zero_add] at hr)
  refine callM (cloneE (hS2.arr hr (fun h => h)) (by omega)) ?_
  rintro r ob4 ⟨q2, d2, rfl, hZ, hq3, hd2, hS3⟩
  simp only [U77, s1, s2, seval, bA]
  have hlt := hY.lt
  have l1 := hS0.1
  have l2 := hS1.1
  have l3 := hS2.1
  refine ⟨_, rfl, q1, d1, q2, d2, rfl, hS3.arr hY (fun h => h), ?_, by omega, by omega, by omega, hd1, hd2, ((hS0.trans hS1).trans hS2).trans hS3⟩
  rw [List.take_of_length_le (by rw [hX.len]; exact Nat.le_refl _)] at hZ
  exact hZ

theorem quo2N (n : Nat) : binI .quo .i64 (n : Int) 2 = some (.int .i64 ((n / 2 : Nat) : Int)) ∨ 9223372036854775807 < n := by
  by_cases h : n ≤ 9223372036854775807
  · refine .inl ?_
    have e : (n : Int).tdiv 2 = ((n / 2 : Nat) : Int) := by rw [Int.tdiv_eq_ediv_of_nonneg (by omega)]; omega
    simp only [binI, e]
    rw [if_neg (by omega), wrapI (by omega) (by omega)]
  · exact .inr (by omega)
/-- A list that is too long, split. -/
theorem splitN {ob : List AObj} {o off n c : Nat} {xs : List PV} (hA : Arr ob 1 o off n c xs) (h2 : 2 ≤ n) (hn : n ≤ 16777216) (hc : c ≤ 9223372036854775807) :
    ICall Tryz.prog 88 [.asl o off n c] ob fun r ob' => ∃ q c', r = .tup [.asl o off (n / 2) (n / 2), .asl q 0 (n - n / 2) c'] ∧ Arr ob' 1 o off (n / 2) (n / 2) (xs.take (n / 2 * 1)) ∧ Arr ob' 1 q 0 (n - n / 2) c' (xs.drop (n / 2 * 1)) ∧ ob.length ≤ q ∧ c' ≤ 9223372036854775807 ∧ Same ob ob' (fun _ => False) := by
  refine icall_dr Tryz.func88 cm95 ?_
  have hq := (quo2N n).resolve_right (by omega)
  have hnc : n ≤ c := by obtain ⟨_, _, h, _⟩ := hA; exact h
  generalize hk : n / 2 = k at *
  have s1 : aslB 1 o off n c (some 0) (some (k : Int)) (some (k : Int)) = some (.asl o off k k) := aslB_z (by omega)
  have s2 : aslB 1 o off n c (some (k : Int)) (some (n : Int)) (some (c : Int)) = some (.asl o (off + k * 1) (n - k) (c - k)) := aslB_n (by omega)
  simp only [U95, hq, s1, s2, seval, bA]
  have hl := hA.slice (a := 0) (b := k) (m := k) (by omega) (by omega) (Nat.le_refl _) (by omega)
  have hr := hA.slice (a := k) (b := n) (m := c) (by omega) (Nat.le_refl _) (by omega) (Nat.le_refl _)
  refine callM (cloneN hr (by omega)) ?_
  rintro r ob' ⟨q, c', rfl, hX, hq1, hc1, hS⟩
  simp only [U95, hq, s1, s2, seval, bA]
  refine ⟨_, rfl, q, c', rfl, ?_, ?_, hq1, hc1, hS⟩
  · have := hS.arr hl (fun h => h)
    simpa using this
  · rw [List.take_of_length_le (by rw [hA.len]; omega)] at hX; exact hX

/-- Two lists, cut anew. -/
theorem cutN {ob : List AObj} {o1 off1 n1 c1 o2 off2 n2 c2 k : Nat} {xs ys : List PV} (hA : Arr ob 1 o1 off1 n1 c1 xs) (hB : Arr ob 1 o2 off2 n2 c2 ys) (h0 : 0 < n1 + n2) (hk : k ≤ n1 + n2) (hn : n1 + n2 ≤ 16777216) :
    ICall Tryz.prog 100 [.asl o1 off1 n1 c1, .asl o2 off2 n2 c2, .int .i64 (k : Int)] ob fun r ob' => ∃ q1 d1 q2 d2, r = .tup [.asl q1 0 k d1, .asl q2 0 (n1 + n2 - k) d2] ∧ Arr ob' 1 q1 0 k d1 ((xs ++ ys).take (k * 1)) ∧ Arr ob' 1 q2 0 (n1 + n2 - k) d2 ((xs ++ ys).drop (k * 1)) ∧
      ob.length ≤ q1 ∧ ob.length ≤ q2 ∧ q1 ≠ q2 ∧ d1 ≤ 9223372036854775807 ∧ d2 ≤ 9223372036854775807 ∧ Same ob ob' (fun _ => False) := by
  refine icall_dr Tryz.func100 cm78 ?_
  simp only [U78, List.replicate_succ, List.replicate_zero, List.set_cons_zero, List.set_cons_succ, seval, bA]
  have hS0 : Same ob (ob ++ [AObj.box [.asl o1 off1 n1 c1, .asl o2 off2 n2 c2]]) (fun _ => False) := Same.app _ _ _
  have hg : (ob ++ [AObj.box [.asl o1 off1 n1 c1, .asl o2 off2 n2 c2]])[ob.length]? = some (.box [.asl o1 off1 n1 c1, .asl o2 off2 n2 c2]) := by rw [List.getElem?_append_right (Nat.le_refl _), Nat.sub_self]; rfl
  generalize ob ++ [AObj.box [.asl o1 off1 n1 c1, .asl o2 off2 n2 c2]] = ob1 at *
  refine callM (concatN hg (hS0.arr hA (fun h => h)) (hS0.arr hB (fun h => h)) h0 hn) ?_
  rintro r ob2 ⟨q, cc, rfl, hX, hq1, hc1, hS1⟩
  have hnc : n1 + n2 ≤ cc := by obtain ⟨_, _, h, _⟩ := hX; exact h
  have s1 : aslB 1 q 0 (n1 + n2) cc (some 0) (some (k : Int)) (some (cc : Int)) = some (.asl q 0 k cc) := aslB_z (by omega)
  have s2 : aslB 1 q 0 (n1 + n2) cc (some (k : Int)) (some ((n1 + n2 : Nat) : Int)) (some (cc : Int)) = some (.asl q (0 + k * 1) (n1 + n2 - k) (cc - k)) := aslB_n (by omega)
  simp only [U78, s1, s2, seval, bA]
  have hl := hX.slice (a := 0) (b := k) (m := cc) (by omega) hk (by omega) (Nat.le_refl _)
  have hr := hX.slice (a := k) (b := n1 + n2) (m := cc) hk (Nat.le_refl _) (by omega) (Nat.le_refl _)
  simp only [Nat.zero_mul, Nat.add_zero, Nat.sub_zero, List.drop_zero] at hl
  refine callM (cloneN hl (by omega)) ?_
  rintro r ob3 ⟨q1, d1, rfl, hY, hq2, hd1, hS2⟩
  simp only [U78, s1, s2, seval, bA]
  (try rw [Nat.zero_add]); (try rw [Nat.zero_add] at hr)
  refine callM (cloneN (hS2.arr hr (fun h => h)) (by omega)) ?_
  rintro r ob4 ⟨q2, d2, rfl, hZ, hq3, hd2, hS3⟩
  simp only [U78, s1, s2, seval, bA]
  have hlt := hY.lt
  have l1 := hS0.1
  have l2 := hS1.1
  have l3 := hS2.1
  refine ⟨_, rfl, q1, d1, q2, d2, rfl, hS3.arr hY (fun h => h), ?_, by omega, by omega, by omega, hd1, hd2, ((hS0.trans hS1).trans hS2).trans hS3⟩
  rw [List.take_of_length_le (by rw [hX.len]; exact Nat.le_refl _)] at hZ
  exact hZ

end Go.Proofs.YtdgpiobmncohjaaGreat.Aw.Ar
namespace Go.Proofs.YtdgpiobmncohjaaGreat.Aw.Ar
open Go.RowKit

/-- The cells of a list of extents. -/
def XL (l : List Xt) : List PV := (l.map rowE).flatten
theorem XL_app (a b : List Xt) : XL (a ++ b) = XL a ++ XL b := by simp [XL]
theorem XL_one (e : Xt) : XL [e] = rowE e := by simp [XL]
theorem XL_take (l : List Xt) (i : Nat) : (XL l).take (i * 4) = XL (l.take i) := by
  rw [XL, XL, ← flatten_take (esz := 4) _ i (fun r hr => by obtain ⟨e, _, rfl⟩ := List.mem_map.1 hr; rfl), List.map_take]
theorem XL_drop (l : List Xt) (i : Nat) : (XL l).drop (i * 4) = XL (l.drop i) := by
  rw [XL, XL, ← flatten_drop (esz := 4) _ i (fun r hr => by obtain ⟨e, _, rfl⟩ := List.mem_map.1 hr; rfl), List.map_drop]
theorem XL_row {l : List Xt} {i : Nat} (h : i < l.length) : ((XL l).drop (i * 4)).take 4 = rowE l[i] :=
  flatten_row (esz := 4) (fun r hr => by obtain ⟨e, _, rfl⟩ := List.mem_map.1 hr; rfl) (by simp [h])
/-- An element as it lies. -/
theorem ldX {ob : List AObj} {o off c : Nat} {l : List Xt} (h : Arr ob 4 o off l.length c (XL l)) {i : Nat} (hi : i < l.length) : ldB ob[o]? (off + i * 4) 4 = some (rowE l[i]) := by
  obtain ⟨cs, h1, h2, h3, h4⟩ := h
  have : off + i * 4 + 4 ≤ cs.length := by omega
  rw [h1, ldB_box this, ← XL_row hi, ← h4, List.drop_take, List.drop_drop, List.take_take, Nat.min_eq_left (by omega)]

theorem delc_spec (e : Xt) (f : Int) : PCall Tryz.prog 81 [pE e, .fptr [.int .i64 f]] (.bool (e.fr == f)) := by
  refine pcall_dr Tryz.func81 cm92 ?_
  simp only [U92, rowE, seval, bA]

theorem idxA {ob : List AObj} {o off c b : Nat} {l : List Xt} {f : Int} (hA : Arr ob 4 o off l.length c (XL l)) (hb : ob[b]? = some (.box [.int .i64 f])) (hm : l.length ≤ 16777216) :
    RCall Tryz.prog 35 [.asl o off l.length c, .fn (.func 81) [] [.ref b 0]] ob (.int .i64 (idxS (fun e => e.fr == f) l)) := by
  refine RCall.of (K := fun r ob' => r = .int .i64 (idxS (fun e => e.fr == f) l) ∧ ob' = ob) ?_ (fun r ob' h => ⟨h.1, [], by rw [h.2, List.append_nil]⟩) rfl
  refine icall_dr Tryz.func35 cm53 ?_
  simp only [U53, seval, bA]
  refine loopF (fun i : Nat => ⟨ofL [(0, .asl o off l.length c), (1, .fn (.func 81) [] [.ref b 0]), (7, .int .i64 l.length), (8, .int .i64 i)], ob⟩)
    (fun i => i ≤ l.length ∧ ∀ j (h : j < l.length), j < i → (l[j].fr == f) = false) (fun i => l.length - i) 0 ?_ ⟨Nat.zero_le _, fun j _ h => absurd h (by omega)⟩ ?_
  · simp only [U53, seval, bA]
    all_goals rfl
  · intro i ⟨hi, hj⟩
    by_cases h : i < l.length
    · have d : decide ((i : Int) < (l.length : Int)) = true := by simpa using h
      have d' : decide (i < l.length) = true := by simpa using h
      have e1 : IntKind.i64.wrap ((i : Int) + 1) = ((i + 1 : Nat) : Int) := by rw [wrapI (by omega) (by omega)]; omega
      have hld := ldX hA h
      simp only [U53, d, d', hld, rowE, hb, seval, bA]
      refine callS (delc_spec l[i] f) rfl ?_
      by_cases hc : (l[i].fr == f) = true
      · simp only [U53, hc, seval, bA]
        rw [idx_hit (c := fun e : Xt => e.fr == f) h hc hj]
        exact ⟨_, rfl, rfl⟩
      · simp only [Bool.not_eq_true] at hc
        simp only [U53, hc, e1, seval, bA]
        refine ⟨i + 1, rfl, ⟨h, fun j hl hlt => ?_⟩, by omega⟩
        by_cases e : j = i
        · subst e; exact hc
        · exact hj j hl (by omega)
    · have d : decide ((i : Int) < (l.length : Int)) = false := by simpa using h
      simp only [U53, d, seval, bA]
      rw [idx_none (c := fun e : Xt => e.fr == f) fun j hl => hj j hl (by omega)]
      exact ⟨_, rfl, rfl⟩

/-- Cells set ahead of others do not change these. -/
theorem drop_setAt {cs vs : List PV} {a b : Nat} (h : a + vs.length ≤ b) (hb : b ≤ cs.length) : (setAt cs a vs).drop b = cs.drop b := by
  apply List.ext_getElem?
  intro j
  rw [List.getElem?_drop, List.getElem?_drop, setAt_get (by omega), if_neg (by omega)]
theorem take_setAt {cs vs : List PV} {off a b : Nat} (h : off + b ≤ a) (hb : a + vs.length ≤ cs.length) : ((setAt cs a vs).drop off).take b = (cs.drop off).take b := by
  apply List.ext_getElem?
  intro j
  rw [List.getElem?_take, List.getElem?_take, List.getElem?_drop, List.getElem?_drop, setAt_get (by omega)]
  split
  · rw [if_neg (by omega)]
  · rfl
abbrev keepX (f : Int) (l : List Xt) : List Xt := l.filter fun e => !(e.fr == f)
theorem keepX_step (f : Int) {l : List Xt} {j : Nat} (h : j < l.length) : keepX f (l.take (j + 1)) = keepX f (l.take j) ++ (if (!(l[j].fr == f)) = true then [l[j]] else []) := by
  rw [keepX, List.take_add_one, List.filter_append, List.getElem?_eq_getElem h]
  simp [List.filter_cons]

theorem delF {ob : List AObj} {o off c b : Nat} {l : List Xt} {f : Int} (hA : Arr ob 4 o off l.length c (XL l)) (hb : ob[b]? = some (.box [.int .i64 f])) (hbo : b ≠ o) (hm : l.length ≤ 1000000) :
    ICall Tryz.prog 80 [.asl o off l.length c, .fn (.func 81) [] [.ref b 0]] ob fun r ob' => r = .asl o off (keepX f l).length c ∧ Arr ob' 4 o off (keepX f l).length c (XL (keepX f l)) ∧ Same ob ob' (· = o) := by
  refine icall_dr Tryz.func80 cm49 ?_
  simp only [U49, seval, bA]
  refine callR (idxA hA hb (by omega)) ?_
  rcases idx_cases (fun e : Xt => e.fr == f) l with ⟨p, hp, hi, hc, hj⟩ | ⟨hi, hj⟩
  · rw [hi]
    have d0 : ((p : Int) == -1) = false := by simp
    have w0 : IntKind.i64.wrap ((p : Int) + 1) = ((p + 1 : Nat) : Int) := by rw [wrapI (by omega) (by omega)]; omega
    have hk0 : keepX f (l.take p) = l.take p := List.filter_eq_self.2 fun e he => by
      obtain ⟨j, hjl, rfl⟩ := List.mem_take_iff_getElem.1 he
      have := hj j (by omega) (by omega)
      simpa using this
    simp only [U49, d0, w0, seval, bA]
    refine loopF (fun x : Nat × List AObj => ⟨ofL [(0, .asl o off l.length c), (1, .fn (.func 81) [] [.ref b 0]), (5, .int .i64 ((keepX f (l.take x.1)).length : Int)), (6, .int .i64 (x.1 : Int))], x.2⟩)
      (fun x => x.1 ≤ l.length ∧ (keepX f (l.take x.1)).length < x.1 ∧ Same ob x.2 (· = o) ∧ ∃ cs', x.2[o]? = some (.box cs') ∧ off + c * 4 ≤ cs'.length ∧ (cs'.drop off).take ((keepX f (l.take x.1)).length * 4) = XL (keepX f (l.take x.1)) ∧ (cs'.drop (off + x.1 * 4)).take ((l.length - x.1) * 4) = XL (l.drop x.1))
      (fun x => l.length - x.1) (p + 1, ob) ?_ ?_ ?_
    · have : (keepX f (l.take (p + 1))).length = p := by
        rw [keepX_step f hp, hk0, List.length_append, List.length_take]
        have : (!(l[p].fr == f)) = false := by rw [hc]; rfl
        rw [this]; simp; omega
      simp only [U49, this, seval, bA]
    · have hk1 : keepX f (l.take (p + 1)) = l.take p := by
        rw [keepX_step f hp, hk0]
        have : (!(l[p].fr == f)) = false := by rw [hc]; rfl
        rw [this]; simp
      have hlp : (l.take p).length = p := by rw [List.length_take]; omega
      obtain ⟨cs, h1, h2, h3, h4⟩ := hA
      refine ⟨hp, by rw [hk1, hlp]; omega, Same.refl _ _, cs, h1, h3, ?_, ?_⟩
      · simp only [hk1, hlp]
        rw [← XL_take, ← h4, List.take_take, Nat.min_eq_left (by omega)]
      · rw [← XL_drop, ← h4, List.drop_take, List.drop_drop, Nat.sub_mul]
    · rintro ⟨j, ob1⟩ ⟨hjl, hkj, hS, cs', hcs, hl, hX, hY⟩
      simp only at hjl hkj hS hcs hX hY
      have hnc : l.length ≤ c := by obtain ⟨_, _, h, _⟩ := hA; exact h
      by_cases h : j < l.length
      · have d : decide ((j : Int) < (l.length : Int)) = true := by simpa using h
        have d' : decide (j < l.length) = true := by simpa using h
        have d2 : decide ((keepX f (l.take j)).length < l.length) = true := decide_eq_true (by omega)
        have e1 : IntKind.i64.wrap ((j : Int) + 1) = ((j + 1 : Nat) : Int) := by rw [wrapI (by omega) (by omega)]; omega
        have e2 : IntKind.i64.wrap (((keepX f (l.take j)).length : Int) + 1) = (((keepX f (l.take j)).length + 1 : Nat) : Int) := by rw [wrapI (by omega) (by omega)]; omega
        have hld : ldB ob1[o]? (off + j * 4) 4 = some (rowE l[j]) := by
          have hh : off + j * 4 + 4 ≤ cs'.length := by omega
          rw [hcs, ldB_box hh]
          have h5 : (l.drop j)[0]'(by rw [List.length_drop]; omega) = l[j] := by simp
          have h6 := XL_row (l := l.drop j) (i := 0) (by rw [List.length_drop]; omega)
          rw [h5] at h6
          rw [← h6, ← hY, Nat.zero_mul, List.drop_zero, List.take_take, Nat.min_eq_left (by omega)]
        have hb1 : ob1[b]? = some (.box [.int .i64 f]) := hS.get hb hbo
        have ho1 : o < ob1.length := (List.getElem?_eq_some_iff.1 hcs).1
        have hbl1 : b < ob1.length := (List.getElem?_eq_some_iff.1 hb1).1
        have g1 : ∀ (x : AObj), (ob1 ++ [x])[ob1.length]? = some x := fun x => by rw [List.getElem?_append_right (Nat.le_refl _), Nat.sub_self]; rfl
        have g2 : ∀ (x y : AObj), (ob1 ++ [x]).set ob1.length y = ob1 ++ [y] := fun x y => by rw [List.set_append_right _ _ (Nat.le_refl _), Nat.sub_self]; rfl
        have g3 : ∀ (x : AObj), (ob1 ++ [x])[b]? = some (.box [.int .i64 f]) := fun x => by rw [List.getElem?_append_left hbl1]; exact hb1
        have g4 : ∀ (x : AObj), (ob1 ++ [x])[o]? = some (.box cs') := fun x => by rw [List.getElem?_append_left ho1]; exact hcs
        simp only [U49, d, d', hld, rowE, g1, g2, g3, seval, bA]
        refine callS (delc_spec l[j] f) rfl ?_
        have hdr : l.drop j = l[j] :: l.drop (j + 1) := List.drop_eq_getElem_cons h
        have hY2 : (cs'.drop (off + (j + 1) * 4)).take ((l.length - (j + 1)) * 4) = XL (l.drop (j + 1)) := by
          have := congrArg (List.drop 4) hY
          rw [hdr, List.drop_take, List.drop_drop] at this
          rw [show off + (j + 1) * 4 = off + j * 4 + 4 by omega, show (l.length - (j + 1)) * 4 = (l.length - j) * 4 - 4 by omega, this]
          rfl
        by_cases hc2 : (l[j].fr == f) = true
        · simp only [U49, d, d', hld, rowE, g1, g2, g3, hc2, e1, seval, bA]
          have hks : keepX f (l.take (j + 1)) = keepX f (l.take j) := by
            rw [keepX_step f h, hc2]; simp
          refine ⟨(j + 1, ob1 ++ [AObj.box [.int .i64 l[j].fr, .int .i64 l[j].n, .int .i64 l[j].kd, .int .i64 l[j].at_]]), ?_, ⟨h, ?_, hS.trans (Same.app _ _ _), cs', g4 _, hl, ?_, hY2⟩, by simp; omega⟩
          · simp only [hks]
          · simp only [hks]; omega
          · simp only [hks]; exact hX
        · simp only [Bool.not_eq_true] at hc2
          have hks : keepX f (l.take (j + 1)) = keepX f (l.take j) ++ [l[j]] := by
            rw [keepX_step f h, hc2]; simp
          have hst : stB (ob1 ++ [AObj.box (rowE l[j])]) o (some (.box cs')) (off + (keepX f (l.take j)).length * 4) (rowE l[j]) = some (.bot, (ob1 ++ [AObj.box (rowE l[j])]).set o (.box (setAt cs' (off + (keepX f (l.take j)).length * 4) (rowE l[j])))) := stB_box (decide_eq_true (by rw [rowE_len]; omega))
          simp only [U49, d, d', d2, hld, rowE, g1, g2, g3, g4, hc2, e1, e2, seval, bA]
          simp only [rowE] at hst
          simp only [U49, d, d', d2, hld, rowE, g1, g2, g3, g4, hc2, e1, e2, hst, seval, bA]
          refine ⟨(j + 1, (ob1 ++ [AObj.box (rowE l[j])]).set o (AObj.box (setAt cs' (off + (keepX f (l.take j)).length * 4) (rowE l[j])))), ?_, ⟨h, ?_, (hS.trans (Same.app _ _ _)).trans (Same.set rfl), _, List.getElem?_set_self (by simp; omega), by rw [setAt_len (by rw [rowE_len]; omega)]; exact hl, ?_, ?_⟩, by simp; omega⟩
          · simp only [hks, List.length_append, List.length_cons, List.length_nil]; rfl
          · simp only [hks, List.length_append, List.length_cons, List.length_nil]; omega
          · have := cells_behind (cs := cs') (row := rowE l[j]) (off := off) (b := (keepX f (l.take j)).length * 4) (by rw [rowE_len]; omega)
            rw [hX] at this
            simp only [hks, List.length_append, List.length_cons, List.length_nil, XL_app, XL_one]
            rw [← this, rowE_len]; congr 1; omega
          · simp only []
            rw [drop_setAt (by rw [rowE_len]; omega) (by omega)]; exact hY2
      · have d : decide ((j : Int) < (l.length : Int)) = false := by simpa using h
        have hje : j = l.length := by omega
        subst hje
        rw [List.take_length] at hX hkj
        have s1 : aslB 4 o off l.length c (some ((keepX f l).length : Int)) (some (l.length : Int)) (some (c : Int)) = some (.asl o (off + (keepX f l).length * 4) (l.length - (keepX f l).length) (c - (keepX f l).length)) := aslB_n (by omega)
        have s2 : aslB 4 o off l.length c (some 0) (some ((keepX f l).length : Int)) (some (c : Int)) = some (.asl o off (keepX f l).length c) := aslB_z (by omega)
        simp only [U49, d, List.take_length, s1, s2, seval, bA]
        refine MS_clr (by omega) hcs (by rw [flat_rep]; simp only [List.length_cons, List.length_nil]; omega) ?_
        simp only [U49, d, List.take_length, s1, s2, seval, bA]
        refine ⟨_, rfl, rfl, ⟨_, List.getElem?_set_self (List.getElem?_eq_some_iff.1 hcs).1, by omega, by rw [setAt_len (by rw [flat_rep]; simp only [List.length_cons, List.length_nil]; omega)]; exact hl, ?_⟩, hS.trans (Same.set rfl)⟩
        rw [take_setAt (by omega) (by rw [flat_rep]; simp only [List.length_cons, List.length_nil]; omega)]
        exact hX
  · rw [hi]
    have hk : keepX f l = l := List.filter_eq_self.2 fun e he => by
      obtain ⟨j, hjl, rfl⟩ := List.getElem_of_mem he
      have := hj j hjl
      simpa using this
    simp only [U49, seval, bA]
    rw [hk]
    exact ⟨_, rfl, rfl, hA, Same.refl _ _⟩

/-- In order, each behind the other. -/
def SortX (l : List Xt) : Prop := l.Pairwise fun a b => a.fr < b.fr
def BdX (l : List Xt) : Prop := ∀ e ∈ l, 0 ≤ e.fr ∧ e.fr ≤ 16777216
/-- How many begin ahead of a place. -/
def posX (k : Int) (l : List Xt) : Nat := (l.takeWhile fun e => decide (e.fr < k)).length
theorem posX_of {k : Int} : ∀ {l : List Xt} {i : Nat}, i ≤ l.length → (∀ j (h : j < l.length), j < i → l[j].fr < k) → (∀ j (h : j < l.length), i ≤ j → k ≤ l[j].fr) → posX k l = i
  | [], i, h, _, _ => by
    have : i = 0 := by simpa using h
    subst this; rfl
  | e :: l, 0, _, _, h2 => by
    have := h2 0 (by simp) (Nat.le_refl _)
    have hd : decide (e.fr < k) = false := decide_eq_false (by simpa using this)
    simp [posX, List.takeWhile_cons, hd]
  | e :: l, i + 1, h, h1, h2 => by
    have := h1 0 (by simp) (by omega)
    have hd : decide (e.fr < k) = true := decide_eq_true (by simpa using this)
    have ih := posX_of (k := k) (l := l) (i := i) (by simpa using h) (fun j hj hlt => h1 (j + 1) (by simp; omega) (by omega)) (fun j hj hle => h2 (j + 1) (by simp; omega) (by omega))
    simp only [posX, List.takeWhile_cons, hd, if_true, List.length_cons] at ih ⊢
    omega

theorem cmp_spec (e : Xt) (k : Int) (he : 0 ≤ e.fr ∧ e.fr ≤ 16777216) (hk : 0 ≤ k ∧ k ≤ 16777216) : PCall Tryz.prog 84 [pE e, .int .i64 k] (.int .i64 (e.fr - k)) := by
  refine pcall_dr Tryz.func84 cm87 ?_
  have w : IntKind.i64.wrap (e.fr - k) = e.fr - k := wrapI (by omega) (by omega)
  simp only [U87, rowE, w, seval, bA]

theorem bsA {ob : List AObj} {o off c : Nat} {l : List Xt} {k : Int} (hA : Arr ob 4 o off l.length c (XL l)) (hs : SortX l) (hb : BdX l) (hk : 0 ≤ k ∧ k ≤ 16777216) (hm : l.length ≤ 16777216) :
    ∃ t, RCall Tryz.prog 83 [.asl o off l.length c, .int .i64 k, .fn (.func 84) [] []] ob (.tup [.int .i64 (posX k l), .bool t]) := by
  have hs' := List.pairwise_iff_getElem.1 hs
  refine ⟨if h : posX k l < l.length then (l[posX k l].fr - k == 0) else false, ?_⟩
  refine RCall.of (K := fun r ob' => r = .tup [.int .i64 (posX k l), .bool (if h : posX k l < l.length then (l[posX k l].fr - k == 0) else false)] ∧ ob' = ob) ?_ (fun r ob' h => ⟨h.1, [], by rw [h.2, List.append_nil]⟩) rfl
  refine icall_dr Tryz.func83 cm42 ?_
  simp only [U42, seval, bA]
  refine loopF (fun x : Nat × Nat => ⟨ofL [(0, .asl o off l.length c), (1, .int .i64 k), (2, .fn (.func 84) [] []), (8, .int .i64 (l.length : Int)), (9, .int .i64 (x.1 : Int)), (10, .int .i64 (x.2 : Int))], ob⟩)
    (fun x => x.1 ≤ x.2 ∧ x.2 ≤ l.length ∧ (∀ j (h : j < l.length), j < x.1 → l[j].fr < k) ∧ ∀ j (h : j < l.length), x.2 ≤ j → k ≤ l[j].fr) (fun x => x.2 - x.1) (0, l.length) ?_ ⟨Nat.zero_le _, Nat.le_refl _, fun j _ h => absurd h (by simp), fun j h h' => absurd h' (by simp; omega)⟩ ?_
  · simp only [U42, seval, bA]
    try rfl
  rintro ⟨i, j⟩ ⟨hij, hjl, h1, h2⟩
  simp only at hij hjl h1 h2
  by_cases h : i < j
  · have d : decide ((i : Int) < (j : Int)) = true := by simpa using h
    obtain ⟨m, hm2⟩ : ∃ m, (i + j) / 2 = m := ⟨_, rfl⟩
    have hml : m < l.length := by omega
    have hmi : i ≤ m ∧ m < j := by omega
    have d' : decide (m < l.length) = true := by simpa using hml
    have w1 : IntKind.i64.wrap ((i : Int) + (j : Int)) = ((i + j : Nat) : Int) := by rw [wrapI (by omega) (by omega)]; omega
    have w2 : IntKind.u64.wrap ((i + j : Nat) : Int) = ((i + j : Nat) : Int) := by rw [wrap64]; omega
    have sh : shI .shr .u64 ((i + j : Nat) : Int) 1 = some (.int .u64 (m : Int)) := by
      have : ((i + j : Nat) : Int).fdiv (2 ^ min (1 : Int).toNat IntKind.u64.bits) = (m : Int) := by
        rw [show (2 : Int) ^ min (1 : Int).toNat IntKind.u64.bits = 2 by decide, Int.fdiv_eq_ediv_of_nonneg _ (by omega)]; omega
      simp only [shI, this]; rfl
    have w3 : IntKind.i64.wrap (m : Int) = (m : Int) := wrapI (by omega) (by omega)
    have w4 : IntKind.i64.wrap ((m : Int) + 1) = ((m + 1 : Nat) : Int) := by rw [wrapI (by omega) (by omega)]; omega
    have hld := ldX hA hml
    simp only [U42, d, d', w1, w2, sh, w3, hld, rowE, seval, bA]
    refine callI (cmp_spec l[m] k (hb _ (List.getElem_mem hml)) hk) ?_
    by_cases hc : l[m].fr < k
    · have dc : decide (l[m].fr - k < 0) = true := decide_eq_true (by omega)
      simp only [U42, d, d', w1, w2, sh, w3, w4, hld, rowE, dc, seval, bA]
      refine ⟨(m + 1, j), rfl, ⟨by simp only; omega, hjl, fun t ht hlt => ?_, h2⟩, by simp only; omega⟩
      by_cases e : t = m
      · subst e; exact hc
      · have := hs' t m ht hml (by simp only at hlt; omega); omega
    · have dc : decide (l[m].fr - k < 0) = false := decide_eq_false (by omega)
      simp only [U42, d, d', w1, w2, sh, w3, w4, hld, rowE, dc, seval, bA]
      refine ⟨(i, m), rfl, ⟨by simp only; omega, by simp only; omega, h1, fun t ht hle => ?_⟩, by simp only; omega⟩
      by_cases e : t = m
      · subst e; omega
      · have := hs' m t hml ht (by simp only at hle; omega); omega
  · have d : decide ((i : Int) < (j : Int)) = false := by simpa using h
    have hje : j = i := by omega
    subst hje
    have hp : posX k l = j := posX_of hjl h1 h2
    rw [hp]
    by_cases hjn : j < l.length
    · have d2 : decide ((j : Int) < (l.length : Int)) = true := by simpa using hjn
      have d' : decide (j < l.length) = true := by simpa using hjn
      have hld := ldX hA hjn
      simp only [U42, d, d2, d', hld, rowE, seval, bA]
      refine callI (cmp_spec l[j] k (hb _ (List.getElem_mem hjn)) hk) ?_
      simp only [U42, d, d2, d', hld, rowE, seval, bA]
      simp only [dif_pos hjn]
      exact ⟨_, rfl, rfl⟩
    · have d2 : decide ((j : Int) < (l.length : Int)) = false := by simpa using hjn
      simp only [U42, d, d2, seval, bA]
      simp only [dif_neg hjn]
      exact ⟨_, rfl, rfl⟩

/-- slices.Delete of one node. -/
theorem delN {ob : List AObj} {o off n c i : Nat} {xs : List PV} (hA : Arr ob 1 o off n c xs) (hi : i < n) (hn : n ≤ 16777216) :
    ICall Tryz.prog 101 [.asl o off n c, .int .i64 (i : Int), .int .i64 ((i + 1 : Nat) : Int)] ob fun r ob' => r = .asl o off (n - 1) c ∧ Arr ob' 1 o off (n - 1) c (xs.take i ++ xs.drop (i + 1)) ∧ Same ob ob' (· = o) := by
  refine icall_dr Tryz.func101 cm50 ?_
  have hxl := hA.len
  obtain ⟨cs, hcs, hnc, hl, hx⟩ := id hA
  simp only [Nat.mul_one] at hx hl hxl
  have s0 : aslB 1 o off n c (some (i : Int)) (some ((i + 1 : Nat) : Int)) (some (n : Int)) = some (.asl o (off + i * 1) (i + 1 - i) (n - i)) := aslB_n (by omega)
  have s1 : aslB 1 o off n c (some 0) (some (i : Int)) (some (c : Int)) = some (.asl o off i c) := aslB_z (by omega)
  have s2 : aslB 1 o off n c (some ((i + 1 : Nat) : Int)) (some (n : Int)) (some (c : Int)) = some (.asl o (off + (i + 1) * 1) (n - (i + 1)) (c - (i + 1))) := aslB_n (by omega)
  have s3 : aslB 1 o off (n - 1) c (some ((n - 1 : Nat) : Int)) (some (n : Int)) (some (c : Int)) = some (.asl o (off + (n - 1) * 1) (n - (n - 1)) (c - (n - 1))) := aslB_n (by omega)
  have d : ((i : Int) == ((i + 1 : Nat) : Int)) = false := by simp; omega
  have hsrc : arrSrc ob 1 (.asl o (off + (i + 1) * 1) (n - (i + 1)) (c - (i + 1))) = some (xs.drop (i + 1)) := by
    rw [arrSrc_asl hcs (by omega), ← hx, List.drop_take, List.drop_drop]; simp
  simp only [U50, s0, s1, s2, d, seval, bA]
  have fin : ∀ (ob1 : List AObj) (cs1 : List PV), ob1[o]? = some (.box cs1) → cs1.length = cs.length → (cs1.drop off).take (n - 1) = xs.take i ++ xs.drop (i + 1) → Same ob ob1 (· = o) →
      MStep (.aclr [.nili]) [.asl o (off + (n - 1) * 1) (n - (n - 1)) (c - (n - 1))] ob1 fun r ob' => Arr ob' 1 o off (n - 1) c (xs.take i ++ xs.drop (i + 1)) ∧ Same ob ob' (· = o) := by
    intro ob1 cs1 h1 h2 h3 h4
    refine MS_clr (by omega) h1 (by rw [flat_rep]; simp; omega) ⟨⟨_, List.getElem?_set_self (List.getElem?_eq_some_iff.1 h1).1, by omega, by rw [setAt_len (by rw [flat_rep]; simp; omega)]; omega, ?_⟩, h4.trans (Same.set rfl)⟩
    rw [take_setAt (by omega) (by rw [flat_rep]; simp; omega), Nat.mul_one]; exact h3
  by_cases hz : n - (i + 1) = 0
  · have hin : i = n - 1 := by omega
    refine MS_app0 (by simpa only [arrLen] using hz) hsrc ?_
    have e1 : (.asl o off i c : PV) = .asl o off (n - 1) c := by rw [hin]
    rw [e1]
    simp only [U50, s3, seval, bA]
    refine MStep_mono ?_ (fin ob cs hcs rfl ?_ (Same.refl _ _))
    · rintro r ob' ⟨h1, h2⟩
      simp only [U50, seval, bA]
      exact ⟨_, rfl, rfl, h1, h2⟩
    · rw [← hx, List.take_take, List.drop_take, show n - (i + 1) = 0 from hz, List.take_zero, List.append_nil, hin, Nat.min_eq_left (by omega)]
  · have hyl : (xs.drop (i + 1)).length = n - (i + 1) := by rw [List.length_drop, hxl]
    refine MS_app (m := n - (i + 1)) rfl (by omega) hsrc (fun hr => ⟨cs, hcs, by omega, ?_⟩) (fun h => by omega)
    have hset := List.getElem?_set_self (a := AObj.box (setAt cs (off + i * 1) (xs.drop (i + 1)))) (List.getElem?_eq_some_iff.1 hcs).1
    have hS2 : Same ob (ob.set o (AObj.box (setAt cs (off + i * 1) (xs.drop (i + 1))))) (· = o) := Same.set rfl
    generalize hob2 : ob.set o (AObj.box (setAt cs (off + i * 1) (xs.drop (i + 1)))) = ob2 at *
    rw [show i + (n - (i + 1)) = n - 1 by omega]
    simp only [U50, s3, seval, bA]
    refine MStep_mono ?_ (fin ob2 _ hset (setAt_len (by omega)) ?_ hS2)
    · rintro r ob' ⟨h1, h2⟩
      simp only [U50, seval, bA]
      exact ⟨_, rfl, rfl, h1, h2⟩
    · have := cells_behind (cs := cs) (row := xs.drop (i + 1)) (off := off) (b := i) (by omega)
      rw [hyl, show i + (n - (i + 1)) = n - 1 by omega] at this
      rw [Nat.mul_one, this, ← hx, List.take_take, Nat.min_eq_left (by omega)]

end Go.Proofs.YtdgpiobmncohjaaGreat.Aw.Ar
