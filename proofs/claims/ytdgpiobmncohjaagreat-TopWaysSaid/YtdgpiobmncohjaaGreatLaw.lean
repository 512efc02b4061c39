/-
  A tree is the list of its extents; how it came to them does not matter: contracts of the two statements.; How a tree came to its extents does not matter: the contract of the statement.
-/
import Derived.Test.YtdgpiobmncohjaaGreatLoo
import Derived.Test.YtdgpiobmncohjaaGreatAwOpen
import Derived.Test.YtdgpiobmncohjaaGreatAwFit
import Derived.Test.YtdgpiobmncohjaaGreatNan
set_option linter.unusedSimpArgs false
set_option linter.unusedVariables false
set_option maxRecDepth 100000
namespace Go.Proofs.YtdgpiobmncohjaaGreat.Aw
open Go.RowKit Ar

/-- What is laid over, or cut. -/
structure Lay where
  e : Xt
  c : Bool
def rowY (x : Lay) : List PV := [.int .i64 x.e.fr, .int .i64 x.e.n, .int .i64 x.e.kd, .int .i64 x.e.at_, .bool x.c]
theorem rowY_len (x : Lay) : (rowY x).length = 5 := rfl
/-- A tree made anew: what is known of it between the statement's steps. -/
def TreeOk (ob : List AObj) (t : Nat) (m : List Xt) : Prop := ∃ fp, TreeAt ob t m fp
theorem TreeR.ok {ob ob' : List AObj} {t : Nat} {fp : List Nat} {m : List Xt} (h : TreeR ob t fp m ob') : TreeOk ob' t m := by
  obtain ⟨fp', h1, _⟩ := h.ex
  exact ⟨fp', h1⟩
abbrev shY : Sh := .st [.st [.int .i64, .int .i64, .int .i64, .int .i64], .bool]
theorem fit_y {cs : List PV} (h : shY.fit cs) : ∃ x : Lay, cs = rowY x := by
  obtain ⟨_, _, rfl, ⟨_, _, rfl, ⟨a, rfl, _⟩, _, _, rfl, ⟨b, rfl, _⟩, _, _, rfl, ⟨c, rfl, _⟩, _, _, rfl, ⟨d, rfl, _⟩, rfl⟩, _, _, rfl, ⟨k, rfl⟩, rfl⟩ := h
  exact ⟨⟨⟨a, b, c, d⟩, k⟩, rfl⟩
theorem fit_ys : ∀ {rows : List (List PV)}, (∀ r ∈ rows, shY.fit r) → ∃ l : List Lay, rows = l.map rowY
  | [], _ => ⟨[], rfl⟩
  | r :: rs, h => by
    obtain ⟨x, hx⟩ := fit_y (h r (by simp))
    obtain ⟨l, hl⟩ := fit_ys (rows := rs) fun q hq => h q (by simp [hq])
    exact ⟨x :: l, by rw [hx, hl]; rfl⟩
end Go.Proofs.YtdgpiobmncohjaaGreat.Aw
namespace Go.Proofs.YtdgpiobmncohjaaGreat.Aw
open Go.RowKit Ar

/-- Two trees that have nothing in common. -/
def Two (ob : List AObj) (t : Nat) (m : List Xt) (u : Nat) (n : List Xt) : Prop := ∃ fp fq, TreeAt ob t m fp ∧ TreeAt ob u n fq ∧ ∀ i ∈ t :: fp, i ∉ u :: fq
theorem Two.swap {ob : List AObj} {t u : Nat} {m n : List Xt} (h : Two ob t m u n) : Two ob u n t m := by
  obtain ⟨fp, fq, h1, h2, h3⟩ := h
  exact ⟨fq, fp, h2, h1, fun i hi hj => h3 i hj hi⟩
theorem two_step {ob ob' : List AObj} {t u : Nat} {m n m' : List Xt} {fp fq : List Nat} (h1 : TreeAt ob t m fp) (h2 : TreeAt ob u n fq) (h3 : ∀ i ∈ t :: fp, i ∉ u :: fq) (hR : TreeR ob t fp m' ob') : Two ob' t m' u n := by
  obtain ⟨fp', g1, g2, g3⟩ := hR.ex
  refine ⟨fp', fq, g1, h2.same g3 fun i hi hj => h3 i hj hi, fun i hi hj => ?_⟩
  rcases List.mem_cons.1 hi with rfl | hi
  · exact h3 i (by simp) hj
  · rcases g2 i hi with h | h
    · exact h3 i (by simp [h]) hj
    · have := h2.lt i hj; omega
theorem ok_drop {m : List Xt} (h : OkL m) (k : Nat) : OkL (m.drop k) := by
  have := ok_mid (A := m.take k) (W := m.drop k) (B := []) h (by simp)
  exact this
theorem ways_tail {ob : List AObj} {u q : Nat} {v : PV} {m : List Xt} {f : Nat → PV} (hok : OkL m) (hT : Two ob 0 m u m) (ho : OwnL ob v q m) (f3 : f 3 = .ref 0 0) (f4 : f 4 = .ref u 0) (f6 : f 6 = v) :
    AWP Tryz.prog 0 f0_41 (AFin [ARV.t 2] (.bool true)) ⟨f, ob⟩ := by
  obtain ⟨fp, fq, hT, hU, hd⟩ := hT
  have hlen := ok_len hok
  have hal := alike_spec m m (by omega) (by omega)
  rw [decide_eq_true rfl] at hal
  simp only [U61, f3, f4, f6, seval, bA]
  refine callM (all_i hU hok.1) ?_
  rintro r ob1 ⟨q1, ho1, hq1, hS1⟩
  have hT1 := hT.same hS1 (fun _ _ h => h)
  have hU1 := hU.same hS1 (fun _ _ h => h)
  have ho2 := ho.same hS1 (fun h => h)
  have fin : ∀ ob2, Same ob1 ob2 (fun _ => False) → True := fun _ _ => trivial
  have ho3 : rowsO (some (AObj.list 4 (m.map rowE))) 0 m.length = some (m.map rowE) := by simp [rowsO]
  rcases ho1 with ⟨h0, rfl⟩ | ⟨rfl, ho1⟩
  · subst h0
    rcases ho2 with ⟨_, rfl⟩ | ⟨rfl, ho2⟩
    · simp only [U61, f3, f4, f6, seval, bA]
      refine callI (PCall.nzA (args' := [.nils, .nils]) hal rfl) ?_
      simp only [U61, f3, f4, f6, seval, bA]
      refine callM (tcount_i hU1 hok) ?_
      rintro r ob3 ⟨rfl, hS3⟩
      simp only [U61, f3, f4, f6, seval, bA]
      refine callM (tcount_i (hT1.same hS3 (fun _ _ h => h)) hok) ?_
      rintro r ob4 ⟨rfl, hS4⟩
      simp only [U61, beq_self_eq_true, seval, bA]
    · simp only [List.map_nil, List.length_nil] at ho2 ho3
      simp only [U61, f3, f4, f6, ho2, ho3, seval, bA]
      refine callS (PCall.nzA (args' := [.nils, .slc []]) hal rfl) rfl ?_
      simp only [U61, f3, f4, f6, seval, bA]
      refine callM (tcount_i hU1 hok) ?_
      rintro r ob3 ⟨rfl, hS3⟩
      simp only [U61, f3, f4, f6, seval, bA]
      refine callM (tcount_i (hT1.same hS3 (fun _ _ h => h)) hok) ?_
      rintro r ob4 ⟨rfl, hS4⟩
      simp only [U61, beq_self_eq_true, seval, bA]
  · rcases ho2 with ⟨h0, rfl⟩ | ⟨rfl, ho2⟩
    · subst h0
      simp only [List.map_nil, List.length_nil] at ho1 ho3
      simp only [U61, f3, f4, f6, ho1, ho3, seval, bA]
      refine callS (PCall.nzA (args' := [.slc [], .nils]) hal rfl) rfl ?_
      simp only [U61, f3, f4, f6, seval, bA]
      refine callM (tcount_i hU1 hok) ?_
      rintro r ob3 ⟨rfl, hS3⟩
      simp only [U61, f3, f4, f6, seval, bA]
      refine callM (tcount_i (hT1.same hS3 (fun _ _ h => h)) hok) ?_
      rintro r ob4 ⟨rfl, hS4⟩
      simp only [U61, beq_self_eq_true, seval, bA]
    · simp only [U61, f3, f4, f6, ho1, ho2, ho3, seval, bA]
      refine callS hal rfl ?_
      simp only [U61, f3, f4, f6, seval, bA]
      refine callM (tcount_i hU1 hok) ?_
      rintro r ob3 ⟨rfl, hS3⟩
      simp only [U61, f3, f4, f6, seval, bA]
      refine callM (tcount_i (hT1.same hS3 (fun _ _ h => h)) hok) ?_
      rintro r ob4 ⟨rfl, hS4⟩
      simp only [U61, beq_self_eq_true, seval, bA]
theorem ways_mid {ob : List AObj} {u : Nat} {m : List Xt} {f : Nat → PV} (hok : OkL m) (hT : Two ob 0 m u []) (f3 : f 3 = .ref 0 0) (f4 : f 4 = .ref u 0) :
    AWP Tryz.prog 0 f0_43 (AFin [ARV.t 2] (.bool true)) ⟨f, ob⟩ := by
  obtain ⟨fp, fq, hT, hU, hd⟩ := hT
  have hlen := ok_len hok
  have htl : ∀ (ob : List AObj) (q : Nat) (v : PV) (f : Nat → PV), Two ob 0 m u m → OwnL ob v q m → f 3 = .ref 0 0 → f 4 = .ref u 0 → f 6 = v → AWP Tryz.prog 0 f0_41 (AFin [ARV.t 2] (.bool true)) ⟨f, ob⟩ := fun ob q v f h1 h2 h3 h4 h5 => ways_tail hok h1 h2 h3 h4 h5
  simp only [U61, f3, f4, seval, bA]
  refine callM (all_i hT hok.1) ?_
  rintro v ob1 ⟨q, ho, hq, hS1⟩
  have hT1 := hT.same hS1 (fun _ _ h => h)
  have hU1 := hU.same hS1 (fun _ _ h => h)
  have hlt := hU.lt
  have hltT := hT.lt
  have hqt : q ∉ 0 :: fp := fun hm => by have := hltT q hm; omega
  have hqu : q ∉ u :: fq := fun hm => by have := hlt q hm; omega
  have w0 : IntKind.i64.wrap ((m.length : Int) - 1) = (m.length : Int) - 1 := wrapI (by omega) (by omega)
  have ho3 : rowsO (some (AObj.list 4 (m.map rowE))) 0 m.length = some (m.map rowE) := by simp [rowsO]
  have hd0 : m.drop m.length = [] := List.drop_length
  have J0 : ∃ fp fq, TreeAt ob1 0 m fp ∧ TreeAt ob1 u (m.drop m.length) fq ∧ (∀ i ∈ 0 :: fp, i ∉ u :: fq) ∧ q ∉ u :: fq := ⟨fp, fq, hT1, by rw [hd0]; exact hU1, hd, hqu⟩
  rcases ho with ⟨h0, rfl⟩ | ⟨rfl, ho⟩
  · subst h0
    simp only [U61, f3, f4, seval, bA]
    generalize AWP Tryz.prog 0 f0_41 (AFin [ARV.t 2] (.bool true)) = Tl at *
    refine loopF (fun x : Nat => ⟨ofL [(3, .ref 0 0), (4, .ref u 0), (6, .nils), (7, .int .i64 (-1))], ob1⟩) (fun _ => True) (fun _ => 0) 0 ?_ trivial ?_
    · simp only [U61, f3, f4, seval, bA]
      all_goals rfl
    intro _ _
    simp only [U61, seval, bA]
    exact htl _ q _ _ ⟨fp, fq, hT1, hU1, hd⟩ (.inl ⟨rfl, rfl⟩) rfl rfl rfl
  · simp only [U61, f3, f4, ho, ho3, List.length_map, w0, seval, bA]
    generalize AWP Tryz.prog 0 f0_41 (AFin [ARV.t 2] (.bool true)) = Tl at *
    refine loopF (fun x : Nat × List AObj => ⟨ofL [(3, .ref 0 0), (4, .ref u 0), (6, .osl q 0 m.length), (7, .int .i64 ((x.1 : Int) - 1))], x.2⟩)
      (fun x => x.1 ≤ m.length ∧ x.2[q]? = some (.list 4 (m.map rowE)) ∧ ∃ fp fq, TreeAt x.2 0 m fp ∧ TreeAt x.2 u (m.drop x.1) fq ∧ (∀ i ∈ 0 :: fp, i ∉ u :: fq) ∧ q ∉ u :: fq) (fun x => x.1) (m.length, ob1) ?_ ⟨Nat.le_refl _, ho, J0⟩ ?_
    · simp only [U61, f3, f4, seval, bA]
      all_goals rfl
    rintro ⟨k, ob2⟩ ⟨hk, ho2, fp2, fq2, hT2, hU2, hd2, hq2⟩
    simp only at hk ho2 hT2 hU2
    cases k with
    | zero =>
      have w1 : (0 : Int) - 1 = -1 := rfl
      have d : decide ((0 : Int) ≤ -1) = false := by decide
      simp only [U61, w1, d, seval, bA]
      exact htl _ q _ _ ⟨fp2, fq2, hT2, hU2, hd2⟩ (.inr ⟨rfl, ho2⟩) rfl rfl rfl
    | succ k =>
      have d : decide ((0 : Int) ≤ (k : Int)) = true := decide_eq_true (by omega)
      have hk1 : k < m.length := by omega
      have w1 : ((k + 1 : Nat) : Int) - 1 = (k : Int) := by omega
      have w2 : IntKind.i64.wrap ((k : Int) - 1) = (k : Int) - 1 := wrapI (by omega) (by omega)
      have hi := islO_own ho2 hk1
      have hl := ldL_own ho2 hk1
      have hone := chain_one hok.1 _ (List.getElem_mem hk1)
      have hdr : m.drop k = m[k] :: m.drop (k + 1) := List.drop_eq_getElem_cons hk1
      have hfr : overT (m.drop (k + 1)) m[k] = m.drop k := by
        have := ok_drop hok k
        rw [hdr] at this
        rw [hdr, overT, if_pos hone]; exact over_front this
      have he : errO m[k] = 0 := if_pos hone
      have hov := tover_i (e := m[k]) hU2 (ok_drop hok (k + 1))
      simp only [pE, rowE] at hov
      simp only [U61, d, w1, hi, hl, rowE, seval, bA]
      refine callM hov ?_
      rintro r ob3 ⟨rfl, hR⟩
      rw [hfr] at hR
      simp only [U61, he, w2, seval, bA]
      obtain ⟨fq3, g1, g2, g3⟩ := hR.ex
      refine ⟨(k, ob3), rfl, ⟨by omega, g3.get ho2 hq2, fp2, fq3, hT2.same g3 (fun i hi hj => hd2 i hi hj), g1, fun i hi hj => ?_, fun hm => ?_⟩, by simp only; omega⟩
      · rcases List.mem_cons.1 hj with rfl | hj
        · exact hd2 _ hi (by simp)
        · rcases g2 i hj with h | h
          · exact hd2 _ hi (by simp [h])
          · have := hT2.lt i hi; omega
      · rcases List.mem_cons.1 hm with rfl | hm
        · exact hq2 (by simp)
        · rcases g2 q hm with h | h
          · exact hq2 (by simp [h])
          · have := (List.getElem?_eq_some_iff.1 ho2).1; omega
theorem ways_law (l : List Lay) (hm : l.length ≤ 9223372036854775807) : PCall Tryz.prog 3 [.slc (l.map rowY)] (.bool true) := by
  refine pcall_dr Tryz.func3 cm61 ?_
  have htl : ∀ (ob : List AObj) (u : Nat) (m : List Xt) (f : Nat → PV), OkL m → Two ob 0 m u [] → f 3 = .ref 0 0 → f 4 = .ref u 0 → AWP Tryz.prog 0 f0_43 (AFin [ARV.t 2] (.bool true)) ⟨f, ob⟩ := fun ob u m f h1 h2 h3 h4 => ways_mid h1 h2 h3 h4
  simp only [U61, seval, bA]
  refine callM (tnew_i []) ?_
  rintro r ob0 ⟨rfl, hT0, hS0⟩
  have hT0 : TreeAt ob0 0 [] [] := hT0
  try simp only [U61, seval, bA]
  refine callM (tnew_i ob0) ?_
  rintro r ob1 ⟨rfl, hU1, hS1⟩
  have hl0 := hT0.lt 0 (by simp)
  have hT1 := hT0.same hS1 (fun _ _ h => h)
  have h2 : Two ob1 0 [] ob0.length [] := ⟨[], [], hT1, hU1, fun i hi hj => by simp at hi hj; omega⟩
  generalize ob0.length = u at *
  simp only [U61, seval, bA]
  refine callI fine_spec ?_
  simp only [U61, seval, bA]
  generalize AWP Tryz.prog 0 f0_43 (AFin [ARV.t 2] (.bool true)) = Tl at *
  refine loopF (fun x : Nat × List Xt × List AObj => ⟨ofL [(0, .slc (l.map rowY)), (3, .ref 0 0), (4, .ref u 0), (5, .int .i64 x.1)], x.2.2⟩)
    (fun x => x.1 ≤ 100 ∧ OkL x.2.1 ∧ Two x.2.2 0 x.2.1 u []) (fun x => 100 - x.1) (0, [], ob1) ?_ ⟨by omega, ⟨trivial, trivial⟩, h2⟩ ?_
  · simp only [U61, seval, bA]
    all_goals rfl
  rintro ⟨i, m, ob⟩ ⟨hi, hok, h2⟩
  simp only at hi hok h2
  by_cases h : i < l.length
  · have d : decide ((i : Int) < (l.length : Int)) = true := by simpa using h
    by_cases h2' : i < 100
    · have d2 : decide ((i : Int) < 100) = true := decide_eq_true (by omega)
      have e1 : IntKind.i64.wrap ((i : Int) + 1) = ((i + 1 : Nat) : Int) := by rw [wrapI (by omega) (by omega)]; omega
      have hisl := islV_map (g := rowY) (ob := ob) (fb := []) (k := .i64) (l := l) h (rowY_len _)
      simp only [rowY] at hisl
      obtain ⟨x, hx⟩ : ∃ x, l[i] = x := ⟨_, rfl⟩
      rw [hx] at hisl
      obtain ⟨fp, fq, hT, hU, hd⟩ := h2
      by_cases hc : x.c = true
      · simp only [U61, d, d2, hisl, hc, seval, bA]
        refine callM (tcut_i hT hok) ?_
        rintro r ob2 ⟨rfl, hR⟩
        simp only [U61, e1, seval, bA]
        exact ⟨(i + 1, cutT m x.e.fr x.e.n, ob2), rfl, ⟨by omega, cutT_ok hok, two_step hT hU hd hR⟩, by simp only; omega⟩
      · simp only [Bool.not_eq_true] at hc
        simp only [U61, d, d2, hisl, hc, seval, bA]
        have htov := tover_i (e := x.e) hT hok
        simp only [pE, rowE] at htov
        refine callM htov ?_
        rintro r ob2 ⟨rfl, hR⟩
        simp only [U61, e1, seval, bA]
        exact ⟨(i + 1, overT m x.e, ob2), rfl, ⟨by omega, overT_ok hok, two_step hT hU hd hR⟩, by simp only; omega⟩
    · have d2 : decide ((i : Int) < 100) = false := decide_eq_false (by omega)
      simp only [U61, d, d2, seval, bA]
      exact htl _ u m _ hok h2 rfl rfl
  · have d : decide ((i : Int) < (l.length : Int)) = false := by simpa using h
    simp only [U61, d, seval, bA]
    exact htl _ u m _ hok h2 rfl rfl
theorem ways_fit (ps : List PV) (h : fitVs [.sl shY] ps) : PCall Tryz.prog 3 ps (.bool true) := by
  obtain ⟨_, _, rfl, ⟨rows, hr, hl, hf⟩, rfl⟩ := h
  cases hr
  obtain ⟨l, rfl⟩ := fit_ys hf
  exact ways_law l (by simpa [maxLen] using hl)
end Go.Proofs.YtdgpiobmncohjaaGreat.Aw
