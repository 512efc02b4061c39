/-
  A tree is the list of its extents; how it came to them does not matter: contracts of the two statements.
-/
import Derived.Test.YtdgpiobmncohjaaGreatLoo
import Derived.Test.YtdgpiobmncohjaaGreatAwOpen
import Derived.Test.YtdgpiobmncohjaaGreatAwFit
import Derived.Test.YtdgpiobmncohjaaGreatNan
set_option linter.unusedSimpArgs false
set_option linter.unusedVariables false
set_option maxRecDepth 100000
namespace Go.Proofs.YtdgpiobmncohjaaGreat.Aw
open Go.RowKit Ar

/-- What is laid over, or cut. -/
structure Lay where
  e : Xt
  c : Bool
def rowY (x : Lay) : List PV := [.int .i64 x.e.fr, .int .i64 x.e.n, .int .i64 x.e.kd, .int .i64 x.e.at_, .bool x.c]
theorem rowY_len (x : Lay) : (rowY x).length = 5 := rfl
/-- A tree made anew: what is known of it between the statement's steps. -/
def TreeOk (ob : List AObj) (t : Nat) (m : List Xt) : Prop := ∃ fp, TreeAt ob t m fp
theorem TreeR.ok {ob ob' : List AObj} {t : Nat} {fp : List Nat} {m : List Xt} (h : TreeR ob t fp m ob') : TreeOk ob' t m := by
  obtain ⟨fp', h1, _⟩ := h.ex
  exact ⟨fp', h1⟩
theorem tree_tail {ob : List AObj} {t : Nat} {m : List Xt} {s : Int} {f : Nat → PV} (hs : s ≤ 9223372036854775807) (hok : OkL m) (hT : TreeOk ob t m) (f1 : f 1 = .int .i64 s) (f5 : f 5 = .ref t 0) (f6 : f 6 = .slc (m.map rowE)) :
    AWP Tryz.prog 0 f1_55 (AFin [ARV.t 4] (.bool true)) ⟨f, ob⟩ := by
  obtain ⟨fp, hT⟩ := hT
  have hlen := ok_len hok
  have hb := okB_ok.2 hok
  simp only [U63, f1, f5, f6, seval, bA]
  refine callM (tfind_i hT hok.1 hs) ?_
  rintro r ob1 ⟨rfl, hS1⟩
  have hT1 := hT.same hS1 (fun _ _ h => h)
  simp only [U63, f1, f5, f6, seval, bA]
  refine callI (find_spec m s (chain_one hok.1) (by omega) hs) ?_
  simp only [U63, f1, f5, f6, seval, bA]
  refine callI (check_spec m (by omega)) ?_
  rw [hb]
  simp only [U63, f1, f5, f6, seval, bA]
  refine callM (all_i hT1 hok.1) ?_
  rintro r ob2 ⟨q, ho, hq, hS2⟩
  have hT2 := hT1.same hS2 (fun _ _ h => h)
  have hal := alike_spec m m (by omega) (by omega)
  rw [decide_eq_true rfl] at hal
  have hcn := count_spec m (by omega)
  rw [if_pos hb] at hcn
  rcases ho with ⟨h0, rfl⟩ | ⟨rfl, ho⟩
  · subst h0
    simp only [U63, f1, f5, f6, seval, bA]
    refine callI (PCall.nzA (args' := [.nils, .slc ([].map rowE)]) hal rfl) ?_
    simp only [U63, f1, f5, f6, beq_self_eq_true, seval, bA]
    refine callM (tcount_i hT2 hok) ?_
    rintro r ob3 ⟨rfl, hS3⟩
    simp only [U63, f1, f5, f6, seval, bA]
    refine callI hcn ?_
    simp only [U63, f1, f5, f6, beq_self_eq_true, seval, bA]
  · have ho3 : rowsO (some (AObj.list 4 (m.map rowE))) 0 m.length = some (m.map rowE) := by simp [rowsO]
    simp only [U63, f1, f5, f6, ho, ho3, seval, bA]
    refine callS hal rfl ?_
    simp only [U63, f1, f5, f6, beq_self_eq_true, seval, bA]
    refine callM (tcount_i hT2 hok) ?_
    rintro r ob3 ⟨rfl, hS3⟩
    simp only [U63, f1, f5, f6, seval, bA]
    refine callI hcn ?_
    simp only [U63, f1, f5, f6, beq_self_eq_true, seval, bA]
theorem tree_law (l : List Lay) (s : Int) (hm : l.length ≤ 9223372036854775807) (hs : s ≤ 9223372036854775807) : PCall Tryz.prog 4 [.slc (l.map rowY), .int .i64 s] (.bool true) := by
  refine pcall_dr Tryz.func4 cm63 ?_
  simp only [U63, seval, bA]
  refine callM (tnew_i []) ?_
  rintro r ob0 ⟨rfl, hT0, hS0⟩
  simp only [U63, seval, bA]
  refine callI fine_spec ?_
  simp only [U63, seval, bA]
  have hT0 : TreeAt ob0 0 [] [] := hT0
  have htl : ∀ (ob : List AObj) (m : List Xt) (f : Nat → PV), OkL m → TreeOk ob 0 m → f 1 = .int .i64 s → f 5 = .ref 0 0 → f 6 = .slc (m.map rowE) → AWP Tryz.prog 0 f1_55 (AFin [ARV.t 4] (.bool true)) ⟨f, ob⟩ := fun ob m f h1 h2 h3 h4 h5 => tree_tail hs h1 h2 h3 h4 h5
  generalize AWP Tryz.prog 0 f1_55 (AFin [ARV.t 4] (.bool true)) = Tl at *
  refine loopF (fun x : Nat × List Xt × List AObj => ⟨ofL [(0, .slc (l.map rowY)), (1, .int .i64 s), (5, .ref 0 0), (6, .slc (x.2.1.map rowE)), (7, .int .i64 x.1)], x.2.2⟩)
    (fun x => x.1 ≤ 150 ∧ OkL x.2.1 ∧ TreeOk x.2.2 0 x.2.1) (fun x => 150 - x.1) (0, [], ob0) ?_ ⟨by omega, ⟨trivial, trivial⟩, _, hT0⟩ ?_
  · simp only [U63, seval, bA]
    all_goals rfl
  rintro ⟨i, m, ob⟩ ⟨hi, hok, fp, hT⟩
  simp only at hi hok hT
  have hb := okB_ok.2 hok
  have hlen := ok_len hok
  by_cases h : i < l.length
  · have d : decide ((i : Int) < (l.length : Int)) = true := by simpa using h
    by_cases h2 : i < 150
    · have d2 : decide ((i : Int) < 150) = true := decide_eq_true (by omega)
      have e1 : IntKind.i64.wrap ((i : Int) + 1) = ((i + 1 : Nat) : Int) := by rw [wrapI (by omega) (by omega)]; omega
      have g1 : ∀ (x : AObj), (ob ++ [x])[ob.length]? = some x := fun x => app0 ob x
      have g2 := setA ob
      have hisl := islV_map (g := rowY) (ob := ob) (fb := []) (k := .i64) (l := l) h (rowY_len _)
      simp only [rowY] at hisl
      obtain ⟨x, hx⟩ : ∃ x, l[i] = x := ⟨_, rfl⟩
      rw [hx] at hisl
      have hSa : Same ob (ob ++ [AObj.box (rowY x)]) (fun _ => False) := Same.app _ _ _
      have hTa := hT.same hSa (fun _ _ h => h)
      by_cases hc : x.c = true
      · simp only [U63, d, d2, hisl, rowY, g1, g2, ldB1, hc, seval, bA]
        refine callI (cut_spec m x.e.fr x.e.n (by omega)) ?_
        simp only [rowY, hc] at hTa
        by_cases hsp : SpanP x.e.fr x.e.n
        · have hcr : cutR m x.e.fr x.e.n = okR (cutS m x.e.fr x.e.n) := if_pos ⟨hb, hsp⟩
          have he : errC x.e.fr x.e.n = 0 := if_pos hsp
          have hct : cutT m x.e.fr x.e.n = cutS m x.e.fr x.e.n := if_pos hsp
          rw [hcr]
          simp only [U63, okR, g1, seval, bA]
          refine callM (tcut_i hTa hok) ?_
          rintro r ob2 ⟨rfl, hR⟩
          rw [hct] at hR
          simp only [U63, he, e1, seval, bA]
          exact ⟨(i + 1, cutS m x.e.fr x.e.n, ob2), rfl, ⟨by omega, cut_ok hok hsp, hR.ok⟩, by simp only; omega⟩
        · have hcr : cutR m x.e.fr x.e.n = errR := if_neg fun h => hsp h.2
          have he : errC x.e.fr x.e.n = 1 := if_neg hsp
          have hct : cutT m x.e.fr x.e.n = m := if_neg hsp
          rw [hcr]
          simp only [U63, errR, g1, seval, bA]
          refine callM (tcut_i hTa hok) ?_
          rintro r ob2 ⟨rfl, hR⟩
          rw [hct] at hR
          simp only [U63, he, e1, seval, bA]
          exact ⟨(i + 1, m, ob2), rfl, ⟨by omega, hok, hR.ok⟩, by simp only; omega⟩
      · simp only [Bool.not_eq_true] at hc
        simp only [U63, d, d2, hisl, rowY, g1, g2, ldB1, hc, seval, bA]
        have hov := over_spec m x.e (by omega)
        simp only [pE, rowE] at hov
        simp only [rowY, hc] at hTa
        have htov := tover_i (e := x.e) hTa hok
        simp only [pE, rowE] at htov
        refine callI hov ?_
        by_cases hsp : OneP x.e
        · have hcr : overR m x.e = okR (overS m x.e) := if_pos ⟨hb, hsp⟩
          have he : errO x.e = 0 := if_pos hsp
          have hct : overT m x.e = overS m x.e := if_pos hsp
          rw [hcr]
          simp only [U63, okR, g1, seval, bA]
          refine callM htov ?_
          rintro r ob2 ⟨rfl, hR⟩
          rw [hct] at hR
          simp only [U63, he, e1, seval, bA]
          exact ⟨(i + 1, overS m x.e, ob2), rfl, ⟨by omega, over_ok hok hsp, hR.ok⟩, by simp only; omega⟩
        · have hcr : overR m x.e = errR := if_neg fun h => hsp h.2
          have he : errO x.e = 1 := if_neg hsp
          have hct : overT m x.e = m := if_neg hsp
          rw [hcr]
          simp only [U63, errR, g1, seval, bA]
          refine callM htov ?_
          rintro r ob2 ⟨rfl, hR⟩
          rw [hct] at hR
          simp only [U63, he, e1, seval, bA]
          exact ⟨(i + 1, m, ob2), rfl, ⟨by omega, hok, hR.ok⟩, by simp only; omega⟩
    · have d2 : decide ((i : Int) < 150) = false := decide_eq_false (by omega)
      simp only [U63, d, d2, seval, bA]
      exact htl _ m _ hok ⟨fp, hT⟩ rfl rfl rfl
  · have d : decide ((i : Int) < (l.length : Int)) = false := by simpa using h
    simp only [U63, d, seval, bA]
    exact htl _ m _ hok ⟨fp, hT⟩ rfl rfl rfl

abbrev shY : Sh := .st [.st [.int .i64, .int .i64, .int .i64, .int .i64], .bool]
theorem fit_y {cs : List PV} (h : shY.fit cs) : ∃ x : Lay, cs = rowY x := by
  obtain ⟨_, _, rfl, ⟨_, _, rfl, ⟨a, rfl, _⟩, _, _, rfl, ⟨b, rfl, _⟩, _, _, rfl, ⟨c, rfl, _⟩, _, _, rfl, ⟨d, rfl, _⟩, rfl⟩, _, _, rfl, ⟨k, rfl⟩, rfl⟩ := h
  exact ⟨⟨⟨a, b, c, d⟩, k⟩, rfl⟩
theorem fit_ys : ∀ {rows : List (List PV)}, (∀ r ∈ rows, shY.fit r) → ∃ l : List Lay, rows = l.map rowY
  | [], _ => ⟨[], rfl⟩
  | r :: rs, h => by
    obtain ⟨x, hx⟩ := fit_y (h r (by simp))
    obtain ⟨l, hl⟩ := fit_ys (rows := rs) fun q hq => h q (by simp [hq])
    exact ⟨x :: l, by rw [hx, hl]; rfl⟩
theorem tree_fit (ps : List PV) (h : fitVs [.sl shY, .int .i64] ps) : PCall Tryz.prog 4 ps (.bool true) := by
  obtain ⟨_, _, rfl, ⟨rows, hr, hl, hf⟩, _, _, rfl, ⟨s, hs, ws⟩, rfl⟩ := h
  cases hr; cases hs
  obtain ⟨l, rfl⟩ := fit_ys hf
  exact tree_law l s (by simpa [maxLen] using hl) (bounds_i64 ws).2
end Go.Proofs.YtdgpiobmncohjaaGreat.Aw
