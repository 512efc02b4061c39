/-
  The array of pages: its small functions.
-/
import Derived.Test.YtdgpiobmncohjaaDoorCodeN
set_option linter.unusedSimpArgs false
set_option linter.unusedVariables false
namespace Go.Proofs.YtdgpiobmncohjaaDoor.Aw
open Go.RowKit

structure Mis where
  at_ : Int
  kd : Int
  kp : Int
  jk : List UInt8
def rowM (m : Mis) : List PV := [.int .i64 m.at_, .int .i64 m.kd, .int .i64 m.kp, .str m.jk]
def zeroM : Mis := ⟨0, 0, 0, []⟩
/-- A block: its pages, how often it was erased, whether it is bad. -/
structure Bk where
  pg : List (List UInt8)
  wn : Int
  bad : Bool
def zeroK : Bk := ⟨[], 0, false⟩
/-- A block, and where its pages are kept. -/
structure Ent where
  pv : PV
  k : Nat
  b : Bk
def cellsE (e : Ent) : List PV := [e.pv, .int .i64 e.b.wn, .bool e.b.bad]
abbrev rowsS (l : List (List UInt8)) : List (List PV) := l.map fun s => [PV.str s]
abbrev lS (l : List (List UInt8)) : AObj := .list 1 (rowsS l)
abbrev lM (l : List Mis) : AObj := .list 4 (l.map rowM)
def PgAt (ob : List AObj) (e : Ent) : Prop := (e.b.pg = [] ∧ e.pv = .nils) ∨ (e.pv = .osl e.k 0 e.b.pg.length ∧ ob[e.k]? = some (lS e.b.pg))
def PlAt (ob : List AObj) (pl : PV) (pk : Nat) (P : List Mis) : Prop := (P = [] ∧ pl = .nils) ∨ (pl = .osl pk 0 P.length ∧ ob[pk]? = some (lM P))
structure NandAt (ob : List AObj) (N B : Nat) (E : List Ent) (ops : Int) (pl : PV) (pk : Nat) (P : List Mis) (down : Bool) : Prop where
  hN : ob[N]? = some (.box [.int .i64 16, .int .i64 8, .bsl B 0 16, .int .i64 ops, pl, .bool down])
  hB : ob[B]? = some (.box (E.flatMap cellsE))
  len : E.length = 16
  pgs : ∀ e ∈ E, PgAt ob e
  plan : PlAt ob pl pk P
  inj : ∀ (i j : Nat) (a b : Ent), E[i]? = some a → E[j]? = some b → a.pv ≠ .nils → b.pv ≠ .nils → a.k = b.k → i = j
  ops0 : 0 ≤ ops
  ops1 : ops ≤ 1000000
  pl1 : P.length ≤ 1000000
theorem lt_ofN {ob : List AObj} {i : Nat} {a : AObj} (h : ob[i]? = some a) : i < ob.length := (List.getElem?_eq_some_iff.1 h).1
theorem apN {ob : List AObj} {i : Nat} {a : AObj} (h : ob[i]? = some a) (l : List AObj) : (ob ++ l)[i]? = some a := by rw [List.getElem?_append_left (lt_ofN h)]; exact h
theorem NandAt.app {ob : List AObj} {N B E ops pl pk P down} (h : NandAt ob N B E ops pl pk P down) (l : List AObj) : NandAt (ob ++ l) N B E ops pl pk P down where
  hN := apN h.hN l
  hB := apN h.hB l
  len := h.len
  pgs e he := by
    rcases h.pgs e he with h1 | ⟨h1, h2⟩
    · exact .inl h1
    · exact .inr ⟨h1, apN h2 l⟩
  plan := by
    rcases h.plan with h1 | ⟨h1, h2⟩
    · exact .inl h1
    · exact .inr ⟨h1, apN h2 l⟩
  inj := h.inj
  ops0 := h.ops0
  ops1 := h.ops1
  pl1 := h.pl1
/-- Lists of neither pages nor mishaps stay (a list of numbers is neither), and boxes that are not the array's. -/
def isI : List (List PV) → Bool
  | (.int _ _ :: _) :: _ => true
  | _ => false
theorem isI_S (l : List (List UInt8)) : isI (rowsS l) = false := by cases l <;> rfl
def KeepL (ob ob' : List AObj) : Prop := (∀ (i z : Nat) (rows : List (List PV)), (z ≠ 1 ∨ isI rows = true) → z ≠ 4 → ob[i]? = some (AObj.list z rows) → ob'[i]? = some (AObj.list z rows)) ∧
  ∀ (i : Nat) (c : List PV), c.length ≠ 6 → c.length ≠ 48 → ob[i]? = some (AObj.box c) → ob'[i]? = some (AObj.box c)
theorem KeepL.refl (ob : List AObj) : KeepL ob ob := ⟨fun _ _ _ _ _ h => h, fun _ _ _ _ h => h⟩
theorem KeepL.trans {a b c : List AObj} (h : KeepL a b) (k : KeepL b c) : KeepL a c := ⟨fun i z r h1 h2 h3 => k.1 i z r h1 h2 (h.1 i z r h1 h2 h3), fun i r h1 h2 h3 => k.2 i r h1 h2 (h.2 i r h1 h2 h3)⟩
theorem KeepL.app (ob l : List AObj) : KeepL ob (ob ++ l) := ⟨fun i z r _ _ h => apN h l, fun i r _ _ h => apN h l⟩
theorem KeepL.box {ob : List AObj} {i : Nat} {c c' : List PV} (h : ob[i]? = some (.box c)) (hc : c.length = 6 ∨ c.length = 48 := by exact .inl rfl) : KeepL ob (ob.set i (.box c')) := by
  refine ⟨fun j z r _ _ hj => ?_, fun j r h1 h2 hj => ?_⟩
  · rw [List.getElem?_set_ne]; · exact hj
    rintro rfl; rw [h] at hj; cases hj
  · rw [List.getElem?_set_ne]; · exact hj
    rintro rfl; rw [h] at hj; injection hj with hj; injection hj with hj; subst hj
    rcases hc with hc | hc
    · exact h1 hc
    · exact h2 hc
theorem KeepL.ls {ob : List AObj} {i : Nat} {l : List (List UInt8)} {a : AObj} (h : ob[i]? = some (lS l)) : KeepL ob (ob.set i a) := by
  refine ⟨fun j z r h1 _ hj => ?_, fun j r _ _ hj => ?_⟩
  · rw [List.getElem?_set_ne]; · exact hj
    rintro rfl; rw [h] at hj; injection hj with hj; injection hj with hj hr
    rcases h1 with h1 | h1
    · omega
    · rw [← hr, isI_S] at h1; cases h1
  · rw [List.getElem?_set_ne]; · exact hj
    rintro rfl; rw [h] at hj; cases hj
theorem KeepL.lm {ob : List AObj} {i : Nat} {l : List Mis} {a : AObj} (h : ob[i]? = some (lM l)) : KeepL ob (ob.set i a) := by
  refine ⟨fun j z r _ h2 hj => ?_, fun j r _ _ hj => ?_⟩
  · rw [List.getElem?_set_ne]; · exact hj
    rintro rfl; rw [h] at hj; injection hj with hj; injection hj with hj; omega
  · rw [List.getElem?_set_ne]; · exact hj
    rintro rfl; rw [h] at hj; cases hj

theorem nin_spec (n a b : Int) : PCall Tryd.prog 21 [.int .i64 n, .int .i64 a, .int .i64 b] (.bool (decide (a ≤ n) && decide (n ≤ b))) := by
  refine pcall_dr Tryd.func21 comp_nand_in ?_
  by_cases h0 : a ≤ n
  · have d : decide (a ≤ n) = true := by simpa using h0
    simp (config := {maxSteps := 4000000}) only [U_nand_in, d, Bool.true_and, reduceIte, reduceCtorEq, Nat.reduceEqDiff, Nat.reduceAdd, Int.reduceLT, Int.reduceLE, Int.reduceNeg, Int.reduceEq, Nat.reduceLT, Nat.reduceSub, Nat.reduceMul, Nat.reduceBEq, Nat.reduceLeDiff, Int.reduceBEq, Int.reduceBNe, Int.reduceToNat, ne_eq, implies_true, bA]
  · have d : decide (a ≤ n) = false := by simpa using h0
    simp (config := {maxSteps := 4000000}) only [U_nand_in, d, Bool.false_and, reduceIte, reduceCtorEq, Nat.reduceEqDiff, Nat.reduceAdd, Int.reduceLT, Int.reduceLE, Int.reduceNeg, Int.reduceEq, Nat.reduceLT, Nat.reduceSub, Nat.reduceMul, Nat.reduceBEq, Nat.reduceLeDiff, Int.reduceBEq, Int.reduceBNe, Int.reduceToNat, ne_eq, implies_true, bA]
theorem plain_spec : PCall Tryd.prog 8 [] (.agg [.int .i64 16, .int .i64 8]) := by
  refine pcall_dr Tryd.func8 comp_top_plain ?_
  simp (config := {maxSteps := 4000000}) only [U_top_plain, reduceIte, reduceCtorEq, Nat.reduceEqDiff, Nat.reduceAdd, Int.reduceLT, Int.reduceLE, Int.reduceNeg, Int.reduceEq, Nat.reduceLT, Nat.reduceSub, Nat.reduceMul, Nat.reduceBEq, Nat.reduceLeDiff, Int.reduceBEq, Int.reduceBNe, Int.reduceToNat, ne_eq, implies_true, bA]
/-- An error: none, or a number. -/
def errV (e : Int) : PV := if e = 0 then .nili else .ifc 26 (.int .i64 e)
/-- An error as a caller gets it. -/
def WrapAt (ob : List AObj) (e : Int) (r : PV) : Prop := (e = 0 ∧ r = .nili) ∨ (e ≠ 0 ∧ ∃ o op a, r = .ifc 85 (.ref o 0) ∧ ob[o]? = some (.box [.str op, .int .i64 a, .ifc 26 (.int .i64 e)]))
theorem wrap_i (ob : List AObj) (op : List UInt8) (a e : Int) : ICall Tryd.prog 22 [.str op, .int .i64 a, errV e] ob fun r ob' => (∃ ex, ob' = ob ++ ex) ∧ WrapAt ob' e r := by
  refine icall_dr Tryd.func22 comp_fault_Wrap ?_
  unfold errV
  by_cases h : e = 0
  · rw [if_pos h]
    simp (config := {maxSteps := 4000000}) only [U_fault_Wrap, reduceIte, reduceCtorEq, Nat.reduceEqDiff, Nat.reduceAdd, Int.reduceLT, Int.reduceLE, Int.reduceNeg, Int.reduceEq, Nat.reduceLT, Nat.reduceSub, Nat.reduceMul, Nat.reduceBEq, Nat.reduceLeDiff, Int.reduceBEq, Int.reduceBNe, Int.reduceToNat, ne_eq, implies_true, bA]
    exact ⟨_, rfl, ⟨[], by simp⟩, .inl ⟨h, rfl⟩⟩
  · rw [if_neg h]
    simp (config := {maxSteps := 4000000}) only [U_fault_Wrap, reduceIte, reduceCtorEq, Nat.reduceEqDiff, Nat.reduceAdd, Int.reduceLT, Int.reduceLE, Int.reduceNeg, Int.reduceEq, Nat.reduceLT, Nat.reduceSub, Nat.reduceMul, Nat.reduceBEq, Nat.reduceLeDiff, Int.reduceBEq, Int.reduceBNe, Int.reduceToNat, ne_eq, implies_true, bA]
    exact ⟨_, rfl, ⟨_, rfl⟩, .inr ⟨h, _, op, a, rfl, by simp⟩⟩
/-- What is kept of a text that is spoilt. -/
def spoiltS (m : Mis) (s : List UInt8) : List UInt8 := (s.take (min m.kp s.length).toNat ++ m.jk).take 128
theorem spoilt_spec (m : Mis) (s : List UInt8) (hs : s.length ≤ 128) (hj : m.jk.length ≤ 1000) : PCall Tryd.prog 42 [.agg (rowM m), .str s] (.str (spoiltS m s)) := by
  refine pcall_dr Tryd.func42 comp_nand_spoilt ?_
  obtain ⟨z, hz⟩ : ∃ z : Nat, max (min m.kp (s.length : Int)) 0 = (z : Int) := ⟨(min m.kp (s.length : Int)).toNat, by omega⟩
  have hz2 : (min m.kp (s.length : Int)).toNat = z := by omega
  have hzs : z ≤ s.length := by omega
  have s1 := sstrV_to hzs
  obtain ⟨t, ht⟩ : ∃ t, s.take z ++ m.jk = t := ⟨_, rfl⟩
  have htl : (s.take z).length + m.jk.length ≤ 9223372036854775807 := by simp; omega
  have b1 : binS .add (s.take z) m.jk = some (.str t) := by rw [binS_add htl, ht]
  obtain ⟨y, hy⟩ : ∃ y : Nat, min (t.length : Int) 128 = (y : Int) := ⟨min t.length 128, by omega⟩
  have s2 : sstrV (.str t) (some none) (some (some (y : Int))) = some (.str (t.take y)) := sstrV_to (by omega)
  have hv : spoiltS m s = t.take y := by
    rw [spoiltS, hz2, ht]
    by_cases h : t.length ≤ 128
    · rw [List.take_of_length_le h, List.take_of_length_le (by omega)]
    · rw [show y = 128 by omega]
  rw [hv]
  simp (config := {maxSteps := 4000000}) only [U_nand_spoilt, rowM, hz, hy, s1, s2, b1, reduceIte, reduceCtorEq, Nat.reduceEqDiff, Nat.reduceAdd, Int.reduceLT, Int.reduceLE, Int.reduceNeg, Int.reduceEq, Nat.reduceLT, Nat.reduceSub, Nat.reduceMul, Nat.reduceBEq, Nat.reduceLeDiff, Int.reduceBEq, Int.reduceBNe, Int.reduceToNat, ne_eq, implies_true, bA]
theorem page_r {ob : List AObj} {N B E ops pl pk P down} (h : NandAt ob N B E ops pl pk P down) (i : Int) : RCall Tryd.prog 40 [.ref N 0, .int .i64 i] ob (.bool (decide (0 ≤ i) && decide (i < 128))) := by
  refine RCall.of (K := fun r ob' => r = .bool (decide (0 ≤ i) && decide (i < 128)) ∧ ob' = ob) ?_ (fun r ob' h => ⟨h.1, [], by rw [h.2]; simp⟩) rfl
  refine icall_dr Tryd.func40 comp_nand_Nand_page ?_
  have hN := h.hN
  have w : IntKind.i64.wrap ((16 : Int) * 8) = 128 := by decide
  by_cases h0 : 0 ≤ i
  · have d : decide (0 ≤ i) = true := by simpa using h0
    simp (config := {maxSteps := 4000000}) only [U_nand_Nand_page, d, hN, w, Bool.true_and, reduceIte, reduceCtorEq, Nat.reduceEqDiff, Nat.reduceAdd, Int.reduceLT, Int.reduceLE, Int.reduceNeg, Int.reduceEq, Nat.reduceLT, Nat.reduceSub, Nat.reduceMul, Nat.reduceBEq, Nat.reduceLeDiff, Int.reduceBEq, Int.reduceBNe, Int.reduceToNat, ne_eq, implies_true, bA]
    exact ⟨_, rfl, rfl⟩
  · have d : decide (0 ≤ i) = false := by simpa using h0
    simp (config := {maxSteps := 4000000}) only [U_nand_Nand_page, d, hN, w, Bool.false_and, reduceIte, reduceCtorEq, Nat.reduceEqDiff, Nat.reduceAdd, Int.reduceLT, Int.reduceLE, Int.reduceNeg, Int.reduceEq, Nat.reduceLT, Nat.reduceSub, Nat.reduceMul, Nat.reduceBEq, Nat.reduceLeDiff, Int.reduceBEq, Int.reduceBNe, Int.reduceToNat, ne_eq, implies_true, bA]
    exact ⟨_, rfl, rfl⟩

end Go.Proofs.YtdgpiobmncohjaaDoor.Aw
