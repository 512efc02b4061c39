/-
  Lists each of whose elements may be, and may stand behind the one ahead; the first place of something. Plain Lean.; Root records as bytes. Plain Lean.; What the functions of the package 'root' compute, and the document's: which records may be.; What the functions of the package 'root' compute, and the document's: writing and reading.; What the functions of the package 'root' compute, and the document's: reading; finding.
-/
import Derived.Test.YtdgpiobmncohjaaGreatDoorAwBun
import Derived.Test.YtdgpiobmncohjaaGreatDoorBas
import Derived.Test.YtdgpiobmncohjaaGreatDoorCode
import Derived.Test.YtdgpiobmncohjaaGreatDoorAwFit
set_option linter.unusedSimpArgs false
set_option linter.unusedVariables false
namespace Go.Proofs.YtdgpiobmncohjaaGreatDoor.Aw
open Go.RowKit

def lkF {α : Type} (one : α → Bool) (lk : α → α → Bool) : Option α → List α → Bool
  | _, [] => true
  | none, e :: t => one e && lkF one lk (some e) t
  | some a, e :: t => one e && (lk a e && lkF one lk (some e) t)
def lkB {α : Type} (one : α → Bool) (lk : α → α → Bool) (l : List α) : Bool := lkF one lk none l
theorem lkF_some {α : Type} {one : α → Bool} {lk : α → α → Bool} : ∀ {l : List α} {a : α}, lkF one lk (some a) l = true ↔ (∀ i (h : i < l.length), one l[i] = true) ∧ (∀ h : 0 < l.length, lk a l[0] = true) ∧ ∀ i (h : i + 1 < l.length), lk l[i] l[i + 1] = true
  | [], a => by simp [lkF]
  | e :: t, a => by
    simp only [lkF, Bool.and_eq_true, lkF_some]
    constructor
    · rintro ⟨h1, h2, h3, h4, h5⟩
      refine ⟨fun i h => ?_, fun _ => h2, fun i h => ?_⟩
      · cases i with
        | zero => exact h1
        | succ i => exact h3 i (by simpa using h)
      · cases i with
        | zero => exact h4 (by simpa using h)
        | succ i => exact h5 i (by simpa using h)
    · rintro ⟨h1, h2, h3⟩
      exact ⟨h1 0 (by simp), h2 (by simp), fun i h => h1 (i + 1) (by simpa using h), fun h => h3 0 (by simpa using h), fun i h => h3 (i + 1) (by simpa using h)⟩
theorem lkB_at {α : Type} {one : α → Bool} {lk : α → α → Bool} {l : List α} : lkB one lk l = true ↔ (∀ i (h : i < l.length), one l[i] = true) ∧ ∀ i (h : i + 1 < l.length), lk l[i] l[i + 1] = true := by
  cases l with
  | nil => simp [lkB, lkF]
  | cons e t =>
    simp only [lkB, lkF, Bool.and_eq_true, lkF_some]
    constructor
    · rintro ⟨h1, h3, h4, h5⟩
      refine ⟨fun i h => ?_, fun i h => ?_⟩
      · cases i with
        | zero => exact h1
        | succ i => exact h3 i (by simpa using h)
      · cases i with
        | zero => exact h4 (by simpa using h)
        | succ i => exact h5 i (by simpa using h)
    · rintro ⟨h1, h3⟩
      exact ⟨h1 0 (by simp), fun i h => h1 (i + 1) (by simpa using h), fun h => h3 0 (by simpa using h), fun i h => h3 (i + 1) (by simpa using h)⟩
/-- It fails where one may not be, or may not stand there. -/
theorem lkB_no1 {α : Type} {one : α → Bool} {lk : α → α → Bool} {l : List α} {i : Nat} (h : i < l.length) (ho : one l[i] = false) : lkB one lk l = false := by
  cases hb : lkB one lk l with
  | false => rfl
  | true => rw [(lkB_at.1 hb).1 i h] at ho; cases ho
theorem lkB_no2 {α : Type} {one : α → Bool} {lk : α → α → Bool} {l : List α} {i : Nat} (h : i + 1 < l.length) (ho : lk l[i] l[i + 1] = false) : lkB one lk l = false := by
  cases hb : lkB one lk l with
  | false => rfl
  | true => rw [(lkB_at.1 hb).2 i h] at ho; cases ho

end Go.Proofs.YtdgpiobmncohjaaGreatDoor.Aw
namespace Go.Proofs.YtdgpiobmncohjaaGreatDoor.Aw.Rt
open Go.RowKit

structure Sp where
  id : Int
  sz : Int
  tp : Int
  hi : Int
deriving DecidableEq
def rowSp (s : Sp) : List PV := [.int .i64 s.id, .int .i64 s.sz, .int .i64 s.tp, .int .i64 s.hi]
theorem rowSp_len (s : Sp) : (rowSp s).length = 4 := rfl
def inL (n a b : Int) : Bool := decide (a ≤ n) && decide (n ≤ b)
theorem inL_iff {n a b : Int} : inL n a b = true ↔ a ≤ n ∧ n ≤ b := by simp [inL]
def spaceB (s : Sp) : Bool := inL s.id 1 65535 && (inL s.sz 0 16777216 && (inL s.hi 0 6 && (if s.hi = 0 then s.tp == -1 else inL s.tp 0 2047)))
theorem spaceB_iff {s : Sp} : spaceB s = true ↔ (1 ≤ s.id ∧ s.id ≤ 65535) ∧ (0 ≤ s.sz ∧ s.sz ≤ 16777216) ∧ (0 ≤ s.hi ∧ s.hi ≤ 6) ∧ ((s.hi = 0 ∧ s.tp = -1) ∨ (s.hi ≠ 0 ∧ 0 ≤ s.tp ∧ s.tp ≤ 2047)) := by
  simp only [spaceB, Bool.and_eq_true, inL_iff]
  by_cases h : s.hi = 0
  · simp [h]
  · simp [h, inL_iff]
def riseB (a b : Sp) : Bool := decide (a.id < b.id)
def mayR (g : Int) (l : List Sp) : Bool := inL g 0 1099511627775 && (decide (l.length ≤ 8) && lkB spaceB riseB l)
theorem mayR_iff {g : Int} {l : List Sp} : mayR g l = true ↔ (0 ≤ g ∧ g ≤ 1099511627775) ∧ l.length ≤ 8 ∧ lkB spaceB riseB l = true := by simp [mayR, inL_iff]
/-- The bytes of a namespace, and of a record. -/
def entS (s : Sp) : List UInt8 := leB 2 s.id.toNat ++ (leB 4 s.sz.toNat ++ (leB 2 s.tp.toNat ++ leB 1 s.hi.toNat))
def hdrS (g : Int) (n : Nat) : List UInt8 := leB 5 g.toNat ++ leB 1 n
def recS (g : Int) (l : List Sp) : List UInt8 := hdrS g l.length ++ l.flatMap entS
def writeR (g : Int) (l : List Sp) : List UInt8 × Int := if mayR g l = true then (recS g l, 0) else ([], 1)
theorem entS_len (s : Sp) : (entS s).length = 9 := by simp [entS, leB_len]
theorem hdrS_len (g : Int) (n : Nat) : (hdrS g n).length = 6 := by simp [hdrS, leB_len]
theorem flat_len9 : ∀ l : List Sp, (l.flatMap entS).length = 9 * l.length
  | [] => rfl
  | s :: l => by rw [List.flatMap_cons, List.length_append, entS_len, flat_len9 l, List.length_cons]; omega
theorem recS_len (g : Int) (l : List Sp) : (recS g l).length = 6 + 9 * l.length := by rw [recS, List.length_append, hdrS_len, flat_len9]
theorem flat_drop9 : ∀ (l : List Sp) (i : Nat), (l.flatMap entS).drop (9 * i) = (l.drop i).flatMap entS
  | l, 0 => by simp
  | [], i + 1 => by simp
  | s :: l, i + 1 => by
    rw [List.flatMap_cons, show 9 * (i + 1) = (entS s).length + 9 * i by rw [entS_len]; omega, ← List.drop_drop, List.drop_left, flat_drop9 l i, List.drop_succ_cons]
theorem flat_take (l : List Sp) (i : Nat) (h : i < l.length) : (l.take (i + 1)).flatMap entS = (l.take i).flatMap entS ++ entS l[i] := by
  rw [List.take_succ_eq_append_getElem h, List.flatMap_append]; simp
theorem flat_len_take (l : List Sp) (i : Nat) : ((l.take i).flatMap entS).length ≤ 9 * l.length := by rw [flat_len9]; simp; omega
/-- What is got, or 0. -/
def gS (s : List UInt8) (a w : Nat) : Int := ((getS s a w).1 : Int)
theorem gS_in {s : List UInt8} {a w : Nat} (h1 : 1 ≤ w) (h8 : w ≤ 8) (h : a + w ≤ s.length) : gS s a w = (leN ((s.drop a).take w) : Int) := by
  have hw : wid (w : Int) = true := wid_iff.2 ⟨by omega, by omega⟩
  rw [gS, getS, if_neg (by rw [hw]; simp), if_neg (by omega)]; simp
theorem leB_of {w : Nat} {x : List UInt8} (h : x.length = w) : leB w (leN x) = x := by rw [← h]; exact leB_leN x
theorem leN_of {w n : Nat} (h : n < 256 ^ w) : leN (leB w n) = n := by rw [leN_leB, Nat.mod_eq_of_lt h]
theorem gS_at {s x y z : List UInt8} {a w : Nat} (h1 : 1 ≤ w) (h8 : w ≤ 8) (hs : s = x ++ (y ++ z)) (hx : x.length = a) (hy : y.length = w) : gS s a w = (leN y : Int) := by
  rw [gS_in h1 h8 (by rw [hs, List.length_append, List.length_append]; omega), hs, List.drop_left' hx, List.take_left' hy]
def spAt (s : List UInt8) (a : Nat) : Sp := ⟨gS s a 2, gS s (a + 2) 4, if gS s (a + 8) 1 = 0 then -1 else gS s (a + 6) 2, gS s (a + 8) 1⟩
def genOf (s : List UInt8) : Int := gS s 0 5
/-- How many namespaces there are, by the length. -/
def manyOf (s : List UInt8) : Nat := min 8 ((s.length + 2) / 9)
def spacesOf (s : List UInt8) : List Sp := (List.range (manyOf s)).map fun i => spAt s (6 + 9 * i)
def readR (s : List UInt8) : Int × List Sp × Int := if mayR (genOf s) (spacesOf s) = true ∧ recS (genOf s) (spacesOf s) = s then (genOf s, spacesOf s, 0) else (0, [], 3)
theorem sp_at (g : Int) (l : List Sp) (i : Nat) (h : i < l.length) (ho : spaceB l[i] = true) : spAt (recS g l) (6 + 9 * i) = l[i] := by
  obtain ⟨⟨a1, a2⟩, ⟨b1, b2⟩, ⟨c1, c2⟩, d⟩ := spaceB_iff.1 ho
  have hd : (recS g l).drop (6 + 9 * i) = entS l[i] ++ (l.drop (i + 1)).flatMap entS := by
    rw [recS, ← List.drop_drop, List.drop_left' (hdrS_len _ _), flat_drop9, List.drop_eq_getElem_cons h, List.flatMap_cons]
  have hr : recS g l = (recS g l).take (6 + 9 * i) ++ (entS l[i] ++ (l.drop (i + 1)).flatMap entS) := by rw [← hd, List.take_append_drop]
  have ht : ((recS g l).take (6 + 9 * i)).length = 6 + 9 * i := by rw [List.length_take, recS_len]; omega
  generalize (recS g l).take (6 + 9 * i) = X at hr ht
  generalize (l.drop (i + 1)).flatMap entS = Y at hr
  have l1 : (leB 2 l[i].id.toNat).length = 2 := leB_len _ _
  have l2 : (leB 4 l[i].sz.toNat).length = 4 := leB_len _ _
  have l3 : (leB 2 l[i].tp.toNat).length = 2 := leB_len _ _
  have l4 : (leB 1 l[i].hi.toNat).length = 1 := leB_len _ _
  have n1 : leN (leB 2 l[i].id.toNat) = l[i].id.toNat := leN_of (by show l[i].id.toNat < 65536; omega)
  have n2 : leN (leB 4 l[i].sz.toNat) = l[i].sz.toNat := leN_of (by show l[i].sz.toNat < 4294967296; omega)
  have n3 : leN (leB 2 l[i].tp.toNat) = l[i].tp.toNat := leN_of (by show l[i].tp.toNat < 65536; omega)
  have n4 : leN (leB 1 l[i].hi.toNat) = l[i].hi.toNat := leN_of (by show l[i].hi.toNat < 256; omega)
  unfold entS at hr
  generalize leB 2 l[i].id.toNat = y1 at *
  generalize leB 4 l[i].sz.toNat = y2 at *
  generalize leB 2 l[i].tp.toNat = y3 at *
  generalize leB 1 l[i].hi.toNat = y4 at *
  have g1 : gS (recS g l) (6 + 9 * i) 2 = (leN y1 : Int) := gS_at (by decide) (by decide) (hr.trans (by simp [List.append_assoc]; rfl)) ht l1
  have g2 : gS (recS g l) (6 + 9 * i + 2) 4 = (leN y2 : Int) := gS_at (x := X ++ y1) (z := y3 ++ (y4 ++ Y)) (by decide) (by decide) (hr.trans (by simp [List.append_assoc])) (by simp [ht, l1]) l2
  have g3 : gS (recS g l) (6 + 9 * i + 6) 2 = (leN y3 : Int) := gS_at (x := X ++ y1 ++ y2) (z := y4 ++ Y) (by decide) (by decide) (hr.trans (by simp [List.append_assoc])) (by simp [ht, l1, l2]) l3
  have g4 : gS (recS g l) (6 + 9 * i + 8) 1 = (leN y4 : Int) := gS_at (x := X ++ y1 ++ y2 ++ y3) (z := Y) (by decide) (by decide) (hr.trans (by simp [List.append_assoc])) (by simp [ht, l1, l2, l3]) l4
  unfold spAt
  rw [g1, g2, g3, g4, n1, n2, n3, n4]
  generalize l[i] = e at *
  cases e
  simp only [] at *
  congr 1
  · omega
  · omega
  · rcases d with ⟨d1, d2⟩ | ⟨d1, d2, d3⟩
    · subst d1; simp [d2]
    · rw [if_neg (by omega)]; omega
  · omega
theorem gen_of (g : Int) (l : List Sp) (h : 0 ≤ g ∧ g ≤ 1099511627775) : genOf (recS g l) = g := by
  have := gS_at (s := recS g l) (x := []) (y := leB 5 g.toNat) (z := leB 1 l.length ++ l.flatMap entS) (a := 0) (w := 5) (by decide) (by decide) (by simp [recS, hdrS]) rfl (leB_len _ _)
  rw [genOf, this, leN_of (by show g.toNat < 1099511627776; omega)]; omega
theorem spaces_of {g : Int} {l : List Sp} (h : mayR g l = true) : spacesOf (recS g l) = l := by
  obtain ⟨_, h2, h3⟩ := mayR_iff.1 h
  have hm : manyOf (recS g l) = l.length := by rw [manyOf, recS_len]; omega
  rw [spacesOf, hm]
  apply List.ext_getElem (by simp)
  intro i h4 h5
  rw [List.getElem_map, List.getElem_range]
  exact sp_at g l i h5 ((lkB_at.1 h3).1 i h5)
/-- What is written is read as it was. -/
theorem rread_write {g : Int} {l : List Sp} (h : mayR g l = true) : readR (recS g l) = (g, l, 0) := by
  have h1 := gen_of g l (mayR_iff.1 h).1
  have h2 := spaces_of h
  rw [readR, h1, h2, if_pos ⟨h, rfl⟩]
theorem row_ent (s : Sp) (h : spaceB s = true) : rowS [s.id.toNat, s.sz.toNat, s.tp.toNat, s.hi.toNat] [2, 4, 2, 1] = (entS s, 0) := by
  obtain ⟨⟨a1, a2⟩, ⟨b1, b2⟩, ⟨c1, c2⟩, d⟩ := spaceB_iff.1 h
  have b0 : badW [2, 4, 2, 1] = false := by decide
  have k1 : s.id.toNat < 256 ^ (2 : Int).toNat := by show s.id.toNat < 65536; omega
  have k2 : s.sz.toNat < 256 ^ (4 : Int).toNat := by show s.sz.toNat < 4294967296; omega
  have k3 : s.tp.toNat < 256 ^ (2 : Int).toNat := by show s.tp.toNat < 65536; omega
  have k4 : s.hi.toNat < 256 ^ (1 : Int).toNat := by show s.hi.toNat < 256; omega
  rw [rowS_ok rfl b0, goR_one k1, goR_one k2, goR_one k3, goR_one k4, goR_nil]
  simp [entS, List.append_assoc]
theorem row_hdr (g : Int) (n : Nat) (h : 0 ≤ g ∧ g ≤ 1099511627775) (hn : n ≤ 8) : rowS [g.toNat, n] [5, 1] = (hdrS g n, 0) := by
  have b0 : badW [5, 1] = false := by decide
  have k1 : g.toNat < 256 ^ (5 : Int).toNat := by show g.toNat < 1099511627776; omega
  have k2 : n < 256 ^ (1 : Int).toNat := by show n < 256; omega
  rw [rowS_ok rfl b0, goR_one k1, goR_one k2, goR_nil]
  simp [hdrS]
/- taking -/
theorem take_hdr (s : List UInt8) (h : 6 ≤ s.length) : takeS s [5, 1] = ([leN (s.take 5), leN ((s.drop 5).take 1)], s.drop 6, 0) := by
  have b1 : badW [5, 1] = false := by decide
  rw [takeS_ok b1, goOn_one (by simp; omega), goOn_one (by simp; omega), goOn_nil]
  simp [List.drop_drop]
theorem take_hdr_no (s : List UInt8) (h : s.length < 6) : takeS s [5, 1] = ([], [], 5) := by
  have b1 : badW [5, 1] = false := by decide
  rw [takeS_ok b1]
  by_cases h5 : s.length < 5
  · rw [goOn_short (by simpa using h5)]
  · rw [goOn_one (by simpa using h5), goOn_short (by simp; omega)]
theorem take_ent (s : List UInt8) (h : 9 ≤ s.length) : takeS s [2, 4, 2, 1] = ([leN (s.take 2), leN ((s.drop 2).take 4), leN ((s.drop 6).take 2), leN ((s.drop 8).take 1)], s.drop 9, 0) := by
  have b1 : badW [2, 4, 2, 1] = false := by decide
  rw [takeS_ok b1, goOn_one (by simp; omega), goOn_one (by simp; omega), goOn_one (by simp; omega), goOn_one (by simp; omega), goOn_nil]
  simp [List.drop_drop]
theorem take_ent_no (s : List UInt8) (h : s.length < 9) : takeS s [2, 4, 2, 1] = ([], [], 5) := by
  have b1 : badW [2, 4, 2, 1] = false := by decide
  rw [takeS_ok b1]
  by_cases h2 : s.length < 2
  · rw [goOn_short (by simpa using h2)]
  · rw [goOn_one (by simpa using h2)]
    by_cases h6 : s.length < 6
    · rw [goOn_short (by simp; omega)]
    · rw [goOn_one (by simp; omega)]
      by_cases h8 : s.length < 8
      · rw [goOn_short (by simp; omega)]
      · rw [goOn_one (by simp; omega), goOn_short (by simp; omega)]
end Go.Proofs.YtdgpiobmncohjaaGreatDoor.Aw.Rt
namespace Go.Proofs.YtdgpiobmncohjaaGreatDoor.Aw.Rt
open Go.RowKit

abbrev pS (s : Sp) : PV := .agg (rowSp s)
theorem in_spec (n a b : Int) : PCall Tryz.prog 77 [.int .i64 n, .int .i64 a, .int .i64 b] (.bool (inL n a b)) := by
  refine pcall_go Tryz.func77 comp_root_in ?_
  by_cases w0 : a ≤ n
  · have x0 := decide_eq_true w0
    simp (config := {maxSteps := 4000000}) only [U_root_in, x0, reduceIte, reduceCtorEq, Nat.reduceEqDiff, Nat.reduceAdd, Int.reduceLT, Int.reduceLE, Int.reduceNeg, Int.reduceEq, Nat.reduceLT, Nat.reduceSub, Nat.reduceMul, Nat.reduceBEq, Nat.reduceLeDiff, Int.reduceBEq, Int.reduceBNe, Int.reduceToNat, ne_eq, implies_true, bA]
    simp [inL, w0]
  · have x0 := decide_eq_false w0
    simp (config := {maxSteps := 4000000}) only [U_root_in, x0, reduceIte, reduceCtorEq, Nat.reduceEqDiff, Nat.reduceAdd, Int.reduceLT, Int.reduceLE, Int.reduceNeg, Int.reduceEq, Nat.reduceLT, Nat.reduceSub, Nat.reduceMul, Nat.reduceBEq, Nat.reduceLeDiff, Int.reduceBEq, Int.reduceBNe, Int.reduceToNat, ne_eq, implies_true, bA]
    simp [inL, w0]
theorem space_spec (s : Sp) : PCall Tryz.prog 78 [pS s] (.bool (spaceB s)) := by
  refine pcall_go Tryz.func78 comp_root_space ?_
  simp (config := {maxSteps := 4000000}) only [U_root_space, rowSp, reduceIte, reduceCtorEq, Nat.reduceEqDiff, Nat.reduceAdd, Int.reduceLT, Int.reduceLE, Int.reduceNeg, Int.reduceEq, Nat.reduceLT, Nat.reduceSub, Nat.reduceMul, Nat.reduceBEq, Nat.reduceLeDiff, Int.reduceBEq, Int.reduceBNe, Int.reduceToNat, ne_eq, implies_true, bA]
  refine callI (in_spec s.id 1 65535) ?_
  cases w1 : inL s.id 1 65535 with
  | true =>
    simp (config := {maxSteps := 4000000}) only [U_root_space, rowSp, reduceIte, reduceCtorEq, Nat.reduceEqDiff, Nat.reduceAdd, Int.reduceLT, Int.reduceLE, Int.reduceNeg, Int.reduceEq, Nat.reduceLT, Nat.reduceSub, Nat.reduceMul, Nat.reduceBEq, Nat.reduceLeDiff, Int.reduceBEq, Int.reduceBNe, Int.reduceToNat, ne_eq, implies_true, bA]
    refine callI (in_spec s.sz 0 16777216) ?_
    cases w2 : inL s.sz 0 16777216 with
    | true =>
      simp (config := {maxSteps := 4000000}) only [U_root_space, rowSp, reduceIte, reduceCtorEq, Nat.reduceEqDiff, Nat.reduceAdd, Int.reduceLT, Int.reduceLE, Int.reduceNeg, Int.reduceEq, Nat.reduceLT, Nat.reduceSub, Nat.reduceMul, Nat.reduceBEq, Nat.reduceLeDiff, Int.reduceBEq, Int.reduceBNe, Int.reduceToNat, ne_eq, implies_true, bA]
      refine callI (in_spec s.hi 0 6) ?_
      cases w3 : inL s.hi 0 6 with
      | true =>
        by_cases w4 : s.hi = 0
        · have x4 : (s.hi == 0) = true := beq_iff_eq.2 w4
          simp (config := {maxSteps := 4000000}) only [U_root_space, rowSp, x4, reduceIte, reduceCtorEq, Nat.reduceEqDiff, Nat.reduceAdd, Int.reduceLT, Int.reduceLE, Int.reduceNeg, Int.reduceEq, Nat.reduceLT, Nat.reduceSub, Nat.reduceMul, Nat.reduceBEq, Nat.reduceLeDiff, Int.reduceBEq, Int.reduceBNe, Int.reduceToNat, ne_eq, implies_true, bA]
          have : inL 0 0 6 = true := by decide
          simp [spaceB, this, w1, w2, w3, w4]
        · have x4 : (s.hi == 0) = false := beq_eq_false_iff_ne.2 w4
          simp (config := {maxSteps := 4000000}) only [U_root_space, rowSp, x4, reduceIte, reduceCtorEq, Nat.reduceEqDiff, Nat.reduceAdd, Int.reduceLT, Int.reduceLE, Int.reduceNeg, Int.reduceEq, Nat.reduceLT, Nat.reduceSub, Nat.reduceMul, Nat.reduceBEq, Nat.reduceLeDiff, Int.reduceBEq, Int.reduceBNe, Int.reduceToNat, ne_eq, implies_true, bA]
          refine callI (in_spec s.tp 0 2047) ?_
          simp (config := {maxSteps := 4000000}) only [U_root_space, reduceIte, reduceCtorEq, Nat.reduceEqDiff, Nat.reduceAdd, Int.reduceLT, Int.reduceLE, Int.reduceNeg, Int.reduceEq, Nat.reduceLT, Nat.reduceSub, Nat.reduceMul, Nat.reduceBEq, Nat.reduceLeDiff, Int.reduceBEq, Int.reduceBNe, Int.reduceToNat, ne_eq, implies_true, bA]
          simp [spaceB, w1, w2, w3, w4]
      | false =>
        simp (config := {maxSteps := 4000000}) only [U_root_space, rowSp, reduceIte, reduceCtorEq, Nat.reduceEqDiff, Nat.reduceAdd, Int.reduceLT, Int.reduceLE, Int.reduceNeg, Int.reduceEq, Nat.reduceLT, Nat.reduceSub, Nat.reduceMul, Nat.reduceBEq, Nat.reduceLeDiff, Int.reduceBEq, Int.reduceBNe, Int.reduceToNat, ne_eq, implies_true, bA]
        simp [spaceB, w1, w2, w3]
    | false =>
      simp (config := {maxSteps := 4000000}) only [U_root_space, rowSp, reduceIte, reduceCtorEq, Nat.reduceEqDiff, Nat.reduceAdd, Int.reduceLT, Int.reduceLE, Int.reduceNeg, Int.reduceEq, Nat.reduceLT, Nat.reduceSub, Nat.reduceMul, Nat.reduceBEq, Nat.reduceLeDiff, Int.reduceBEq, Int.reduceBNe, Int.reduceToNat, ne_eq, implies_true, bA]
      simp [spaceB, w1, w2]
  | false =>
    simp (config := {maxSteps := 4000000}) only [U_root_space, rowSp, reduceIte, reduceCtorEq, Nat.reduceEqDiff, Nat.reduceAdd, Int.reduceLT, Int.reduceLE, Int.reduceNeg, Int.reduceEq, Nat.reduceLT, Nat.reduceSub, Nat.reduceMul, Nat.reduceBEq, Nat.reduceLeDiff, Int.reduceBEq, Int.reduceBNe, Int.reduceToNat, ne_eq, implies_true, bA]
    simp [spaceB, w1]
theorem may_spec (g : Int) (l : List Sp) (hm : l.length ≤ 9223372036854775807) : PCall Tryz.prog 42 [.int .i64 g, .slc (l.map rowSp)] (.bool (mayR g l)) := by
  refine pcall_go Tryz.func42 comp_root_may ?_
  simp (config := {maxSteps := 4000000}) only [U_root_may, reduceIte, reduceCtorEq, Nat.reduceEqDiff, Nat.reduceAdd, Int.reduceLT, Int.reduceLE, Int.reduceNeg, Int.reduceEq, Nat.reduceLT, Nat.reduceSub, Nat.reduceMul, Nat.reduceBEq, Nat.reduceLeDiff, Int.reduceBEq, Int.reduceBNe, Int.reduceToNat, ne_eq, implies_true, bA]
  refine callI (in_spec g 0 1099511627775) ?_
  cases hg : inL g 0 1099511627775 with
  | false =>
    simp (config := {maxSteps := 4000000}) only [U_root_may, reduceIte, reduceCtorEq, Nat.reduceEqDiff, Nat.reduceAdd, Int.reduceLT, Int.reduceLE, Int.reduceNeg, Int.reduceEq, Nat.reduceLT, Nat.reduceSub, Nat.reduceMul, Nat.reduceBEq, Nat.reduceLeDiff, Int.reduceBEq, Int.reduceBNe, Int.reduceToNat, ne_eq, implies_true, bA]
    simp [mayR, hg]
  | true =>
    by_cases hlen : l.length ≤ 8
    · have d0 : decide ((8 : Int) < (l.length : Int)) = false := by simp; omega
      simp (config := {maxSteps := 4000000}) only [U_root_may, d0, reduceIte, reduceCtorEq, Nat.reduceEqDiff, Nat.reduceAdd, Int.reduceLT, Int.reduceLE, Int.reduceNeg, Int.reduceEq, Nat.reduceLT, Nat.reduceSub, Nat.reduceMul, Nat.reduceBEq, Nat.reduceLeDiff, Int.reduceBEq, Int.reduceBNe, Int.reduceToNat, ne_eq, implies_true, bA]
      refine loopF (fun i : Nat => ⟨ofL [(1, .slc (l.map rowSp)), (15, .slc (l.map rowSp)), (16, .int .i64 l.length), (17, .int .i64 i)], []⟩)
        (fun i => i ≤ l.length ∧ (∀ j (h : j < l.length), j < i → spaceB l[j] = true) ∧ ∀ j (h : j + 1 < l.length), j + 1 < i → riseB l[j] l[j + 1] = true) (fun i => l.length - i) 0 ?_ ⟨Nat.zero_le _, fun j _ h => absurd h (by omega), fun j _ h => absurd h (by omega)⟩ ?_
      · simp (config := {maxSteps := 4000000}) only [U_root_may, reduceIte, reduceCtorEq, Nat.reduceEqDiff, Nat.reduceAdd, Int.reduceLT, Int.reduceLE, Int.reduceNeg, Int.reduceEq, Nat.reduceLT, Nat.reduceSub, Nat.reduceMul, Nat.reduceBEq, Nat.reduceLeDiff, Int.reduceBEq, Int.reduceBNe, Int.reduceToNat, ne_eq, implies_true, bA]
        all_goals rfl
      · intro i ⟨hi, h1, h2⟩
        by_cases h : i < l.length
        · have d : decide ((i : Int) < (l.length : Int)) = true := by simpa using h
          have e1 : IntKind.i64.wrap ((i : Int) + 1) = ((i + 1 : Nat) : Int) := by rw [wrapI (by omega) (by omega)]; omega
          have hno : spaceB l[i] = false → mayR g l = false := fun ho => by rw [mayR, lkB_no1 h ho]; simp
          have hgo : spaceB l[i] = true → ∀ j (h : j < l.length), j < i + 1 → spaceB l[j] = true := fun ho j hj hlt => by
            by_cases e : j = i
            · subst e; exact ho
            · exact h1 j hj (by omega)
          simp (config := {maxSteps := 4000000}) only [U_root_may, d, islV_map (g := rowSp) h (rowSp_len _), rowSp, reduceIte, reduceCtorEq, Nat.reduceEqDiff, Nat.reduceAdd, Int.reduceLT, Int.reduceLE, Int.reduceNeg, Int.reduceEq, Nat.reduceLT, Nat.reduceSub, Nat.reduceMul, Nat.reduceBEq, Nat.reduceLeDiff, Int.reduceBEq, Int.reduceBNe, Int.reduceToNat, ne_eq, implies_true, bA]
          refine callI (space_spec l[i]) ?_
          cases ho : spaceB l[i] with
          | false => simp (config := {maxSteps := 4000000}) only [U_root_may, hno ho, reduceIte, reduceCtorEq, Nat.reduceEqDiff, Nat.reduceAdd, Int.reduceLT, Int.reduceLE, Int.reduceNeg, Int.reduceEq, Nat.reduceLT, Nat.reduceSub, Nat.reduceMul, Nat.reduceBEq, Nat.reduceLeDiff, Int.reduceBEq, Int.reduceBNe, Int.reduceToNat, ne_eq, implies_true, bA]
          | true =>
            by_cases h0 : 0 < i
            · have d2 : decide ((0 : Int) < (i : Int)) = true := by simpa using h0
              obtain ⟨k, rfl⟩ : ∃ k, i = k + 1 := ⟨i - 1, by omega⟩
              have hk : k < l.length := by omega
              have e2 : IntKind.i64.wrap (((k + 1 : Nat) : Int) - 1) = (k : Int) := by rw [wrapI (by omega) (by omega)]; omega
              by_cases hl : l[k].id < l[k + 1].id
              · have d3 : decide (l[k + 1].id ≤ l[k].id) = false := by simp; omega
                simp (config := {maxSteps := 4000000}) only [U_root_may, d, d2, d3, e2, islV_map (g := rowSp) h (rowSp_len _), islV_map (g := rowSp) hk (rowSp_len _), rowSp, e1, reduceIte, reduceCtorEq, Nat.reduceEqDiff, Nat.reduceAdd, Int.reduceLT, Int.reduceLE, Int.reduceNeg, Int.reduceEq, Nat.reduceLT, Nat.reduceSub, Nat.reduceMul, Nat.reduceBEq, Nat.reduceLeDiff, Int.reduceBEq, Int.reduceBNe, Int.reduceToNat, ne_eq, implies_true, bA]
                refine ⟨k + 1 + 1, rfl, ⟨by omega, hgo ho, fun j hj hlt => ?_⟩, by omega⟩
                by_cases e : j = k
                · subst e; simpa [riseB] using hl
                · exact h2 j hj (by omega)
              · have d3 : decide (l[k + 1].id ≤ l[k].id) = true := by simp; omega
                have hr : mayR g l = false := by rw [mayR, lkB_no2 h (by simpa [riseB] using hl)]; simp
                simp (config := {maxSteps := 4000000}) only [U_root_may, d, d2, d3, e2, islV_map (g := rowSp) h (rowSp_len _), islV_map (g := rowSp) hk (rowSp_len _), rowSp, hr, reduceIte, reduceCtorEq, Nat.reduceEqDiff, Nat.reduceAdd, Int.reduceLT, Int.reduceLE, Int.reduceNeg, Int.reduceEq, Nat.reduceLT, Nat.reduceSub, Nat.reduceMul, Nat.reduceBEq, Nat.reduceLeDiff, Int.reduceBEq, Int.reduceBNe, Int.reduceToNat, ne_eq, implies_true, bA]
            · have d2 : decide ((0 : Int) < (i : Int)) = false := by simpa using h0
              simp (config := {maxSteps := 4000000}) only [U_root_may, d, d2, islV_map (g := rowSp) h (rowSp_len _), rowSp, e1, reduceIte, reduceCtorEq, Nat.reduceEqDiff, Nat.reduceAdd, Int.reduceLT, Int.reduceLE, Int.reduceNeg, Int.reduceEq, Nat.reduceLT, Nat.reduceSub, Nat.reduceMul, Nat.reduceBEq, Nat.reduceLeDiff, Int.reduceBEq, Int.reduceBNe, Int.reduceToNat, ne_eq, implies_true, bA]
              exact ⟨i + 1, rfl, ⟨by omega, hgo ho, fun j hj hlt => absurd hlt (by omega)⟩, by omega⟩
        · have d : decide ((i : Int) < (l.length : Int)) = false := by simpa using h
          have hr : mayR g l = true := mayR_iff.2 ⟨inL_iff.1 hg, hlen, lkB_at.2 ⟨fun j hj => h1 j hj (by omega), fun j hj => h2 j hj (by omega)⟩⟩
          simp (config := {maxSteps := 4000000}) only [U_root_may, d, hr, reduceIte, reduceCtorEq, Nat.reduceEqDiff, Nat.reduceAdd, Int.reduceLT, Int.reduceLE, Int.reduceNeg, Int.reduceEq, Nat.reduceLT, Nat.reduceSub, Nat.reduceMul, Nat.reduceBEq, Nat.reduceLeDiff, Int.reduceBEq, Int.reduceBNe, Int.reduceToNat, ne_eq, implies_true, bA]
    · have d0 : decide ((8 : Int) < (l.length : Int)) = true := by simp; omega
      have hr : mayR g l = false := by simp [mayR, hlen]
      simp (config := {maxSteps := 4000000}) only [U_root_may, d0, hr, reduceIte, reduceCtorEq, Nat.reduceEqDiff, Nat.reduceAdd, Int.reduceLT, Int.reduceLE, Int.reduceNeg, Int.reduceEq, Nat.reduceLT, Nat.reduceSub, Nat.reduceMul, Nat.reduceBEq, Nat.reduceLeDiff, Int.reduceBEq, Int.reduceBNe, Int.reduceToNat, ne_eq, implies_true, bA]
end Go.Proofs.YtdgpiobmncohjaaGreatDoor.Aw.Rt
namespace Go.Proofs.YtdgpiobmncohjaaGreatDoor.Aw.Rt
open Go.RowKit

theorem binS_cat {a b : List UInt8} (h : a.length + b.length ≤ 9223372036854775807) : binS .add a b = some (.str (a ++ b)) := by rw [binS, if_pos h]
theorem wrapU_nat {n : Int} (h0 : 0 ≤ n) (h : n < 18446744073709551616) : IntKind.u64.wrap n = ((n.toNat : Nat) : Int) := by rw [wrap64]; omega
theorem head_spec : PCall Tryz.prog 44 [] (.slc (rowsZ .i64 [5, 1])) := by
  refine pcall_go Tryz.func44 comp_root_head ?_
  simp (config := {maxSteps := 4000000}) only [U_root_head, reduceIte, reduceCtorEq, Nat.reduceEqDiff, Nat.reduceAdd, Int.reduceLT, Int.reduceLE, Int.reduceNeg, Int.reduceEq, Nat.reduceLT, Nat.reduceSub, Nat.reduceMul, Nat.reduceBEq, Nat.reduceLeDiff, Int.reduceBEq, Int.reduceBNe, Int.reduceToNat, ne_eq, implies_true, bA]
  rfl
theorem each_spec : PCall Tryz.prog 45 [] (.slc (rowsZ .i64 [2, 4, 2, 1])) := by
  refine pcall_go Tryz.func45 comp_root_each ?_
  simp (config := {maxSteps := 4000000}) only [U_root_each, reduceIte, reduceCtorEq, Nat.reduceEqDiff, Nat.reduceAdd, Int.reduceLT, Int.reduceLE, Int.reduceNeg, Int.reduceEq, Nat.reduceLT, Nat.reduceSub, Nat.reduceMul, Nat.reduceBEq, Nat.reduceLeDiff, Int.reduceBEq, Int.reduceBNe, Int.reduceToNat, ne_eq, implies_true, bA]
  rfl
/-- The bytes up to a namespace. -/
def accS (g : Int) (l : List Sp) (i : Nat) : List UInt8 := hdrS g l.length ++ (l.take i).flatMap entS
theorem accS_0 (g : Int) (l : List Sp) : accS g l 0 = hdrS g l.length := by simp [accS]
theorem accS_all (g : Int) (l : List Sp) : accS g l l.length = recS g l := by simp [accS, recS]
theorem accS_succ (g : Int) (l : List Sp) (i : Nat) (h : i < l.length) : accS g l (i + 1) = accS g l i ++ entS l[i] := by rw [accS, flat_take l i h, accS, List.append_assoc]
theorem accS_len (g : Int) (l : List Sp) (i : Nat) : (accS g l i).length ≤ 6 + 9 * l.length := by
  rw [accS, List.length_append, hdrS_len]; have := flat_len_take l i; omega
theorem write_spec (g : Int) (l : List Sp) (hm : l.length ≤ 9223372036854775807) : PCall Tryz.prog 10 [.int .i64 g, .slc (l.map rowSp)] (.tup [.str (writeR g l).1, .int .i64 (writeR g l).2]) := by
  refine pcall_go Tryz.func10 comp_root_Write ?_
  simp (config := {maxSteps := 4000000}) only [U_root_Write, reduceIte, reduceCtorEq, Nat.reduceEqDiff, Nat.reduceAdd, Int.reduceLT, Int.reduceLE, Int.reduceNeg, Int.reduceEq, Nat.reduceLT, Nat.reduceSub, Nat.reduceMul, Nat.reduceBEq, Nat.reduceLeDiff, Int.reduceBEq, Int.reduceBNe, Int.reduceToNat, ne_eq, implies_true, bA]
  refine callI (may_spec g l hm) ?_
  cases h : mayR g l with
  | false =>
    have hw : writeR g l = ([], 1) := by rw [writeR, if_neg (by rw [h]; simp)]
    rw [hw]
    simp (config := {maxSteps := 4000000}) only [U_root_Write, reduceIte, reduceCtorEq, Nat.reduceEqDiff, Nat.reduceAdd, Int.reduceLT, Int.reduceLE, Int.reduceNeg, Int.reduceEq, Nat.reduceLT, Nat.reduceSub, Nat.reduceMul, Nat.reduceBEq, Nat.reduceLeDiff, Int.reduceBEq, Int.reduceBNe, Int.reduceToNat, ne_eq, implies_true, bA]
  | true =>
    have hw : writeR g l = (recS g l, 0) := by rw [writeR, if_pos h]
    rw [hw]
    obtain ⟨hg, hlen, hlk⟩ := mayR_iff.1 h
    have e1 : IntKind.u64.wrap g = ((g.toNat : Nat) : Int) := wrapU_nat (by omega) (by omega)
    have e2 : IntKind.u64.wrap (l.length : Int) = ((l.length : Nat) : Int) := wrapU (by omega) (by omega)
    simp (config := {maxSteps := 4000000}) only [U_root_Write, e1, e2, reduceIte, reduceCtorEq, Nat.reduceEqDiff, Nat.reduceAdd, Int.reduceLT, Int.reduceLE, Int.reduceNeg, Int.reduceEq, Nat.reduceLT, Nat.reduceSub, Nat.reduceMul, Nat.reduceBEq, Nat.reduceLeDiff, Int.reduceBEq, Int.reduceBNe, Int.reduceToNat, ne_eq, implies_true, bA]
    refine callI head_spec ?_
    simp (config := {maxSteps := 4000000}) only [U_root_Write, reduceIte, reduceCtorEq, Nat.reduceEqDiff, Nat.reduceAdd, Int.reduceLT, Int.reduceLE, Int.reduceNeg, Int.reduceEq, Nat.reduceLT, Nat.reduceSub, Nat.reduceMul, Nat.reduceBEq, Nat.reduceLeDiff, Int.reduceBEq, Int.reduceBNe, Int.reduceToNat, ne_eq, implies_true, bA]
    refine callI (row_spec [g.toNat, l.length] [5, 1] (by simp) (by simp) (by
      intro n hn
      simp only [List.mem_cons, List.not_mem_nil, or_false] at hn
      rcases hn with rfl | rfl <;> omega)) ?_
    rw [row_hdr g l.length hg hlen, ← accS_0 g l]
    simp (config := {maxSteps := 4000000}) only [U_root_Write, reduceIte, reduceCtorEq, Nat.reduceEqDiff, Nat.reduceAdd, Int.reduceLT, Int.reduceLE, Int.reduceNeg, Int.reduceEq, Nat.reduceLT, Nat.reduceSub, Nat.reduceMul, Nat.reduceBEq, Nat.reduceLeDiff, Int.reduceBEq, Int.reduceBNe, Int.reduceToNat, ne_eq, implies_true, bA]
    refine loopF (fun i : Nat => ⟨ofL [(6, .str (accS g l i)), (7, .int .i64 0), (26, .slc (l.map rowSp)), (27, .int .i64 l.length), (28, .int .i64 i)], []⟩) (fun i => i ≤ l.length) (fun i => l.length - i) 0 ?_ (Nat.zero_le _) ?_
    · simp (config := {maxSteps := 4000000}) only [U_root_Write, reduceIte, reduceCtorEq, Nat.reduceEqDiff, Nat.reduceAdd, Int.reduceLT, Int.reduceLE, Int.reduceNeg, Int.reduceEq, Nat.reduceLT, Nat.reduceSub, Nat.reduceMul, Nat.reduceBEq, Nat.reduceLeDiff, Int.reduceBEq, Int.reduceBNe, Int.reduceToNat, ne_eq, implies_true, bA]
      all_goals rfl
    · intro i hi
      by_cases hlt : i < l.length
      · have d : decide ((i : Int) < (l.length : Int)) = true := by simpa using hlt
        have e3 : IntKind.i64.wrap ((i : Int) + 1) = ((i + 1 : Nat) : Int) := by rw [wrapI (by omega) (by omega)]; omega
        have ho := (lkB_at.1 hlk).1 i hlt
        obtain ⟨⟨a1, a2⟩, ⟨b1, b2⟩, ⟨c1, c2⟩, dd⟩ := spaceB_iff.1 ho
        have u1 : IntKind.u64.wrap l[i].id = ((l[i].id.toNat : Nat) : Int) := wrapU_nat (by omega) (by omega)
        have u2 : IntKind.u64.wrap l[i].sz = ((l[i].sz.toNat : Nat) : Int) := wrapU_nat (by omega) (by omega)
        have u3 : IntKind.u64.wrap (max l[i].tp 0) = ((l[i].tp.toNat : Nat) : Int) := by rw [wrapU_nat (by omega) (by omega)]; omega
        have u4 : IntKind.u64.wrap l[i].hi = ((l[i].hi.toNat : Nat) : Int) := wrapU_nat (by omega) (by omega)
        have hal := accS_len g l i
        have hf : binS .add (accS g l i) (entS l[i]) = some (.str (accS g l i ++ entS l[i])) := binS_cat (by rw [entS_len]; omega)
        simp (config := {maxSteps := 4000000}) only [U_root_Write, d, islV_map (g := rowSp) hlt (rowSp_len _), rowSp, u1, u2, u3, u4, reduceIte, reduceCtorEq, Nat.reduceEqDiff, Nat.reduceAdd, Int.reduceLT, Int.reduceLE, Int.reduceNeg, Int.reduceEq, Nat.reduceLT, Nat.reduceSub, Nat.reduceMul, Nat.reduceBEq, Nat.reduceLeDiff, Int.reduceBEq, Int.reduceBNe, Int.reduceToNat, ne_eq, implies_true, bA]
        refine callI each_spec ?_
        simp (config := {maxSteps := 4000000}) only [U_root_Write, reduceIte, reduceCtorEq, Nat.reduceEqDiff, Nat.reduceAdd, Int.reduceLT, Int.reduceLE, Int.reduceNeg, Int.reduceEq, Nat.reduceLT, Nat.reduceSub, Nat.reduceMul, Nat.reduceBEq, Nat.reduceLeDiff, Int.reduceBEq, Int.reduceBNe, Int.reduceToNat, ne_eq, implies_true, bA]
        refine callI (row_spec [l[i].id.toNat, l[i].sz.toNat, l[i].tp.toNat, l[i].hi.toNat] [2, 4, 2, 1] (by simp) (by simp) (by
          intro n hn
          simp only [List.mem_cons, List.not_mem_nil, or_false] at hn
          rcases hn with rfl | rfl | rfl | rfl <;> omega)) ?_
        rw [row_ent l[i] ho]
        simp (config := {maxSteps := 4000000}) only [U_root_Write, hf, e3, reduceIte, reduceCtorEq, Nat.reduceEqDiff, Nat.reduceAdd, Int.reduceLT, Int.reduceLE, Int.reduceNeg, Int.reduceEq, Nat.reduceLT, Nat.reduceSub, Nat.reduceMul, Nat.reduceBEq, Nat.reduceLeDiff, Int.reduceBEq, Int.reduceBNe, Int.reduceToNat, ne_eq, implies_true, bA]
        refine ⟨i + 1, ?_, hlt, by omega⟩
        rw [accS_succ g l i hlt]
      · have d : decide ((i : Int) < (l.length : Int)) = false := by simpa using hlt
        have : i = l.length := by omega
        subst this
        simp (config := {maxSteps := 4000000}) only [U_root_Write, d, accS_all, reduceIte, reduceCtorEq, Nat.reduceEqDiff, Nat.reduceAdd, Int.reduceLT, Int.reduceLE, Int.reduceNeg, Int.reduceEq, Nat.reduceLT, Nat.reduceSub, Nat.reduceMul, Nat.reduceBEq, Nat.reduceLeDiff, Int.reduceBEq, Int.reduceBNe, Int.reduceToNat, ne_eq, implies_true, bA]
end Go.Proofs.YtdgpiobmncohjaaGreatDoor.Aw.Rt
namespace Go.Proofs.YtdgpiobmncohjaaGreatDoor.Aw.Rt
open Go.RowKit

def topS (a b : Nat) : Int := if b = 0 then -1 else (a : Int)
theorem top_spec (a b : Nat) (h : a < 9223372036854775808) : PCall Tryz.prog 51 [.int .u64 a, .int .u64 b] (.int .i64 (topS a b)) := by
  refine pcall_go Tryz.func51 comp_root_top ?_
  by_cases hb : b = 0
  · have d : ((b : Int) == 0) = true := by simp [hb]
    simp (config := {maxSteps := 4000000}) only [U_root_top, d, reduceIte, reduceCtorEq, Nat.reduceEqDiff, Nat.reduceAdd, Int.reduceLT, Int.reduceLE, Int.reduceNeg, Int.reduceEq, Nat.reduceLT, Nat.reduceSub, Nat.reduceMul, Nat.reduceBEq, Nat.reduceLeDiff, Int.reduceBEq, Int.reduceBNe, Int.reduceToNat, ne_eq, implies_true, bA]
    simp [topS, hb]
  · have d : ((b : Int) == 0) = false := by simp [hb]
    have e : IntKind.i64.wrap (a : Int) = (a : Int) := wrapI (by omega) (by omega)
    simp (config := {maxSteps := 4000000}) only [U_root_top, d, e, reduceIte, reduceCtorEq, Nat.reduceEqDiff, Nat.reduceAdd, Int.reduceLT, Int.reduceLE, Int.reduceNeg, Int.reduceEq, Nat.reduceLT, Nat.reduceSub, Nat.reduceMul, Nat.reduceBEq, Nat.reduceLeDiff, Int.reduceBEq, Int.reduceBNe, Int.reduceToNat, ne_eq, implies_true, bA]
    simp [topS, hb]
/-- The first namespaces of some bytes. -/
def outS (s : List UInt8) (i : Nat) : List Sp := (List.range i).map fun j => spAt s (6 + 9 * j)
theorem outS_len (s : List UInt8) (i : Nat) : (outS s i).length = i := by simp [outS]
theorem outS_succ (s : List UInt8) (i : Nat) : outS s (i + 1) = outS s i ++ [spAt s (6 + 9 * i)] := by simp [outS, List.range_succ]
theorem outS_all (s : List UInt8) : outS s (manyOf s) = spacesOf s := rfl
/-- What bytes are like that are a record's. -/
theorem rec_shape {s : List UInt8} (h : mayR (genOf s) (spacesOf s) = true ∧ recS (genOf s) (spacesOf s) = s) :
    6 ≤ s.length ∧ leN ((s.drop 5).take 1) ≤ 8 ∧ s.length = 6 + 9 * leN ((s.drop 5).take 1) ∧ spacesOf s = outS s (leN ((s.drop 5).take 1)) := by
  obtain ⟨h1, h2⟩ := h
  have hl := recS_len (genOf s) (spacesOf s)
  rw [h2] at hl
  have h8 := (mayR_iff.1 h1).2.1
  have hn : leN ((s.drop 5).take 1) = (spacesOf s).length := by
    have e : s = leB 5 (genOf s).toNat ++ (leB 1 (spacesOf s).length ++ (spacesOf s).flatMap entS) := by
      conv => lhs; rw [← h2]
      simp [recS, hdrS]
    rw [e, List.drop_left' (leB_len _ _), ← e, List.take_left' (leB_len _ _), leN_of (by show (spacesOf s).length < 256; omega)]
  refine ⟨by omega, by omega, by omega, ?_⟩
  rw [hn]
  have : (spacesOf s).length = manyOf s := by simp [spacesOf]
  rw [this, outS_all]
theorem spaces_out {s : List UInt8} {n : Nat} (h8 : n ≤ 8) (hl : s.length = 6 + 9 * n) : spacesOf s = outS s n := by
  rw [← outS_all]; congr 1; rw [manyOf, hl]; omega
theorem read_no {s : List UInt8} (h : ¬ (mayR (genOf s) (spacesOf s) = true ∧ recS (genOf s) (spacesOf s) = s)) : readR s = (0, [], 3) := by rw [readR, if_neg h]
theorem read_yes {s : List UInt8} (h : mayR (genOf s) (spacesOf s) = true ∧ recS (genOf s) (spacesOf s) = s) : readR s = (genOf s, spacesOf s, 0) := by rw [readR, if_pos h]
theorem read_spec (s : List UInt8) (hs : s.length ≤ 1000000) : PCall Tryz.prog 16 [.str s] (.tup [.int .i64 (readR s).1, .slc ((readR s).2.1.map rowSp), .int .i64 (readR s).2.2]) := by
  refine pcall_go Tryz.func16 comp_root_Read ?_
  simp (config := {maxSteps := 4000000}) only [U_root_Read, reduceIte, reduceCtorEq, Nat.reduceEqDiff, Nat.reduceAdd, Int.reduceLT, Int.reduceLE, Int.reduceNeg, Int.reduceEq, Nat.reduceLT, Nat.reduceSub, Nat.reduceMul, Nat.reduceBEq, Nat.reduceLeDiff, Int.reduceBEq, Int.reduceBNe, Int.reduceToNat, ne_eq, implies_true, bA]
  refine callI head_spec ?_
  simp (config := {maxSteps := 4000000}) only [U_root_Read, reduceIte, reduceCtorEq, Nat.reduceEqDiff, Nat.reduceAdd, Int.reduceLT, Int.reduceLE, Int.reduceNeg, Int.reduceEq, Nat.reduceLT, Nat.reduceSub, Nat.reduceMul, Nat.reduceBEq, Nat.reduceLeDiff, Int.reduceBEq, Int.reduceBNe, Int.reduceToNat, ne_eq, implies_true, bA]
  refine callI (take_spec s [5, 1] (by omega) (by simp)) ?_
  by_cases h6 : s.length < 6
  · rw [take_hdr_no s h6, read_no (fun h => by have := (rec_shape h).1; omega)]
    simp (config := {maxSteps := 4000000}) only [U_root_Read, reduceIte, reduceCtorEq, Nat.reduceEqDiff, Nat.reduceAdd, Int.reduceLT, Int.reduceLE, Int.reduceNeg, Int.reduceEq, Nat.reduceLT, Nat.reduceSub, Nat.reduceMul, Nat.reduceBEq, Nat.reduceLeDiff, Int.reduceBEq, Int.reduceBNe, Int.reduceToNat, ne_eq, implies_true, bA]
  · rw [take_hdr s (by omega)]
    have hsh := rec_shape (s := s)
    have hso := fun n => spaces_out (s := s) (n := n)
    have hgl := leN_lt (s.take 5)
    rw [show (s.take 5).length = 5 by simp; omega] at hgl
    have hge : genOf s = (leN (s.take 5) : Int) := by rw [genOf, gS_in (by decide) (by decide) (by omega)]; simp
    generalize leN ((s.drop 5).take 1) = n1 at hsh hso
    generalize leN (s.take 5) = G at hgl hge
    have i0 : ∀ ob fb, islV ob fb 1 (.slc (rowsN .u64 [G, n1])) (.int .i64 0) = some (.fptr [.int .u64 (G : Int)]) := fun _ _ => rfl
    have i1 : ∀ ob fb, islV ob fb 1 (.slc (rowsN .u64 [G, n1])) (.int .i64 1) = some (.fptr [.int .u64 (n1 : Int)]) := fun _ _ => rfl
    by_cases h8 : n1 ≤ 8
    · have d1 : decide ((8 : Int) < (n1 : Int)) = false := by simp; omega
      simp (config := {maxSteps := 4000000}) only [U_root_Read, i0, i1, d1, reduceIte, reduceCtorEq, Nat.reduceEqDiff, Nat.reduceAdd, Int.reduceLT, Int.reduceLE, Int.reduceNeg, Int.reduceEq, Nat.reduceLT, Nat.reduceSub, Nat.reduceMul, Nat.reduceBEq, Nat.reduceLeDiff, Int.reduceBEq, Int.reduceBNe, Int.reduceToNat, ne_eq, implies_true, bA]
      refine loopF (fun i : Nat => ⟨ofL [(0, .str s), (5, .slc (rowsN .u64 [G, n1])), (6, .str (s.drop (6 + 9 * i))), (7, .osl 0 0 i), (30, .int .u64 n1), (31, .int .u64 i)], [.list 4 ((outS s i).map rowSp)]⟩) (fun i => i ≤ n1 ∧ 6 + 9 * i ≤ s.length) (fun i => n1 - i) 0 ?_ ⟨Nat.zero_le _, by omega⟩ ?_
      · simp (config := {maxSteps := 4000000}) only [U_root_Read, reduceIte, reduceCtorEq, Nat.reduceEqDiff, Nat.reduceAdd, Int.reduceLT, Int.reduceLE, Int.reduceNeg, Int.reduceEq, Nat.reduceLT, Nat.reduceSub, Nat.reduceMul, Nat.reduceBEq, Nat.reduceLeDiff, Int.reduceBEq, Int.reduceBNe, Int.reduceToNat, ne_eq, implies_true, bA]
        all_goals rfl
      · intro i ⟨hi, hil⟩
        by_cases hlt : i < n1
        · have d : decide ((i : Int) < (n1 : Int)) = true := by simpa using hlt
          have e1 : IntKind.u64.wrap ((i : Int) + 1) = ((i + 1 : Nat) : Int) := by rw [wrap64]; omega
          simp (config := {maxSteps := 4000000}) only [U_root_Read, d, reduceIte, reduceCtorEq, Nat.reduceEqDiff, Nat.reduceAdd, Int.reduceLT, Int.reduceLE, Int.reduceNeg, Int.reduceEq, Nat.reduceLT, Nat.reduceSub, Nat.reduceMul, Nat.reduceBEq, Nat.reduceLeDiff, Int.reduceBEq, Int.reduceBNe, Int.reduceToNat, ne_eq, implies_true, bA]
          refine callI each_spec ?_
          simp (config := {maxSteps := 4000000}) only [U_root_Read, reduceIte, reduceCtorEq, Nat.reduceEqDiff, Nat.reduceAdd, Int.reduceLT, Int.reduceLE, Int.reduceNeg, Int.reduceEq, Nat.reduceLT, Nat.reduceSub, Nat.reduceMul, Nat.reduceBEq, Nat.reduceLeDiff, Int.reduceBEq, Int.reduceBNe, Int.reduceToNat, ne_eq, implies_true, bA]
          refine callI (take_spec (s.drop (6 + 9 * i)) [2, 4, 2, 1] (by simp; omega) (by simp)) ?_
          by_cases h9 : s.length < 6 + 9 * i + 9
          · rw [take_ent_no _ (by simp; omega), read_no (fun h => by have := (hsh h).2.2.1; omega)]
            simp (config := {maxSteps := 4000000}) only [U_root_Read, reduceIte, reduceCtorEq, Nat.reduceEqDiff, Nat.reduceAdd, Int.reduceLT, Int.reduceLE, Int.reduceNeg, Int.reduceEq, Nat.reduceLT, Nat.reduceSub, Nat.reduceMul, Nat.reduceBEq, Nat.reduceLeDiff, Int.reduceBEq, Int.reduceBNe, Int.reduceToNat, ne_eq, implies_true, bA]
          · rw [take_ent _ (by simp; omega)]
            simp only [List.drop_drop]
            have v1 : gS s (6 + 9 * i) 2 = (leN ((s.drop (6 + 9 * i)).take 2) : Int) := gS_in (by decide) (by decide) (by omega)
            have v2 : gS s (6 + 9 * i + 2) 4 = (leN ((s.drop (6 + 9 * i + 2)).take 4) : Int) := gS_in (by decide) (by decide) (by omega)
            have v3 : gS s (6 + 9 * i + 6) 2 = (leN ((s.drop (6 + 9 * i + 6)).take 2) : Int) := gS_in (by decide) (by decide) (by omega)
            have v4 : gS s (6 + 9 * i + 8) 1 = (leN ((s.drop (6 + 9 * i + 8)).take 1) : Int) := gS_in (by decide) (by decide) (by omega)
            have t1 := leN_lt ((s.drop (6 + 9 * i)).take 2)
            have t2 := leN_lt ((s.drop (6 + 9 * i + 2)).take 4)
            have t3 := leN_lt ((s.drop (6 + 9 * i + 6)).take 2)
            have t4 := leN_lt ((s.drop (6 + 9 * i + 8)).take 1)
            rw [show ((s.drop (6 + 9 * i)).take 2).length = 2 by simp; omega] at t1
            rw [show ((s.drop (6 + 9 * i + 2)).take 4).length = 4 by simp; omega] at t2
            rw [show ((s.drop (6 + 9 * i + 6)).take 2).length = 2 by simp; omega] at t3
            rw [show ((s.drop (6 + 9 * i + 8)).take 1).length = 1 by simp; omega] at t4
            have hsucc := outS_succ s i
            have hsp : spAt s (6 + 9 * i) = ⟨gS s (6 + 9 * i) 2, gS s (6 + 9 * i + 2) 4, if gS s (6 + 9 * i + 8) 1 = 0 then -1 else gS s (6 + 9 * i + 6) 2, gS s (6 + 9 * i + 8) 1⟩ := rfl
            have hol := outS_len s i
            rw [v1, v2, v3, v4] at hsp
            generalize leN ((s.drop (6 + 9 * i)).take 2) = m1 at *
            generalize leN ((s.drop (6 + 9 * i + 2)).take 4) = m2 at *
            generalize leN ((s.drop (6 + 9 * i + 6)).take 2) = m3 at *
            generalize leN ((s.drop (6 + 9 * i + 8)).take 1) = m4 at *
            have htop : (if (m4 : Int) = 0 then (-1 : Int) else (m3 : Int)) = topS m3 m4 := by unfold topS; split <;> split <;> omega
            rw [htop] at hsp
            have j0 : ∀ ob fb, islV ob fb 1 (.slc (rowsN .u64 [m1, m2, m3, m4])) (.int .i64 0) = some (.fptr [.int .u64 (m1 : Int)]) := fun _ _ => rfl
            have j1 : ∀ ob fb, islV ob fb 1 (.slc (rowsN .u64 [m1, m2, m3, m4])) (.int .i64 1) = some (.fptr [.int .u64 (m2 : Int)]) := fun _ _ => rfl
            have j2 : ∀ ob fb, islV ob fb 1 (.slc (rowsN .u64 [m1, m2, m3, m4])) (.int .i64 2) = some (.fptr [.int .u64 (m3 : Int)]) := fun _ _ => rfl
            have j3 : ∀ ob fb, islV ob fb 1 (.slc (rowsN .u64 [m1, m2, m3, m4])) (.int .i64 3) = some (.fptr [.int .u64 (m4 : Int)]) := fun _ _ => rfl
            have c1 : IntKind.i64.wrap (m1 : Int) = (m1 : Int) := wrapI (by omega) (by omega)
            have c2 : IntKind.i64.wrap (m2 : Int) = (m2 : Int) := wrapI (by omega) (by omega)
            have c4 : IntKind.i64.wrap (m4 : Int) = (m4 : Int) := wrapI (by omega) (by omega)
            have ha : ∀ ob nw, appO (AObj.list 4 ((outS s i).map rowSp) :: ob) [] nw 4 (.osl 0 0 i) (some [[.int .i64 (m1 : Int), .int .i64 (m2 : Int), .int .i64 (topS m3 m4), .int .i64 (m4 : Int)]]) = some (.osl 0 0 (i + 1), AObj.list 4 ((outS s (i + 1)).map rowSp) :: ob) := fun ob nw => by
              have := app_map (ob := AObj.list 4 ((outS s i).map rowSp) :: ob) (fb := []) (nw := nw) (o := 0) (n := i) (e := 4) (g := rowSp) (l := outS s i) (m := [spAt s (6 + 9 * i)]) rfl rfl hol.symm (by omega) (by simp) rowSp_len
              rw [hsucc]; rw [hsp] at this ⊢
              exact this
            simp (config := {maxSteps := 4000000}) only [U_root_Read, j0, j1, j2, j3, c1, c2, c4, reduceIte, reduceCtorEq, Nat.reduceEqDiff, Nat.reduceAdd, Int.reduceLT, Int.reduceLE, Int.reduceNeg, Int.reduceEq, Nat.reduceLT, Nat.reduceSub, Nat.reduceMul, Nat.reduceBEq, Nat.reduceLeDiff, Int.reduceBEq, Int.reduceBNe, Int.reduceToNat, ne_eq, implies_true, bA]
            refine callI (top_spec m3 m4 (by omega)) ?_
            simp (config := {maxSteps := 4000000}) only [U_root_Read, j3, c4, ha, e1, reduceIte, reduceCtorEq, Nat.reduceEqDiff, Nat.reduceAdd, Int.reduceLT, Int.reduceLE, Int.reduceNeg, Int.reduceEq, Nat.reduceLT, Nat.reduceSub, Nat.reduceMul, Nat.reduceBEq, Nat.reduceLeDiff, Int.reduceBEq, Int.reduceBNe, Int.reduceToNat, ne_eq, implies_true, bA]
            refine ⟨i + 1, ?_, ⟨hlt, by omega⟩, by omega⟩
            rw [show 6 + 9 * (i + 1) = 6 + 9 * i + 9 by omega]
        · have d : decide ((i : Int) < (n1 : Int)) = false := by simpa using hlt
          have hin : i = n1 := by omega
          subst hin
          have c1 : IntKind.i64.wrap (G : Int) = (G : Int) := wrapI (by omega) (by omega)
          have hro : rowsO (some (AObj.list 4 ((outS s i).map rowSp))) 0 i = some ((outS s i).map rowSp) := rowsO_all (by simp [outS_len])
          simp (config := {maxSteps := 4000000}) only [U_root_Read, d, i0, c1, hro, reduceIte, reduceCtorEq, Nat.reduceEqDiff, Nat.reduceAdd, Int.reduceLT, Int.reduceLE, Int.reduceNeg, Int.reduceEq, Nat.reduceLT, Nat.reduceSub, Nat.reduceMul, Nat.reduceBEq, Nat.reduceLeDiff, Int.reduceBEq, Int.reduceBNe, Int.reduceToNat, ne_eq, implies_true, bA]
          refine callS (write_spec (G : Int) (outS s i) (by rw [outS_len]; omega)) rfl ?_
          cases hm : mayR (G : Int) (outS s i) with
          | false =>
            have hw : writeR (G : Int) (outS s i) = ([], 1) := by rw [writeR, if_neg (by rw [hm]; simp)]
            have hno : readR s = (0, [], 3) := read_no (fun h => by
              have := h.1
              rw [(hsh h).2.2.2, hge, hm] at this; cases this)
            rw [hw, hno]
            simp (config := {maxSteps := 4000000}) only [U_root_Read, reduceIte, reduceCtorEq, Nat.reduceEqDiff, Nat.reduceAdd, Int.reduceLT, Int.reduceLE, Int.reduceNeg, Int.reduceEq, Nat.reduceLT, Nat.reduceSub, Nat.reduceMul, Nat.reduceBEq, Nat.reduceLeDiff, Int.reduceBEq, Int.reduceBNe, Int.reduceToNat, ne_eq, implies_true, bA]
          | true =>
            have hw : writeR (G : Int) (outS s i) = (recS (G : Int) (outS s i), 0) := by rw [writeR, if_pos hm]
            rw [hw]
            by_cases hq : recS (G : Int) (outS s i) = s
            · have d3 : (recS (G : Int) (outS s i) == s) = true := by simpa using hq
              have hsl : s.length = 6 + 9 * i := by
                have := recS_len (G : Int) (outS s i)
                rw [hq, outS_len] at this; exact this
              have hso' := hso _ h8 hsl
              have hy : readR s = ((G : Int), outS s i, 0) := by
                rw [read_yes ⟨by rw [hge, hso']; exact hm, by rw [hge, hso']; exact hq⟩, hge, hso']
              rw [hy]
              have hsn : snap [AObj.list 4 ((outS s i).map rowSp)] [] (.osl 0 0 i) = some (.slc ((outS s i).map rowSp)) := by
                simp [snap, rowsOf, outS_len]
              simp (config := {maxSteps := 4000000}) only [U_root_Read, d3, i0, c1, hro, reduceIte, reduceCtorEq, Nat.reduceEqDiff, Nat.reduceAdd, Int.reduceLT, Int.reduceLE, Int.reduceNeg, Int.reduceEq, Nat.reduceLT, Nat.reduceSub, Nat.reduceMul, Nat.reduceBEq, Nat.reduceLeDiff, Int.reduceBEq, Int.reduceBNe, Int.reduceToNat, ne_eq, implies_true, bA]
            · have d3 : (recS (G : Int) (outS s i) == s) = false := by simpa using hq
              have hno : readR s = (0, [], 3) := read_no (fun h => by
                have h2 := h.2
                rw [(hsh h).2.2.2, hge] at h2; exact hq h2)
              rw [hno]
              simp (config := {maxSteps := 4000000}) only [U_root_Read, d3, reduceIte, reduceCtorEq, Nat.reduceEqDiff, Nat.reduceAdd, Int.reduceLT, Int.reduceLE, Int.reduceNeg, Int.reduceEq, Nat.reduceLT, Nat.reduceSub, Nat.reduceMul, Nat.reduceBEq, Nat.reduceLeDiff, Int.reduceBEq, Int.reduceBNe, Int.reduceToNat, ne_eq, implies_true, bA]
    · have d1 : decide ((8 : Int) < (n1 : Int)) = true := by simp; omega
      rw [read_no (fun h => by have := (hsh h).2.1; omega)]
      simp (config := {maxSteps := 4000000}) only [U_root_Read, i0, i1, d1, reduceIte, reduceCtorEq, Nat.reduceEqDiff, Nat.reduceAdd, Int.reduceLT, Int.reduceLE, Int.reduceNeg, Int.reduceEq, Nat.reduceLT, Nat.reduceSub, Nat.reduceMul, Nat.reduceBEq, Nat.reduceLeDiff, Int.reduceBEq, Int.reduceBNe, Int.reduceToNat, ne_eq, implies_true, bA]
end Go.Proofs.YtdgpiobmncohjaaGreatDoor.Aw.Rt
