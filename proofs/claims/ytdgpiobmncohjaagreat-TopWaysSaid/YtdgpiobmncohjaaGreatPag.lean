/-
  Pages as bytes. Plain Lean.; What the functions of the package 'page' compute, and the document's.; What the functions of the package 'page' compute, and the document's: writing and reading.; What the functions of the package 'page' compute, and the document's: reading.
-/
import Derived.Test.YtdgpiobmncohjaaGreatBas
set_option linter.unusedSimpArgs false
set_option linter.unusedVariables false
namespace Go.Proofs.YtdgpiobmncohjaaGreat.Aw
open Go.RowKit

structure Pg where
  kd : Int
  sp : Int
  ky : Int
  sq : Int
  bo : List UInt8
deriving DecidableEq
def rowP (p : Pg) : List PV := [.int .i64 p.kd, .int .i64 p.sp, .int .i64 p.ky, .int .i64 p.sq, .str p.bo]
def zeroP : Pg := ⟨0, 0, 0, 0, []⟩
def inS (n m : Int) : Bool := decide (0 ≤ n) && decide (n ≤ m)
def mayB (p : Pg) : Bool := decide (1 ≤ p.kd) && (decide (p.kd ≤ 4) && (inS p.sp 65535 && (inS p.ky 4294967295 && (inS p.sq 281474976710655 && decide (p.bo.length ≤ 100)))))
theorem len100 (l : List UInt8) : decide ((l.length : Int) ≤ 100) = decide (l.length ≤ 100) := by rw [Bool.eq_iff_iff]; simp; omega
theorem mayB_iff {p : Pg} : mayB p = true ↔ 1 ≤ p.kd ∧ p.kd ≤ 4 ∧ 0 ≤ p.sp ∧ p.sp ≤ 65535 ∧ 0 ≤ p.ky ∧ p.ky ≤ 4294967295 ∧ 0 ≤ p.sq ∧ p.sq ≤ 281474976710655 ∧ p.bo.length ≤ 100 := by
  simp only [mayB, inS, Bool.and_eq_true, decide_eq_true_eq]
  constructor
  · rintro ⟨a, b, ⟨c, d⟩, ⟨e, f⟩, ⟨g, h⟩, i⟩; exact ⟨a, b, c, d, e, f, g, h, i⟩
  · rintro ⟨a, b, c, d, e, f, g, h, i⟩; exact ⟨a, b, ⟨c, d⟩, ⟨e, f⟩, ⟨g, h⟩, i⟩
/-- The numbers of a page in a row. -/
def headS (p : Pg) : List UInt8 := leB 1 p.kd.toNat ++ (leB 2 p.sp.toNat ++ (leB 4 p.ky.toNat ++ (leB 6 p.sq.toNat ++ leB 1 p.bo.length)))
def bodyS (p : Pg) : List UInt8 := [83, 99] ++ headS p ++ p.bo
def writeS (p : Pg) : List UInt8 × Int := if mayB p = true then (sealS (bodyS p), 0) else ([], 1)
theorem headS_len (p : Pg) : (headS p).length = 14 := by simp [headS, leB_len]
theorem bodyS_len (p : Pg) : (bodyS p).length = 16 + p.bo.length := by simp [bodyS, headS_len]; omega
/-- The page that a text says. -/
def numAt (t : List UInt8) (a w : Nat) : Int := (leN ((t.drop a).take w) : Int)
def pageOf (t : List UInt8) : Pg := ⟨numAt t 2 1, numAt t 3 2, numAt t 5 4, numAt t 9 6, t.drop 16⟩
def readS (s : List UInt8) : Pg × Int :=
  if (openS s).2 ≠ 0 then (zeroP, (openS s).2) else
  if (openS s).1.length < 16 then (zeroP, 3) else
  if mayB (pageOf (openS s).1) = true ∧ bodyS (pageOf (openS s).1) = (openS s).1 then (pageOf (openS s).1, 0) else (zeroP, 3)
theorem leB_of {w : Nat} {x : List UInt8} (h : x.length = w) : leB w (leN x) = x := by rw [← h]; exact leB_leN x
theorem leN_of {w n : Nat} (h : n < 256 ^ w) : leN (leB w n) = n := by rw [leN_leB, Nat.mod_eq_of_lt h]
theorem row_page (p : Pg) (h : mayB p = true) : rowS [p.kd.toNat, p.sp.toNat, p.ky.toNat, p.sq.toNat, p.bo.length] [1, 2, 4, 6, 1] = (headS p, 0) := by
  obtain ⟨a, b, c, d, e, f, g, h, i⟩ := mayB_iff.1 h
  have b1 : badW [1, 2, 4, 6, 1] = false := by decide
  have k1 : p.kd.toNat < 256 ^ (1 : Int).toNat := by show p.kd.toNat < 256; omega
  have k2 : p.sp.toNat < 256 ^ (2 : Int).toNat := by show p.sp.toNat < 65536; omega
  have k3 : p.ky.toNat < 256 ^ (4 : Int).toNat := by show p.ky.toNat < 4294967296; omega
  have k4 : p.sq.toNat < 256 ^ (6 : Int).toNat := by show p.sq.toNat < 281474976710656; omega
  have k5 : p.bo.length < 256 ^ (1 : Int).toNat := by show p.bo.length < 256; omega
  rw [rowS_ok rfl b1, goR_one k1, goR_one k2, goR_one k3, goR_one k4, goR_one k5, goR_nil]
  simp [headS, List.append_assoc]
/- the parts of a text -/
theorem drop_take_drop (t : List UInt8) (a w : Nat) : t.drop a = (t.drop a).take w ++ t.drop (a + w) := by
  rw [← List.drop_drop, List.take_append_drop]
theorem parts16 (t : List UInt8) : t = t.take 2 ++ ((t.drop 2).take 1 ++ ((t.drop 3).take 2 ++ ((t.drop 5).take 4 ++ ((t.drop 9).take 6 ++ ((t.drop 15).take 1 ++ t.drop 16))))) := by
  rw [← drop_take_drop t 15 1, ← drop_take_drop t 9 6, ← drop_take_drop t 5 4, ← drop_take_drop t 3 2, ← drop_take_drop t 2 1, List.take_append_drop]
theorem body_page (t : List UInt8) (h : 16 ≤ t.length) : bodyS (pageOf t) = [83, 99] ++ ((t.drop 2).take 1 ++ ((t.drop 3).take 2 ++ ((t.drop 5).take 4 ++ ((t.drop 9).take 6 ++ (leB 1 (t.length - 16) ++ t.drop 16))))) := by
  simp only [bodyS, headS, pageOf, numAt, Int.toNat_natCast]
  rw [leB_of (w := 1) (by simp; omega), leB_of (w := 2) (by simp; omega), leB_of (w := 4) (by simp; omega), leB_of (w := 6) (by simp; omega), List.length_drop]
  simp [List.append_assoc]
theorem body_same (t : List UInt8) (h : 16 ≤ t.length) (h2 : t.length - 16 ≤ 100) : bodyS (pageOf t) = t ↔ t.take 2 = [83, 99] ∧ leN ((t.drop 15).take 1) = t.length - 16 := by
  rw [body_page t h]
  have e15 : ((t.drop 15).take 1).length = 1 := by simp; omega
  constructor
  · intro he
    have h0 := parts16 t
    have h1 : t.take 2 = [83, 99] := by
      rw [← he]; rfl
    refine ⟨h1, ?_⟩
    have h2' : (t.drop 15).take 1 = leB 1 (t.length - 16) := by
      have h3 : (([83, 99] ++ ((t.drop 2).take 1 ++ ((t.drop 3).take 2 ++ ((t.drop 5).take 4 ++ ((t.drop 9).take 6 ++ (leB 1 (t.length - 16) ++ t.drop 16)))))).drop 15).take 1 = (t.drop 15).take 1 := congrArg (fun x : List UInt8 => (x.drop 15).take 1) he
      rw [← h3]
      have a1 : ((t.drop 2).take 1).length = 1 := by simp; omega
      have a2 : ((t.drop 3).take 2).length = 2 := by simp; omega
      have a3 : ((t.drop 5).take 4).length = 4 := by simp; omega
      have a4 : ((t.drop 9).take 6).length = 6 := by simp; omega
      have a5 : (leB 1 (t.length - 16)).length = 1 := leB_len _ _
      generalize (t.drop 2).take 1 = x1 at *
      generalize (t.drop 3).take 2 = x2 at *
      generalize (t.drop 5).take 4 = x3 at *
      generalize (t.drop 9).take 6 = x4 at *
      generalize leB 1 (t.length - 16) = x5 at *
      have b : ([83, 99] ++ (x1 ++ (x2 ++ (x3 ++ (x4 ++ (x5 ++ t.drop 16)))))) = ([83, 99] ++ x1 ++ x2 ++ x3 ++ x4) ++ (x5 ++ t.drop 16) := by simp
      rw [b, List.drop_left' (by simp [a1, a2, a3, a4]), List.take_left' a5]
    rw [h2', leN_of (by show t.length - 16 < 256; omega)]
  · rintro ⟨h1, h2'⟩
    have h3 : leB 1 (t.length - 16) = (t.drop 15).take 1 := by rw [← h2', leB_of e15]
    rw [h3, ← h1]
    exact (parts16 t).symm
theorem page_body (p : Pg) (h : mayB p = true) : pageOf (bodyS p) = p := by
  obtain ⟨a, b, c, d, e, f, g, h, i⟩ := mayB_iff.1 h
  have l1 : (leB 1 p.kd.toNat).length = 1 := leB_len _ _
  have l2 : (leB 2 p.sp.toNat).length = 2 := leB_len _ _
  have l3 : (leB 4 p.ky.toNat).length = 4 := leB_len _ _
  have l4 : (leB 6 p.sq.toNat).length = 6 := leB_len _ _
  have l5 : (leB 1 p.bo.length).length = 1 := leB_len _ _
  have n1 : leN (leB 1 p.kd.toNat) = p.kd.toNat := leN_of (by show p.kd.toNat < 256; omega)
  have n2 : leN (leB 2 p.sp.toNat) = p.sp.toNat := leN_of (by show p.sp.toNat < 65536; omega)
  have n3 : leN (leB 4 p.ky.toNat) = p.ky.toNat := leN_of (by show p.ky.toNat < 4294967296; omega)
  have n4 : leN (leB 6 p.sq.toNat) = p.sq.toNat := leN_of (by show p.sq.toNat < 281474976710656; omega)
  unfold pageOf bodyS headS numAt
  generalize leB 1 p.kd.toNat = x1 at *
  generalize leB 2 p.sp.toNat = x2 at *
  generalize leB 4 p.ky.toNat = x3 at *
  generalize leB 6 p.sq.toNat = x4 at *
  generalize leB 1 p.bo.length = x5 at *
  have q1 : (([83, 99] ++ (x1 ++ (x2 ++ (x3 ++ (x4 ++ x5)))) ++ p.bo).drop 2).take 1 = x1 := by
    rw [show [83, 99] ++ (x1 ++ (x2 ++ (x3 ++ (x4 ++ x5)))) ++ p.bo = [83, 99] ++ (x1 ++ (x2 ++ (x3 ++ (x4 ++ x5)) ++ p.bo)) by simp, List.drop_left' (by rfl), List.append_assoc, List.take_left' l1]
  have q2 : (([83, 99] ++ (x1 ++ (x2 ++ (x3 ++ (x4 ++ x5)))) ++ p.bo).drop 3).take 2 = x2 := by
    rw [show [83, 99] ++ (x1 ++ (x2 ++ (x3 ++ (x4 ++ x5)))) ++ p.bo = ([83, 99] ++ x1) ++ (x2 ++ (x3 ++ (x4 ++ x5) ++ p.bo)) by simp, List.drop_left' (by simp [l1]), List.take_left' l2]
  have q3 : (([83, 99] ++ (x1 ++ (x2 ++ (x3 ++ (x4 ++ x5)))) ++ p.bo).drop 5).take 4 = x3 := by
    rw [show [83, 99] ++ (x1 ++ (x2 ++ (x3 ++ (x4 ++ x5)))) ++ p.bo = ([83, 99] ++ x1 ++ x2) ++ (x3 ++ (x4 ++ x5 ++ p.bo)) by simp, List.drop_left' (by simp [l1, l2]), List.take_left' l3]
  have q4 : (([83, 99] ++ (x1 ++ (x2 ++ (x3 ++ (x4 ++ x5)))) ++ p.bo).drop 9).take 6 = x4 := by
    rw [show [83, 99] ++ (x1 ++ (x2 ++ (x3 ++ (x4 ++ x5)))) ++ p.bo = ([83, 99] ++ x1 ++ x2 ++ x3) ++ (x4 ++ (x5 ++ p.bo)) by simp, List.drop_left' (by simp [l1, l2, l3]), List.take_left' l4]
  have q5 : ([83, 99] ++ (x1 ++ (x2 ++ (x3 ++ (x4 ++ x5)))) ++ p.bo).drop 16 = p.bo := List.drop_left' (by simp [l1, l2, l3, l4, l5])
  rw [q1, q2, q3, q4, q5, n1, n2, n3, n4]
  cases p
  simp only [] at *
  congr 1 <;> omega
/-- What is written is read as it was. -/
theorem read_write (p : Pg) (h : mayB p = true) : readS (sealS (bodyS p)) = (p, 0) := by
  rw [readS, open_seal]
  simp only [ne_eq, not_true_eq_false, if_false]
  rw [if_neg (by rw [bodyS_len]; omega), page_body p h, if_pos ⟨h, rfl⟩]
theorem write_len (p : Pg) : (writeS p).1.length ≤ 128 := by
  rw [writeS]
  split
  · rename_i h
    have := (mayB_iff.1 h).2.2.2.2.2.2.2.2
    rw [seal_len, bodyS_len]; omega
  · simp
end Go.Proofs.YtdgpiobmncohjaaGreat.Aw
namespace Go.Proofs.YtdgpiobmncohjaaGreat.Aw
open Go.RowKit

abbrev pP (p : Pg) : PV := .agg (rowP p)
theorem in_spec (n m : Int) : PCall Tryz.prog 55 [.int .i64 n, .int .i64 m] (.bool (inS n m)) := by
  refine pcall_go Tryz.func55 cm39 ?_
  by_cases h0 : 0 ≤ n
  · have d0 := decide_eq_true h0
    simp only [U39, d0, seval, bA]
    simp [inS, h0]
  · have d0 := decide_eq_false h0
    simp only [U39, d0, seval, bA]
    simp [inS, h0]
theorem may_spec (p : Pg) : PCall Tryz.prog 40 [pP p] (.bool (mayB p)) := by
  refine pcall_go Tryz.func40 cm40 ?_
  by_cases h0 : 1 ≤ p.kd
  · have d0 := decide_eq_true h0
    by_cases h1 : p.kd ≤ 4
    · have d1 := decide_eq_true h1
      simp only [U40, rowP, d0, d1, seval, bA]
      refine callI (in_spec p.sp 65535) ?_
      cases h2 : inS p.sp 65535 with
      | true =>
        simp only [U40, rowP, d0, d1, seval, bA]
        refine callI (in_spec p.ky 4294967295) ?_
        cases h3 : inS p.ky 4294967295 with
        | true =>
          simp only [U40, rowP, d0, d1, seval, bA]
          refine callI (in_spec p.sq 281474976710655) ?_
          cases h4 : inS p.sq 281474976710655 with
          | true =>
            simp only [U40, rowP, d0, d1, seval, bA]
            simp [mayB, len100, h0, h1, h2, h3, h4]
          | false =>
            simp only [U40, rowP, d0, d1, seval, bA]
            simp [mayB, len100, h0, h1, h2, h3, h4]
        | false =>
          simp only [U40, rowP, d0, d1, seval, bA]
          simp [mayB, len100, h0, h1, h2, h3]
      | false =>
        simp only [U40, rowP, d0, d1, seval, bA]
        simp [mayB, len100, h0, h1, h2]
    · have d1 := decide_eq_false h1
      simp only [U40, rowP, d0, d1, seval, bA]
      simp [mayB, len100, h0, h1]
  · have d0 := decide_eq_false h0
    simp only [U40, rowP, d0, seval, bA]
    simp [mayB, len100, h0]
end Go.Proofs.YtdgpiobmncohjaaGreat.Aw
namespace Go.Proofs.YtdgpiobmncohjaaGreat.Aw
open Go.RowKit

theorem widths_spec : PCall Tryz.prog 42 [] (.slc (rowsZ .i64 [1, 2, 4, 6, 1])) := by
  refine pcall_go Tryz.func42 cm41 ?_
  simp only [U41, seval, bA]
  rfl
theorem wrapU_nat {n : Int} (h0 : 0 ≤ n) (h : n < 18446744073709551616) : IntKind.u64.wrap n = ((n.toNat : Nat) : Int) := by rw [wrap64]; omega
theorem write_spec (p : Pg) (hb : p.bo.length ≤ 9223372036854775807) : PCall Tryz.prog 20 [pP p] (.tup [.str (writeS p).1, .int .i64 (writeS p).2]) := by
  refine pcall_go Tryz.func20 cm38 ?_
  simp only [U38, rowP, seval, bA]
  refine callI (may_spec p) ?_
  cases h : mayB p with
  | false =>
    simp only [U38, seval, bA]
    simp [writeS, h]
  | true =>
    obtain ⟨a, b, c, d, e, f, g, hh, i⟩ := mayB_iff.1 h
    have e1 : IntKind.u64.wrap p.kd = ((p.kd.toNat : Nat) : Int) := wrapU_nat (by omega) (by omega)
    have e2 : IntKind.u64.wrap p.sp = ((p.sp.toNat : Nat) : Int) := wrapU_nat (by omega) (by omega)
    have e3 : IntKind.u64.wrap p.ky = ((p.ky.toNat : Nat) : Int) := wrapU_nat (by omega) (by omega)
    have e4 : IntKind.u64.wrap p.sq = ((p.sq.toNat : Nat) : Int) := wrapU_nat (by omega) (by omega)
    have e5 : IntKind.u64.wrap (p.bo.length : Int) = ((p.bo.length : Nat) : Int) := wrapU (by omega) (by omega)
    simp only [U38, rowP, e1, e2, e3, e4, e5, seval, bA]
    refine callI widths_spec ?_
    simp only [U38, rowP, seval, bA]
    refine callI (row_spec [p.kd.toNat, p.sp.toNat, p.ky.toNat, p.sq.toNat, p.bo.length] [1, 2, 4, 6, 1] (by simp) (by simp) (by
      intro n hn
      simp only [List.mem_cons, List.not_mem_nil, or_false] at hn
      rcases hn with rfl | rfl | rfl | rfl | rfl <;> omega)) ?_
    rw [row_page p h]
    have hl := headS_len p
    have f1 : binS .add [83, 99] (headS p) = some (.str ([83, 99] ++ headS p)) := by rw [binS, if_pos (by simp; omega)]
    have f2 : binS .add ([83, 99] ++ headS p) p.bo = some (.str ([83, 99] ++ headS p ++ p.bo)) := by rw [binS, if_pos (by simp; omega)]
    simp only [List.append_assoc, List.cons_append, List.nil_append] at f1 f2
    simp only [U38, rowP, f1, f2, seval, bA]
    have hwr : writeS p = (sealS (bodyS p), 0) := by rw [writeS, if_pos h]
    have hb2 : 83 :: 99 :: (headS p ++ p.bo) = bodyS p := by simp [bodyS]
    rw [hb2, hwr]
    refine callI (seal_spec (bodyS p) (by rw [bodyS_len]; omega)) ?_
    simp only [U38, seval, bA]
end Go.Proofs.YtdgpiobmncohjaaGreat.Aw
namespace Go.Proofs.YtdgpiobmncohjaaGreat.Aw
open Go.RowKit

theorem take_page (t : List UInt8) (h : 16 ≤ t.length) : takeS (t.drop 2) [1, 2, 4, 6, 1] = ([leN ((t.drop 2).take 1), leN ((t.drop 3).take 2), leN ((t.drop 5).take 4), leN ((t.drop 9).take 6), leN ((t.drop 15).take 1)], t.drop 16, 0) := by
  have b1 : badW [1, 2, 4, 6, 1] = false := by decide
  rw [takeS_ok b1, goOn_one (by simp; omega), goOn_one (by simp; omega), goOn_one (by simp; omega), goOn_one (by simp; omega), goOn_one (by simp; omega), goOn_nil]
  simp [List.drop_drop]
theorem read_err {s : List UInt8} (h : (openS s).2 ≠ 0) : readS s = (zeroP, (openS s).2) := by rw [readS, if_pos h]
theorem read_short {s : List UInt8} (h : (openS s).2 = 0) (h2 : (openS s).1.length < 16) : readS s = (zeroP, 3) := by rw [readS, if_neg (by simpa using h), if_pos h2]
theorem read_no {s : List UInt8} (h : (openS s).2 = 0) (h2 : ¬ (openS s).1.length < 16) (h3 : ¬ (mayB (pageOf (openS s).1) = true ∧ bodyS (pageOf (openS s).1) = (openS s).1)) : readS s = (zeroP, 3) := by
  rw [readS, if_neg (by simpa using h), if_neg h2, if_neg h3]
theorem read_yes {s : List UInt8} (h : (openS s).2 = 0) (h2 : ¬ (openS s).1.length < 16) (h3 : mayB (pageOf (openS s).1) = true) (h4 : bodyS (pageOf (openS s).1) = (openS s).1) : readS s = (pageOf (openS s).1, 0) := by
  rw [readS, if_neg (by simpa using h), if_neg h2, if_pos ⟨h3, h4⟩]
theorem may_len {t : List UInt8} (h : mayB (pageOf t) = true) : t.length - 16 ≤ 100 := by
  have := (mayB_iff.1 h).2.2.2.2.2.2.2.2
  simpa [pageOf] using this
theorem open_len (s : List UInt8) : (openS s).1.length ≤ s.length := by
  unfold openS; split
  · simp
  · split
    · simp
    · simp
theorem read_spec (s : List UInt8) (hs : s.length ≤ 1000000) : PCall Tryz.prog 23 [.str s] (.tup [pP (readS s).1, .int .i64 (readS s).2]) := by
  refine pcall_go Tryz.func23 cm37 ?_
  simp only [U37, seval, bA]
  refine callI (open_spec s hs) ?_
  by_cases h0 : (openS s).2 = 0
  · have d0 : ((openS s).2 != 0) = false := by simpa using h0
    have hol := open_len s
    have hyes := read_yes h0
    have hno := read_no h0
    have hshort := read_short h0
    generalize (openS s).1 = t at hol hyes hno hshort
    by_cases h16 : t.length < 16
    · have d1 : decide ((t.length : Int) < 16) = true := by simp; omega
      rw [hshort h16]
      simp only [U37, d0, d1, seval, bA]
      rfl
    · have d1 : decide ((t.length : Int) < 16) = false := by simp; omega
      have g1 : sstrV (.str t) (some none) (some (some 2)) = some (.str (t.take 2)) := sstrV_to (h := 2) (by omega)
      have g2 : sstrV (.str t) (some (some 2)) (some none) = some (.str (t.drop 2)) := sstrV_from (i := 2) (by omega)
      by_cases h2 : t.take 2 = [83, 99]
      · have d2 : (t.take 2 == [83, 99]) = true := by simpa using h2
        simp only [U37, d0, d1, g1, d2, g2, seval, bA]
        refine callI widths_spec ?_
        simp only [U37, seval, bA]
        refine callI (take_spec (t.drop 2) [1, 2, 4, 6, 1] (by simp; omega) (by simp)) ?_
        rw [take_page t (by omega)]
        have l1 := leN_lt ((t.drop 2).take 1)
        have l2 := leN_lt ((t.drop 3).take 2)
        have l3 := leN_lt ((t.drop 5).take 4)
        have l4 := leN_lt ((t.drop 9).take 6)
        rw [show ((t.drop 2).take 1).length = 1 by simp; omega] at l1
        rw [show ((t.drop 3).take 2).length = 2 by simp; omega] at l2
        rw [show ((t.drop 5).take 4).length = 4 by simp; omega] at l3
        rw [show ((t.drop 9).take 6).length = 6 by simp; omega] at l4
        have hsame := body_same t (by omega)
        have hpo : pageOf t = ⟨(leN ((t.drop 2).take 1) : Int), (leN ((t.drop 3).take 2) : Int), (leN ((t.drop 5).take 4) : Int), (leN ((t.drop 9).take 6) : Int), t.drop 16⟩ := rfl
        have hml := may_len (t := t)
        have hBl : (t.drop 16).length = t.length - 16 := by simp
        generalize leN ((t.drop 2).take 1) = n1 at *
        generalize leN ((t.drop 3).take 2) = n2 at *
        generalize leN ((t.drop 5).take 4) = n3 at *
        generalize leN ((t.drop 9).take 6) = n4 at *
        generalize leN ((t.drop 15).take 1) = n5 at *
        generalize t.drop 16 = B at *
        have i0 : ∀ ob fb, islV ob fb 1 (.slc (rowsN .u64 [n1, n2, n3, n4, n5])) (.int .i64 0) = some (.fptr [.int .u64 (n1 : Int)]) := fun _ _ => rfl
        have i1 : ∀ ob fb, islV ob fb 1 (.slc (rowsN .u64 [n1, n2, n3, n4, n5])) (.int .i64 1) = some (.fptr [.int .u64 (n2 : Int)]) := fun _ _ => rfl
        have i2 : ∀ ob fb, islV ob fb 1 (.slc (rowsN .u64 [n1, n2, n3, n4, n5])) (.int .i64 2) = some (.fptr [.int .u64 (n3 : Int)]) := fun _ _ => rfl
        have i3 : ∀ ob fb, islV ob fb 1 (.slc (rowsN .u64 [n1, n2, n3, n4, n5])) (.int .i64 3) = some (.fptr [.int .u64 (n4 : Int)]) := fun _ _ => rfl
        have i4 : ∀ ob fb, islV ob fb 1 (.slc (rowsN .u64 [n1, n2, n3, n4, n5])) (.int .i64 4) = some (.fptr [.int .u64 (n5 : Int)]) := fun _ _ => rfl
        have eB : IntKind.u64.wrap (B.length : Int) = (B.length : Int) := wrapU (by omega) (by omega)
        have c1 : IntKind.i64.wrap (n1 : Int) = (n1 : Int) := wrapI (by omega) (by omega)
        have c2 : IntKind.i64.wrap (n2 : Int) = (n2 : Int) := wrapI (by omega) (by omega)
        have c3 : IntKind.i64.wrap (n3 : Int) = (n3 : Int) := wrapI (by omega) (by omega)
        have c4 : IntKind.i64.wrap (n4 : Int) = (n4 : Int) := wrapI (by omega) (by omega)
        by_cases h5 : B.length = n5
        · have d3 : ((B.length : Int) != (n5 : Int)) = false := by simp only [bne_eq_false_iff_eq]; omega
          simp only [U37, i0, i1, i2, i3, i4, eB, d3, c1, c2, c3, c4, seval, bA]
          refine callI (may_spec ⟨(n1 : Int), (n2 : Int), (n3 : Int), (n4 : Int), B⟩) ?_
          cases hm : mayB ⟨(n1 : Int), (n2 : Int), (n3 : Int), (n4 : Int), B⟩ with
          | true =>
            rw [← hpo] at hm
            rw [hyes h16 hm ((hsame (hml hm)).2 ⟨h2, by omega⟩)]
            simp only [U37, seval, bA]
            rw [hpo]; rfl
          | false =>
            rw [← hpo] at hm
            rw [hno h16 (fun h => by rw [hm] at h; exact absurd h.1 (by simp))]
            simp only [U37, seval, bA]
            rfl
        · have d3 : ((B.length : Int) != (n5 : Int)) = true := by simp only [bne_iff_ne, ne_eq]; omega
          rw [hno h16 (fun h => h5 (by have := ((hsame (hml h.1)).1 h.2).2; omega))]
          simp only [U37, i4, eB, d3, seval, bA]
          rfl
      · have d2 : (t.take 2 == [83, 99]) = false := by simpa using h2
        rw [hno h16 (fun h => h2 ((body_same t (by omega) (may_len h.1)).1 h.2).1)]
        simp only [U37, d0, d1, g1, d2, seval, bA]
        rfl
  · have d0 : ((openS s).2 != 0) = true := by simpa using h0
    rw [read_err h0]
    simp only [U37, d0, seval, bA]
    rfl
end Go.Proofs.YtdgpiobmncohjaaGreat.Aw
