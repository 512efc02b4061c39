/-
  Pages as bytes. Plain Lean.
-/
import Derived.Test.YtdgpiobmncohjaaDoorMCrc
import Derived.Test.YtdgpiobmncohjaaDoorPRow
namespace Go.Proofs.YtdgpiobmncohjaaDoor.Aw
open Go.RowKit

structure Pg where
  kd : Int
  sp : Int
  ky : Int
  sq : Int
  bo : List UInt8
deriving DecidableEq
def rowP (p : Pg) : List PV := [.int .i64 p.kd, .int .i64 p.sp, .int .i64 p.ky, .int .i64 p.sq, .str p.bo]
theorem rowP_len (p : Pg) : (rowP p).length = 5 := rfl
def zeroP : Pg := ⟨0, 0, 0, 0, []⟩
def inS (n m : Int) : Bool := decide (0 ≤ n) && decide (n ≤ m)
def mayB (p : Pg) : Bool := decide (1 ≤ p.kd) && (decide (p.kd ≤ 4) && (inS p.sp 65535 && (inS p.ky 4294967295 && (inS p.sq 281474976710655 && decide (p.bo.length ≤ 100)))))
theorem len100 (l : List UInt8) : decide ((l.length : Int) ≤ 100) = decide (l.length ≤ 100) := by rw [Bool.eq_iff_iff]; simp; omega
theorem mayB_iff {p : Pg} : mayB p = true ↔ 1 ≤ p.kd ∧ p.kd ≤ 4 ∧ 0 ≤ p.sp ∧ p.sp ≤ 65535 ∧ 0 ≤ p.ky ∧ p.ky ≤ 4294967295 ∧ 0 ≤ p.sq ∧ p.sq ≤ 281474976710655 ∧ p.bo.length ≤ 100 := by
  simp only [mayB, inS, Bool.and_eq_true, decide_eq_true_eq]
  constructor
  · rintro ⟨a, b, ⟨c, d⟩, ⟨e, f⟩, ⟨g, h⟩, i⟩; exact ⟨a, b, c, d, e, f, g, h, i⟩
  · rintro ⟨a, b, c, d, e, f, g, h, i⟩; exact ⟨a, b, ⟨c, d⟩, ⟨e, f⟩, ⟨g, h⟩, i⟩
/-- The numbers of a page in a row. -/
def headS (p : Pg) : List UInt8 := leB 1 p.kd.toNat ++ (leB 2 p.sp.toNat ++ (leB 4 p.ky.toNat ++ (leB 6 p.sq.toNat ++ leB 1 p.bo.length)))
def bodyS (p : Pg) : List UInt8 := [83, 99] ++ headS p ++ p.bo
def writeS (p : Pg) : List UInt8 × Int := if mayB p = true then (sealS (bodyS p), 0) else ([], 1)
theorem headS_len (p : Pg) : (headS p).length = 14 := by simp [headS, leB_len]
theorem bodyS_len (p : Pg) : (bodyS p).length = 16 + p.bo.length := by simp [bodyS, headS_len]; omega
/-- The page that a text says. -/
def numAt (t : List UInt8) (a w : Nat) : Int := (leN ((t.drop a).take w) : Int)
def pageOf (t : List UInt8) : Pg := ⟨numAt t 2 1, numAt t 3 2, numAt t 5 4, numAt t 9 6, t.drop 16⟩
def readS (s : List UInt8) : Pg × Int :=
  if (openS s).2 ≠ 0 then (zeroP, (openS s).2) else
  if (openS s).1.length < 16 then (zeroP, 3) else
  if mayB (pageOf (openS s).1) = true ∧ bodyS (pageOf (openS s).1) = (openS s).1 then (pageOf (openS s).1, 0) else (zeroP, 3)
theorem leB_of {w : Nat} {x : List UInt8} (h : x.length = w) : leB w (leN x) = x := by rw [← h]; exact leB_leN x
theorem leN_of {w n : Nat} (h : n < 256 ^ w) : leN (leB w n) = n := by rw [leN_leB, Nat.mod_eq_of_lt h]
theorem row_page (p : Pg) (h : mayB p = true) : rowS [p.kd.toNat, p.sp.toNat, p.ky.toNat, p.sq.toNat, p.bo.length] [1, 2, 4, 6, 1] = (headS p, 0) := by
  obtain ⟨a, b, c, d, e, f, g, h, i⟩ := mayB_iff.1 h
  have b1 : badW [1, 2, 4, 6, 1] = false := by decide
  have k1 : p.kd.toNat < 256 ^ (1 : Int).toNat := by show p.kd.toNat < 256; omega
  have k2 : p.sp.toNat < 256 ^ (2 : Int).toNat := by show p.sp.toNat < 65536; omega
  have k3 : p.ky.toNat < 256 ^ (4 : Int).toNat := by show p.ky.toNat < 4294967296; omega
  have k4 : p.sq.toNat < 256 ^ (6 : Int).toNat := by show p.sq.toNat < 281474976710656; omega
  have k5 : p.bo.length < 256 ^ (1 : Int).toNat := by show p.bo.length < 256; omega
  rw [rowS_ok rfl b1, goR_one k1, goR_one k2, goR_one k3, goR_one k4, goR_one k5, goR_nil]
  simp [headS, List.append_assoc]
/- the parts of a text -/
theorem drop_take_drop (t : List UInt8) (a w : Nat) : t.drop a = (t.drop a).take w ++ t.drop (a + w) := by
  rw [← List.drop_drop, List.take_append_drop]
theorem parts16 (t : List UInt8) : t = t.take 2 ++ ((t.drop 2).take 1 ++ ((t.drop 3).take 2 ++ ((t.drop 5).take 4 ++ ((t.drop 9).take 6 ++ ((t.drop 15).take 1 ++ t.drop 16))))) := by
  rw [← drop_take_drop t 15 1, ← drop_take_drop t 9 6, ← drop_take_drop t 5 4, ← drop_take_drop t 3 2, ← drop_take_drop t 2 1, List.take_append_drop]
theorem body_page (t : List UInt8) (h : 16 ≤ t.length) : bodyS (pageOf t) = [83, 99] ++ ((t.drop 2).take 1 ++ ((t.drop 3).take 2 ++ ((t.drop 5).take 4 ++ ((t.drop 9).take 6 ++ (leB 1 (t.length - 16) ++ t.drop 16))))) := by
  simp only [bodyS, headS, pageOf, numAt, Int.toNat_natCast]
  rw [leB_of (w := 1) (by simp; omega), leB_of (w := 2) (by simp; omega), leB_of (w := 4) (by simp; omega), leB_of (w := 6) (by simp; omega), List.length_drop]
  simp [List.append_assoc]
theorem body_same (t : List UInt8) (h : 16 ≤ t.length) (h2 : t.length - 16 ≤ 100) : bodyS (pageOf t) = t ↔ t.take 2 = [83, 99] ∧ leN ((t.drop 15).take 1) = t.length - 16 := by
  rw [body_page t h]
  have e15 : ((t.drop 15).take 1).length = 1 := by simp; omega
  constructor
  · intro he
    have h0 := parts16 t
    have h1 : t.take 2 = [83, 99] := by
      rw [← he]; rfl
    refine ⟨h1, ?_⟩
    have h2' : (t.drop 15).take 1 = leB 1 (t.length - 16) := by
      have h3 : (([83, 99] ++ ((t.drop 2).take 1 ++ ((t.drop 3).take 2 ++ ((t.drop 5).take 4 ++ ((t.drop 9).take 6 ++ (leB 1 (t.length - 16) ++ t.drop 16)))))).drop 15).take 1 = (t.drop 15).take 1 := congrArg (fun x : List UInt8 => (x.drop 15).take 1) he
      rw [← h3]
      have a1 : ((t.drop 2).take 1).length = 1 := by simp; omega
      have a2 : ((t.drop 3).take 2).length = 2 := by simp; omega
      have a3 : ((t.drop 5).take 4).length = 4 := by simp; omega
      have a4 : ((t.drop 9).take 6).length = 6 := by simp; omega
      have a5 : (leB 1 (t.length - 16)).length = 1 := leB_len _ _
      generalize (t.drop 2).take 1 = x1 at *
      generalize (t.drop 3).take 2 = x2 at *
      generalize (t.drop 5).take 4 = x3 at *
      generalize (t.drop 9).take 6 = x4 at *
      generalize leB 1 (t.length - 16) = x5 at *
      have b : ([83, 99] ++ (x1 ++ (x2 ++ (x3 ++ (x4 ++ (x5 ++ t.drop 16)))))) = ([83, 99] ++ x1 ++ x2 ++ x3 ++ x4) ++ (x5 ++ t.drop 16) := by simp
      rw [b, List.drop_left' (by simp [a1, a2, a3, a4]), List.take_left' a5]
    rw [h2', leN_of (by show t.length - 16 < 256; omega)]
  · rintro ⟨h1, h2'⟩
    have h3 : leB 1 (t.length - 16) = (t.drop 15).take 1 := by rw [← h2', leB_of e15]
    rw [h3, ← h1]
    exact (parts16 t).symm
theorem seal_inj {a b : List UInt8} (h : sealS a = sealS b) : a = b := by
  have h1 := open_seal a
  rw [h, open_seal] at h1
  exact (Prod.mk.inj h1).1.symm
theorem open_zero {s : List UInt8} (h : (openS s).2 = 0) : sealS (openS s).1 = s := by
  unfold openS at h ⊢
  split at h
  · simp at h
  · rename_i h4
    split at h
    · rename_i h5
      rw [if_neg h4, if_pos h5]; exact h5
    · simp at h
theorem page_body (p : Pg) (h : mayB p = true) : pageOf (bodyS p) = p := by
  obtain ⟨a, b, c, d, e, f, g, h, i⟩ := mayB_iff.1 h
  have l1 : (leB 1 p.kd.toNat).length = 1 := leB_len _ _
  have l2 : (leB 2 p.sp.toNat).length = 2 := leB_len _ _
  have l3 : (leB 4 p.ky.toNat).length = 4 := leB_len _ _
  have l4 : (leB 6 p.sq.toNat).length = 6 := leB_len _ _
  have l5 : (leB 1 p.bo.length).length = 1 := leB_len _ _
  have n1 : leN (leB 1 p.kd.toNat) = p.kd.toNat := leN_of (by show p.kd.toNat < 256; omega)
  have n2 : leN (leB 2 p.sp.toNat) = p.sp.toNat := leN_of (by show p.sp.toNat < 65536; omega)
  have n3 : leN (leB 4 p.ky.toNat) = p.ky.toNat := leN_of (by show p.ky.toNat < 4294967296; omega)
  have n4 : leN (leB 6 p.sq.toNat) = p.sq.toNat := leN_of (by show p.sq.toNat < 281474976710656; omega)
  unfold pageOf bodyS headS numAt
  generalize leB 1 p.kd.toNat = x1 at *
  generalize leB 2 p.sp.toNat = x2 at *
  generalize leB 4 p.ky.toNat = x3 at *
  generalize leB 6 p.sq.toNat = x4 at *
  generalize leB 1 p.bo.length = x5 at *
  have q1 : (([83, 99] ++ (x1 ++ (x2 ++ (x3 ++ (x4 ++ x5)))) ++ p.bo).drop 2).take 1 = x1 := by
    rw [show [83, 99] ++ (x1 ++ (x2 ++ (x3 ++ (x4 ++ x5)))) ++ p.bo = [83, 99] ++ (x1 ++ (x2 ++ (x3 ++ (x4 ++ x5)) ++ p.bo)) by simp, List.drop_left' (by rfl), List.append_assoc, List.take_left' l1]
  have q2 : (([83, 99] ++ (x1 ++ (x2 ++ (x3 ++ (x4 ++ x5)))) ++ p.bo).drop 3).take 2 = x2 := by
    rw [show [83, 99] ++ (x1 ++ (x2 ++ (x3 ++ (x4 ++ x5)))) ++ p.bo = ([83, 99] ++ x1) ++ (x2 ++ (x3 ++ (x4 ++ x5) ++ p.bo)) by simp, List.drop_left' (by simp [l1]), List.take_left' l2]
  have q3 : (([83, 99] ++ (x1 ++ (x2 ++ (x3 ++ (x4 ++ x5)))) ++ p.bo).drop 5).take 4 = x3 := by
    rw [show [83, 99] ++ (x1 ++ (x2 ++ (x3 ++ (x4 ++ x5)))) ++ p.bo = ([83, 99] ++ x1 ++ x2) ++ (x3 ++ (x4 ++ x5 ++ p.bo)) by simp, List.drop_left' (by simp [l1, l2]), List.take_left' l3]
  have q4 : (([83, 99] ++ (x1 ++ (x2 ++ (x3 ++ (x4 ++ x5)))) ++ p.bo).drop 9).take 6 = x4 := by
    rw [show [83, 99] ++ (x1 ++ (x2 ++ (x3 ++ (x4 ++ x5)))) ++ p.bo = ([83, 99] ++ x1 ++ x2 ++ x3) ++ (x4 ++ (x5 ++ p.bo)) by simp, List.drop_left' (by simp [l1, l2, l3]), List.take_left' l4]
  have q5 : ([83, 99] ++ (x1 ++ (x2 ++ (x3 ++ (x4 ++ x5)))) ++ p.bo).drop 16 = p.bo := List.drop_left' (by simp [l1, l2, l3, l4, l5])
  rw [q1, q2, q3, q4, q5, n1, n2, n3, n4]
  cases p
  simp only [] at *
  congr 1 <;> omega
/-- What is written is read as it was. -/
theorem read_write (p : Pg) (h : mayB p = true) : readS (sealS (bodyS p)) = (p, 0) := by
  rw [readS, open_seal]
  simp only [ne_eq, not_true_eq_false, if_false]
  rw [if_neg (by rw [bodyS_len]; omega), page_body p h, if_pos ⟨h, rfl⟩]
/-- What is read is just what is written. -/
theorem write_read {s : List UInt8} (h : (readS s).2 = 0) : mayB (readS s).1 = true ∧ writeS (readS s).1 = (s, 0) := by
  unfold readS at h ⊢
  split at h
  · rename_i h1; exact absurd h h1
  · rename_i h1
    simp only [ne_eq, Classical.not_not] at h1
    rw [if_neg (by simpa using h1)]
    split at h
    · simp at h
    · rename_i h2
      rw [if_neg h2]
      split at h
      · rename_i h3
        rw [if_pos h3]
        refine ⟨h3.1, ?_⟩
        rw [writeS, if_pos h3.1, h3.2, open_zero h1]
      · simp at h
theorem read_bad {s : List UInt8} (h : (readS s).2 ≠ 0) : (readS s).1 = zeroP := by
  unfold readS at h ⊢
  split
  · rfl
  · split
    · rfl
    · split
      · rename_i h1 h2 h3
        rw [if_neg h1, if_neg h2, if_pos h3] at h
        exact absurd rfl h
      · rfl
theorem write_len (p : Pg) : (writeS p).1.length ≤ 128 := by
  rw [writeS]
  split
  · rename_i h
    have := (mayB_iff.1 h).2.2.2.2.2.2.2.2
    rw [seal_len, bodyS_len]; omega
  · simp
theorem write_inj {p q : Pg} (hp : mayB p = true) (hq : mayB q = true) (h : sealS (bodyS p) = sealS (bodyS q)) : p = q := by
  have h1 := read_write p hp
  rw [h, read_write q hq] at h1
  exact (Prod.mk.inj h1).1.symm
end Go.Proofs.YtdgpiobmncohjaaDoor.Aw
