/-
  Root records as bytes. Plain Lean.
-/
import Derived.Test.YtklniadgdbjcpaaMLink
import Derived.Test.YtklniadgdbjcpaaPRow
namespace Go.Proofs.Ytklniadgdbjcpaa.Aw
open Go.RowKit

structure Sp where
  id : Int
  sz : Int
  tp : Int
  hi : Int
deriving DecidableEq
def rowSp (s : Sp) : List PV := [.int .i64 s.id, .int .i64 s.sz, .int .i64 s.tp, .int .i64 s.hi]
theorem rowSp_len (s : Sp) : (rowSp s).length = 4 := rfl
def inL (n a b : Int) : Bool := decide (a ≤ n) && decide (n ≤ b)
theorem inL_iff {n a b : Int} : inL n a b = true ↔ a ≤ n ∧ n ≤ b := by simp [inL]
def spaceB (s : Sp) : Bool := inL s.id 1 65535 && (inL s.sz 0 16777216 && (inL s.hi 0 6 && (if s.hi = 0 then s.tp == -1 else inL s.tp 0 2047)))
theorem spaceB_iff {s : Sp} : spaceB s = true ↔ (1 ≤ s.id ∧ s.id ≤ 65535) ∧ (0 ≤ s.sz ∧ s.sz ≤ 16777216) ∧ (0 ≤ s.hi ∧ s.hi ≤ 6) ∧ ((s.hi = 0 ∧ s.tp = -1) ∨ (s.hi ≠ 0 ∧ 0 ≤ s.tp ∧ s.tp ≤ 2047)) := by
  simp only [spaceB, Bool.and_eq_true, inL_iff]
  by_cases h : s.hi = 0
  · simp [h]
  · simp [h, inL_iff]
def riseB (a b : Sp) : Bool := decide (a.id < b.id)
def mayR (g : Int) (l : List Sp) : Bool := inL g 0 1099511627775 && (decide (l.length ≤ 8) && lkB spaceB riseB l)
theorem mayR_iff {g : Int} {l : List Sp} : mayR g l = true ↔ (0 ≤ g ∧ g ≤ 1099511627775) ∧ l.length ≤ 8 ∧ lkB spaceB riseB l = true := by simp [mayR, inL_iff]
/-- The bytes of a namespace, and of a record. -/
def entS (s : Sp) : List UInt8 := leB 2 s.id.toNat ++ (leB 4 s.sz.toNat ++ (leB 2 s.tp.toNat ++ leB 1 s.hi.toNat))
def hdrS (g : Int) (n : Nat) : List UInt8 := leB 5 g.toNat ++ leB 1 n
def recS (g : Int) (l : List Sp) : List UInt8 := hdrS g l.length ++ l.flatMap entS
def writeR (g : Int) (l : List Sp) : List UInt8 × Int := if mayR g l = true then (recS g l, 0) else ([], 1)
theorem entS_len (s : Sp) : (entS s).length = 9 := by simp [entS, leB_len]
theorem hdrS_len (g : Int) (n : Nat) : (hdrS g n).length = 6 := by simp [hdrS, leB_len]
theorem flat_len9 : ∀ l : List Sp, (l.flatMap entS).length = 9 * l.length
  | [] => rfl
  | s :: l => by rw [List.flatMap_cons, List.length_append, entS_len, flat_len9 l, List.length_cons]; omega
theorem recS_len (g : Int) (l : List Sp) : (recS g l).length = 6 + 9 * l.length := by rw [recS, List.length_append, hdrS_len, flat_len9]
theorem flat_drop9 : ∀ (l : List Sp) (i : Nat), (l.flatMap entS).drop (9 * i) = (l.drop i).flatMap entS
  | l, 0 => by simp
  | [], i + 1 => by simp
  | s :: l, i + 1 => by
    rw [List.flatMap_cons, show 9 * (i + 1) = (entS s).length + 9 * i by rw [entS_len]; omega, ← List.drop_drop, List.drop_left, flat_drop9 l i, List.drop_succ_cons]
theorem flat_take (l : List Sp) (i : Nat) (h : i < l.length) : (l.take (i + 1)).flatMap entS = (l.take i).flatMap entS ++ entS l[i] := by
  rw [List.take_succ_eq_append_getElem h, List.flatMap_append]; simp
theorem flat_len_take (l : List Sp) (i : Nat) : ((l.take i).flatMap entS).length ≤ 9 * l.length := by rw [flat_len9]; simp; omega
/-- What is got, or 0. -/
def gS (s : List UInt8) (a w : Nat) : Int := ((getS s a w).1 : Int)
theorem gS_in {s : List UInt8} {a w : Nat} (h1 : 1 ≤ w) (h8 : w ≤ 8) (h : a + w ≤ s.length) : gS s a w = (leN ((s.drop a).take w) : Int) := by
  have hw : wid (w : Int) = true := wid_iff.2 ⟨by omega, by omega⟩
  rw [gS, getS, if_neg (by rw [hw]; simp), if_neg (by omega)]; simp
theorem leB_of {w : Nat} {x : List UInt8} (h : x.length = w) : leB w (leN x) = x := by rw [← h]; exact leB_leN x
theorem leN_of {w n : Nat} (h : n < 256 ^ w) : leN (leB w n) = n := by rw [leN_leB, Nat.mod_eq_of_lt h]
theorem gS_at {s x y z : List UInt8} {a w : Nat} (h1 : 1 ≤ w) (h8 : w ≤ 8) (hs : s = x ++ (y ++ z)) (hx : x.length = a) (hy : y.length = w) : gS s a w = (leN y : Int) := by
  rw [gS_in h1 h8 (by rw [hs, List.length_append, List.length_append]; omega), hs, List.drop_left' hx, List.take_left' hy]
def spAt (s : List UInt8) (a : Nat) : Sp := ⟨gS s a 2, gS s (a + 2) 4, if gS s (a + 8) 1 = 0 then -1 else gS s (a + 6) 2, gS s (a + 8) 1⟩
def genOf (s : List UInt8) : Int := gS s 0 5
/-- How many namespaces there are, by the length. -/
def manyOf (s : List UInt8) : Nat := min 8 ((s.length + 2) / 9)
def spacesOf (s : List UInt8) : List Sp := (List.range (manyOf s)).map fun i => spAt s (6 + 9 * i)
def readR (s : List UInt8) : Int × List Sp × Int := if mayR (genOf s) (spacesOf s) = true ∧ recS (genOf s) (spacesOf s) = s then (genOf s, spacesOf s, 0) else (0, [], 3)
theorem sp_at (g : Int) (l : List Sp) (i : Nat) (h : i < l.length) (ho : spaceB l[i] = true) : spAt (recS g l) (6 + 9 * i) = l[i] := by
  obtain ⟨⟨a1, a2⟩, ⟨b1, b2⟩, ⟨c1, c2⟩, d⟩ := spaceB_iff.1 ho
  have hd : (recS g l).drop (6 + 9 * i) = entS l[i] ++ (l.drop (i + 1)).flatMap entS := by
    rw [recS, ← List.drop_drop, List.drop_left' (hdrS_len _ _), flat_drop9, List.drop_eq_getElem_cons h, List.flatMap_cons]
  have hr : recS g l = (recS g l).take (6 + 9 * i) ++ (entS l[i] ++ (l.drop (i + 1)).flatMap entS) := by rw [← hd, List.take_append_drop]
  have ht : ((recS g l).take (6 + 9 * i)).length = 6 + 9 * i := by rw [List.length_take, recS_len]; omega
  generalize (recS g l).take (6 + 9 * i) = X at hr ht
  generalize (l.drop (i + 1)).flatMap entS = Y at hr
  have l1 : (leB 2 l[i].id.toNat).length = 2 := leB_len _ _
  have l2 : (leB 4 l[i].sz.toNat).length = 4 := leB_len _ _
  have l3 : (leB 2 l[i].tp.toNat).length = 2 := leB_len _ _
  have l4 : (leB 1 l[i].hi.toNat).length = 1 := leB_len _ _
  have n1 : leN (leB 2 l[i].id.toNat) = l[i].id.toNat := leN_of (by show l[i].id.toNat < 65536; omega)
  have n2 : leN (leB 4 l[i].sz.toNat) = l[i].sz.toNat := leN_of (by show l[i].sz.toNat < 4294967296; omega)
  have n3 : leN (leB 2 l[i].tp.toNat) = l[i].tp.toNat := leN_of (by show l[i].tp.toNat < 65536; omega)
  have n4 : leN (leB 1 l[i].hi.toNat) = l[i].hi.toNat := leN_of (by show l[i].hi.toNat < 256; omega)
  unfold entS at hr
  generalize leB 2 l[i].id.toNat = y1 at *
  generalize leB 4 l[i].sz.toNat = y2 at *
  generalize leB 2 l[i].tp.toNat = y3 at *
  generalize leB 1 l[i].hi.toNat = y4 at *
  have g1 : gS (recS g l) (6 + 9 * i) 2 = (leN y1 : Int) := gS_at (by decide) (by decide) (hr.trans (by simp [List.append_assoc]; rfl)) ht l1
  have g2 : gS (recS g l) (6 + 9 * i + 2) 4 = (leN y2 : Int) := gS_at (x := X ++ y1) (z := y3 ++ (y4 ++ Y)) (by decide) (by decide) (hr.trans (by simp [List.append_assoc])) (by simp [ht, l1]) l2
  have g3 : gS (recS g l) (6 + 9 * i + 6) 2 = (leN y3 : Int) := gS_at (x := X ++ y1 ++ y2) (z := y4 ++ Y) (by decide) (by decide) (hr.trans (by simp [List.append_assoc])) (by simp [ht, l1, l2]) l3
  have g4 : gS (recS g l) (6 + 9 * i + 8) 1 = (leN y4 : Int) := gS_at (x := X ++ y1 ++ y2 ++ y3) (z := Y) (by decide) (by decide) (hr.trans (by simp [List.append_assoc])) (by simp [ht, l1, l2, l3]) l4
  unfold spAt
  rw [g1, g2, g3, g4, n1, n2, n3, n4]
  generalize l[i] = e at *
  cases e
  simp only [] at *
  congr 1
  · omega
  · omega
  · rcases d with ⟨d1, d2⟩ | ⟨d1, d2, d3⟩
    · subst d1; simp [d2]
    · rw [if_neg (by omega)]; omega
  · omega
theorem gen_of (g : Int) (l : List Sp) (h : 0 ≤ g ∧ g ≤ 1099511627775) : genOf (recS g l) = g := by
  have := gS_at (s := recS g l) (x := []) (y := leB 5 g.toNat) (z := leB 1 l.length ++ l.flatMap entS) (a := 0) (w := 5) (by decide) (by decide) (by simp [recS, hdrS]) rfl (leB_len _ _)
  rw [genOf, this, leN_of (by show g.toNat < 1099511627776; omega)]; omega
theorem spaces_of {g : Int} {l : List Sp} (h : mayR g l = true) : spacesOf (recS g l) = l := by
  obtain ⟨_, h2, h3⟩ := mayR_iff.1 h
  have hm : manyOf (recS g l) = l.length := by rw [manyOf, recS_len]; omega
  rw [spacesOf, hm]
  apply List.ext_getElem (by simp)
  intro i h4 h5
  rw [List.getElem_map, List.getElem_range]
  exact sp_at g l i h5 ((lkB_at.1 h3).1 i h5)
/-- What is written is read as it was. -/
theorem rread_write {g : Int} {l : List Sp} (h : mayR g l = true) : readR (recS g l) = (g, l, 0) := by
  have h1 := gen_of g l (mayR_iff.1 h).1
  have h2 := spaces_of h
  rw [readR, h1, h2, if_pos ⟨h, rfl⟩]
theorem rwrite_read {s : List UInt8} (h : (readR s).2.2 = 0) : mayR (readR s).1 (readR s).2.1 = true ∧ recS (readR s).1 (readR s).2.1 = s := by
  unfold readR at h ⊢
  split at h
  · rename_i hh; rw [if_pos hh]; exact hh
  · simp at h
theorem rread_bad {s : List UInt8} (h : (readR s).2.2 ≠ 0) : readR s = (0, [], 3) := by
  unfold readR at h ⊢
  split
  · rename_i hh; rw [if_pos hh] at h; exact absurd rfl h
  · rfl
theorem rec_inj {g h : Int} {l m : List Sp} (h1 : mayR g l = true) (h2 : mayR h m = true) (e : recS g l = recS h m) : g = h ∧ l = m := by
  have a := rread_write h1
  rw [e, rread_write h2] at a
  simp only [Prod.mk.injEq, and_true] at a
  exact ⟨a.1.symm, a.2.symm⟩
theorem rwrite_len (g : Int) (l : List Sp) : (writeR g l).1.length ≤ 78 := by
  rw [writeR]; split
  · rename_i h; have := (mayR_iff.1 h).2.1; rw [recS_len]; omega
  · simp
theorem row_ent (s : Sp) (h : spaceB s = true) : rowS [s.id.toNat, s.sz.toNat, s.tp.toNat, s.hi.toNat] [2, 4, 2, 1] = (entS s, 0) := by
  obtain ⟨⟨a1, a2⟩, ⟨b1, b2⟩, ⟨c1, c2⟩, d⟩ := spaceB_iff.1 h
  have b0 : badW [2, 4, 2, 1] = false := by decide
  have k1 : s.id.toNat < 256 ^ (2 : Int).toNat := by show s.id.toNat < 65536; omega
  have k2 : s.sz.toNat < 256 ^ (4 : Int).toNat := by show s.sz.toNat < 4294967296; omega
  have k3 : s.tp.toNat < 256 ^ (2 : Int).toNat := by show s.tp.toNat < 65536; omega
  have k4 : s.hi.toNat < 256 ^ (1 : Int).toNat := by show s.hi.toNat < 256; omega
  rw [rowS_ok rfl b0, goR_one k1, goR_one k2, goR_one k3, goR_one k4, goR_nil]
  simp [entS, List.append_assoc]
theorem row_hdr (g : Int) (n : Nat) (h : 0 ≤ g ∧ g ≤ 1099511627775) (hn : n ≤ 8) : rowS [g.toNat, n] [5, 1] = (hdrS g n, 0) := by
  have b0 : badW [5, 1] = false := by decide
  have k1 : g.toNat < 256 ^ (5 : Int).toNat := by show g.toNat < 1099511627776; omega
  have k2 : n < 256 ^ (1 : Int).toNat := by show n < 256; omega
  rw [rowS_ok rfl b0, goR_one k1, goR_one k2, goR_nil]
  simp [hdrS]
/- taking -/
theorem take_hdr (s : List UInt8) (h : 6 ≤ s.length) : takeS s [5, 1] = ([leN (s.take 5), leN ((s.drop 5).take 1)], s.drop 6, 0) := by
  have b1 : badW [5, 1] = false := by decide
  rw [takeS_ok b1, goOn_one (by simp; omega), goOn_one (by simp; omega), goOn_nil]
  simp [List.drop_drop]
theorem take_hdr_no (s : List UInt8) (h : s.length < 6) : takeS s [5, 1] = ([], [], 5) := by
  have b1 : badW [5, 1] = false := by decide
  rw [takeS_ok b1]
  by_cases h5 : s.length < 5
  · rw [goOn_short (by simpa using h5)]
  · rw [goOn_one (by simpa using h5), goOn_short (by simp; omega)]
theorem take_ent (s : List UInt8) (h : 9 ≤ s.length) : takeS s [2, 4, 2, 1] = ([leN (s.take 2), leN ((s.drop 2).take 4), leN ((s.drop 6).take 2), leN ((s.drop 8).take 1)], s.drop 9, 0) := by
  have b1 : badW [2, 4, 2, 1] = false := by decide
  rw [takeS_ok b1, goOn_one (by simp; omega), goOn_one (by simp; omega), goOn_one (by simp; omega), goOn_one (by simp; omega), goOn_nil]
  simp [List.drop_drop]
theorem take_ent_no (s : List UInt8) (h : s.length < 9) : takeS s [2, 4, 2, 1] = ([], [], 5) := by
  have b1 : badW [2, 4, 2, 1] = false := by decide
  rw [takeS_ok b1]
  by_cases h2 : s.length < 2
  · rw [goOn_short (by simpa using h2)]
  · rw [goOn_one (by simpa using h2)]
    by_cases h6 : s.length < 6
    · rw [goOn_short (by simp; omega)]
    · rw [goOn_one (by simp; omega)]
      by_cases h8 : s.length < 8
      · rw [goOn_short (by simp; omega)]
      · rw [goOn_one (by simp; omega), goOn_short (by simp; omega)]
end Go.Proofs.Ytklniadgdbjcpaa.Aw
