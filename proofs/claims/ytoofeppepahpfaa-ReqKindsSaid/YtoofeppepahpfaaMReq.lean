/-
  Requests and answers as bytes. Plain Lean.
-/
import Derived.Test.YtoofeppepahpfaaMCrc
import Derived.Test.YtoofeppepahpfaaMRec
namespace Go.Proofs.Ytoofeppepahpfaa.Aw
open Go.RowKit

def inS (n m : Int) : Bool := decide (0 ≤ n) && decide (n ≤ m)
theorem inS_iff {n m : Int} : inS n m = true ↔ 0 ≤ n ∧ n ≤ m := by simp [inS]
theorem len512 (l : List UInt8) : decide ((l.length : Int) ≤ 512) = decide (l.length ≤ 512) := by rw [Bool.eq_iff_iff]; simp; omega
theorem seal_inj {a b : List UInt8} (h : sealS a = sealS b) : a = b := by
  have h1 := open_seal a
  rw [h, open_seal] at h1
  exact (Prod.mk.inj h1).1.symm
theorem open_zero {s : List UInt8} (h : (openS s).2 = 0) : sealS (openS s).1 = s := by
  unfold openS at h ⊢
  split at h
  · simp at h
  · rename_i h4
    split at h
    · rename_i h5
      rw [if_neg h4, if_pos h5]; exact h5
    · simp at h
theorem open_len (s : List UInt8) : (openS s).1.length ≤ s.length := by
  unfold openS; split
  · simp
  · split
    · simp
    · simp

/- requests -/
structure Rq where
  op : Int
  id : Int
  fr : Int
  n : Int
  da : List UInt8
deriving DecidableEq
def rowR (q : Rq) : List PV := [.int .i64 q.op, .int .i64 q.id, .int .i64 q.fr, .int .i64 q.n, .str q.da]
def zeroR : Rq := ⟨0, 0, 0, 0, []⟩
/-- What an Op names of a request. -/
def namedS (q : Rq) : Rq × Bool :=
  if q.op = 5 ∨ q.op = 6 ∨ q.op = 7 then (⟨q.op, q.id, q.fr, q.n, []⟩, true) else
  if q.op = 1 ∨ q.op = 2 then (⟨q.op, q.id, 0, q.n, []⟩, true) else
  if q.op = 3 ∨ q.op = 9 then (⟨q.op, q.id, 0, 0, []⟩, true) else
  if q.op = 8 ∨ q.op = 10 then (⟨q.op, 0, 0, 0, []⟩, true) else
  if q.op = 4 then (⟨q.op, q.id, q.fr, 0, q.da⟩, true) else (zeroR, false)
def mayR (q : Rq) : Bool := (namedS q).2 && (decide ((namedS q).1 = q) && (inS q.id 4294967295 && (inS q.fr 4294967295 && (inS q.n 4294967295 && decide (q.da.length ≤ 512)))))
theorem mayR_iff {q : Rq} : mayR q = true ↔ (namedS q).2 = true ∧ (namedS q).1 = q ∧ (0 ≤ q.id ∧ q.id ≤ 4294967295) ∧ (0 ≤ q.fr ∧ q.fr ≤ 4294967295) ∧ (0 ≤ q.n ∧ q.n ≤ 4294967295) ∧ q.da.length ≤ 512 := by
  simp only [mayR, Bool.and_eq_true, decide_eq_true_eq, inS_iff]
theorem named_op {q : Rq} (h : (namedS q).2 = true) : 1 ≤ q.op ∧ q.op ≤ 10 := by
  unfold namedS at h
  split at h
  · omega
  · split at h
    · omega
    · split at h
      · omega
      · split at h
        · omega
        · split at h
          · omega
          · simp at h
theorem named_same {q : Rq} : ((namedS q).2 = true ∧ (namedS q).1 = q) ↔ (1 ≤ q.op ∧ q.op ≤ 10) ∧ (q.da = [] ∨ q.op = 4) ∧ (q.fr = 0 ∨ (4 ≤ q.op ∧ q.op ≤ 7)) ∧ (q.id = 0 ∨ (q.op ≠ 8 ∧ q.op ≠ 10)) ∧ (q.n = 0 ∨ q.op = 1 ∨ q.op = 2 ∨ (5 ≤ q.op ∧ q.op ≤ 7)) := by
  obtain ⟨op, id, fr, n, da⟩ := q
  unfold namedS
  simp only []
  split
  · simp only [Rq.mk.injEq, true_and, and_true]
    constructor
    · rintro rfl; exact ⟨by omega, .inl rfl, by omega, by omega, by omega⟩
    · rintro ⟨_, h | h, _⟩
      · exact h.symm
      · omega
  · split
    · simp only [Rq.mk.injEq, true_and, and_true]
      constructor
      · rintro ⟨rfl, rfl⟩; exact ⟨by omega, .inl rfl, by omega, by omega, by omega⟩
      · rintro ⟨_, h | h, h2, _⟩
        · exact ⟨by omega, h.symm⟩
        · omega
    · split
      · simp only [Rq.mk.injEq, true_and, and_true]
        constructor
        · rintro ⟨rfl, rfl, rfl⟩; exact ⟨by omega, .inl rfl, by omega, by omega, by omega⟩
        · rintro ⟨_, h | h, h2, _, h3⟩
          · exact ⟨by omega, by omega, h.symm⟩
          · omega
      · split
        · simp only [Rq.mk.injEq, true_and, and_true]
          constructor
          · rintro ⟨rfl, rfl, rfl, rfl⟩; exact ⟨by omega, .inl rfl, by omega, by omega, by omega⟩
          · rintro ⟨_, h | h, h2, h4, h3⟩
            · exact ⟨by omega, by omega, by omega, h.symm⟩
            · omega
        · split
          · simp only [Rq.mk.injEq, true_and, and_true]
            constructor
            · rintro rfl; exact ⟨by omega, .inr (by omega), by omega, by omega, by omega⟩
            · rintro ⟨_, _, _, _, h3⟩; omega
          · constructor
            · rintro ⟨h, _⟩; cases h
            · rintro ⟨h, _⟩; omega
theorem mayR_plain (q : Rq) : mayR q = true ↔ ((1 ≤ q.op ∧ q.op ≤ 10) ∧ (0 ≤ q.id ∧ q.id ≤ 4294967295) ∧ (0 ≤ q.fr ∧ q.fr ≤ 4294967295) ∧ (0 ≤ q.n ∧ q.n ≤ 4294967295) ∧ q.da.length ≤ 512) ∧
    ((q.da = [] ∨ q.op = 4) ∧ (q.fr = 0 ∨ (4 ≤ q.op ∧ q.op ≤ 7)) ∧ (q.id = 0 ∨ (q.op ≠ 8 ∧ q.op ≠ 10))) ∧ (q.n = 0 ∨ q.op = 1 ∨ q.op = 2 ∨ (5 ≤ q.op ∧ q.op ≤ 7)) := by
  rw [mayR_iff, ← and_assoc, named_same]
  constructor
  · rintro ⟨⟨a, b, c, d, e⟩, f, g, h, i⟩; exact ⟨⟨a, f, g, h, i⟩, ⟨b, c, d⟩, e⟩
  · rintro ⟨⟨a, f, g, h, i⟩, ⟨b, c, d⟩, e⟩; exact ⟨⟨a, b, c, d, e⟩, f, g, h, i⟩
def headR (q : Rq) : List UInt8 := leB 1 q.op.toNat ++ (leB 4 q.id.toNat ++ (leB 4 q.fr.toNat ++ (leB 4 q.n.toNat ++ leB 2 q.da.length)))
def bodyR (q : Rq) : List UInt8 := headR q ++ q.da
def writeR (q : Rq) : List UInt8 × Int := if mayR q = true then (sealS (bodyR q), 0) else ([], 1)
theorem headR_len (q : Rq) : (headR q).length = 15 := by simp [headR, leB_len]
theorem bodyR_len (q : Rq) : (bodyR q).length = 15 + q.da.length := by simp [bodyR, headR_len]
def reqOf (t : List UInt8) : Rq := ⟨gS t 0 1, gS t 1 4, gS t 5 4, gS t 9 4, t.drop 15⟩
def readR (s : List UInt8) : Rq × Int :=
  if (openS s).2 ≠ 0 then (zeroR, (openS s).2) else
  if (openS s).1.length < 15 then (zeroR, 3) else
  if mayR (reqOf (openS s).1) = true ∧ bodyR (reqOf (openS s).1) = (openS s).1 then (reqOf (openS s).1, 0) else (zeroR, 3)
theorem row_req (q : Rq) (h : mayR q = true) : rowS [q.op.toNat, q.id.toNat, q.fr.toNat, q.n.toNat, q.da.length] [1, 4, 4, 4, 2] = (headR q, 0) := by
  obtain ⟨a, _, c, d, e, f⟩ := mayR_iff.1 h
  have ho := named_op a
  have b1 : badW [1, 4, 4, 4, 2] = false := by decide
  have k1 : q.op.toNat < 256 ^ (1 : Int).toNat := by show q.op.toNat < 256; omega
  have k2 : q.id.toNat < 256 ^ (4 : Int).toNat := by show q.id.toNat < 4294967296; omega
  have k3 : q.fr.toNat < 256 ^ (4 : Int).toNat := by show q.fr.toNat < 4294967296; omega
  have k4 : q.n.toNat < 256 ^ (4 : Int).toNat := by show q.n.toNat < 4294967296; omega
  have k5 : q.da.length < 256 ^ (2 : Int).toNat := by show q.da.length < 65536; omega
  rw [rowS_ok rfl b1, goR_one k1, goR_one k2, goR_one k3, goR_one k4, goR_one k5, goR_nil]
  simp [headR, List.append_assoc]
theorem req_body (q : Rq) (h : mayR q = true) : reqOf (bodyR q) = q := by
  obtain ⟨a, _, c, d, e, f⟩ := mayR_iff.1 h
  have ho := named_op a
  have l1 : (leB 1 q.op.toNat).length = 1 := leB_len _ _
  have l2 : (leB 4 q.id.toNat).length = 4 := leB_len _ _
  have l3 : (leB 4 q.fr.toNat).length = 4 := leB_len _ _
  have l4 : (leB 4 q.n.toNat).length = 4 := leB_len _ _
  have l5 : (leB 2 q.da.length).length = 2 := leB_len _ _
  have n1 : leN (leB 1 q.op.toNat) = q.op.toNat := leN_of (by show q.op.toNat < 256; omega)
  have n2 : leN (leB 4 q.id.toNat) = q.id.toNat := leN_of (by show q.id.toNat < 4294967296; omega)
  have n3 : leN (leB 4 q.fr.toNat) = q.fr.toNat := leN_of (by show q.fr.toNat < 4294967296; omega)
  have n4 : leN (leB 4 q.n.toNat) = q.n.toNat := leN_of (by show q.n.toNat < 4294967296; omega)
  unfold reqOf bodyR headR
  generalize leB 1 q.op.toNat = x1 at *
  generalize leB 4 q.id.toNat = x2 at *
  generalize leB 4 q.fr.toNat = x3 at *
  generalize leB 4 q.n.toNat = x4 at *
  generalize leB 2 q.da.length = x5 at *
  have hb : x1 ++ (x2 ++ (x3 ++ (x4 ++ x5))) ++ q.da = x1 ++ (x2 ++ (x3 ++ (x4 ++ (x5 ++ q.da)))) := by simp [List.append_assoc]
  rw [hb]
  have g1 : gS (x1 ++ (x2 ++ (x3 ++ (x4 ++ (x5 ++ q.da))))) 0 1 = (leN x1 : Int) := gS_at (x := []) (by decide) (by decide) rfl rfl l1
  have g2 : gS (x1 ++ (x2 ++ (x3 ++ (x4 ++ (x5 ++ q.da))))) 1 4 = (leN x2 : Int) := gS_at (by decide) (by decide) rfl l1 l2
  have g3 : gS (x1 ++ (x2 ++ (x3 ++ (x4 ++ (x5 ++ q.da))))) 5 4 = (leN x3 : Int) := gS_at (x := x1 ++ x2) (z := x4 ++ (x5 ++ q.da)) (by decide) (by decide) (by simp [List.append_assoc]) (by simp [l1, l2]) l3
  have g4 : gS (x1 ++ (x2 ++ (x3 ++ (x4 ++ (x5 ++ q.da))))) 9 4 = (leN x4 : Int) := gS_at (x := x1 ++ x2 ++ x3) (z := x5 ++ q.da) (by decide) (by decide) (by simp [List.append_assoc]) (by simp [l1, l2, l3]) l4
  have g5 : (x1 ++ (x2 ++ (x3 ++ (x4 ++ (x5 ++ q.da))))).drop 15 = q.da := by
    rw [show x1 ++ (x2 ++ (x3 ++ (x4 ++ (x5 ++ q.da)))) = (x1 ++ x2 ++ x3 ++ x4 ++ x5) ++ q.da by simp [List.append_assoc]]
    exact List.drop_left' (by simp [l1, l2, l3, l4, l5])
  rw [g1, g2, g3, g4, g5, n1, n2, n3, n4]
  cases q
  simp only [] at *
  congr 1 <;> omega
theorem read_writeR (q : Rq) (h : mayR q = true) : readR (sealS (bodyR q)) = (q, 0) := by
  rw [readR, open_seal]
  simp only [ne_eq, not_true_eq_false, if_false]
  rw [if_neg (by rw [bodyR_len]; omega), req_body q h, if_pos ⟨h, rfl⟩]
theorem write_readR {s : List UInt8} (h : (readR s).2 = 0) : mayR (readR s).1 = true ∧ writeR (readR s).1 = (s, 0) := by
  unfold readR at h ⊢
  split at h
  · rename_i h1; exact absurd h h1
  · rename_i h1
    simp only [ne_eq, Classical.not_not] at h1
    rw [if_neg (by simpa using h1)]
    split at h
    · simp at h
    · rename_i h2
      rw [if_neg h2]
      split at h
      · rename_i h3
        rw [if_pos h3]
        refine ⟨h3.1, ?_⟩
        rw [writeR, if_pos h3.1, h3.2, open_zero h1]
      · simp at h
theorem readR_err {s : List UInt8} (h : (openS s).2 ≠ 0) : readR s = (zeroR, (openS s).2) := by rw [readR, if_pos h]
theorem readR_short {s : List UInt8} (h : (openS s).2 = 0) (h2 : (openS s).1.length < 15) : readR s = (zeroR, 3) := by rw [readR, if_neg (by simpa using h), if_pos h2]
theorem readR_no {s : List UInt8} (h : (openS s).2 = 0) (h2 : ¬ (openS s).1.length < 15) (h3 : ¬ (mayR (reqOf (openS s).1) = true ∧ bodyR (reqOf (openS s).1) = (openS s).1)) : readR s = (zeroR, 3) := by
  rw [readR, if_neg (by simpa using h), if_neg h2, if_neg h3]
theorem readR_yes {s : List UInt8} (h : (openS s).2 = 0) (h2 : ¬ (openS s).1.length < 15) (h3 : mayR (reqOf (openS s).1) = true) (h4 : bodyR (reqOf (openS s).1) = (openS s).1) : readR s = (reqOf (openS s).1, 0) := by
  rw [readR, if_neg (by simpa using h), if_neg h2, if_pos ⟨h3, h4⟩]
theorem readR_da (s : List UInt8) : (readR s).1.da.length ≤ s.length := by
  have := open_len s
  unfold readR
  split
  · simp [zeroR]
  · split
    · simp [zeroR]
    · split
      · simp [reqOf]; omega
      · simp [zeroR]
theorem writeR_len (q : Rq) : (writeR q).1.length ≤ 531 := by
  rw [writeR]
  split
  · rename_i h
    have := (mayR_iff.1 h).2.2.2.2.2
    rw [seal_len, bodyR_len]; omega
  · simp

/- answers -/
structure Rp where
  er : Int
  da : List UInt8
  sz : Int
  us : Int
  ids : List Int
deriving DecidableEq
def rowA (a : Rp) : List PV := [.int .i64 a.er, .str a.da, .int .i64 a.sz, .int .i64 a.us, .slc (rowsZ .i64 a.ids)]
def zeroA : Rp := ⟨0, [], 0, 0, []⟩
def idB (x : Int) : Bool := decide (1 ≤ x) && decide (x ≤ 65535)
theorem idB_iff {x : Int} : idB x = true ↔ 1 ≤ x ∧ x ≤ 65535 := by simp [idB]
def ltB (a b : Int) : Bool := decide (a < b)
def idsB (l : List Int) : Bool := decide (l.length ≤ 8) && lkB idB ltB l
def mayA (a : Rp) : Bool := inS a.er 255 && (inS a.sz 4294967295 && (inS a.us 4294967295 && (decide (a.da.length ≤ 512) && idsB a.ids)))
theorem mayA_iff {a : Rp} : mayA a = true ↔ (0 ≤ a.er ∧ a.er ≤ 255) ∧ (0 ≤ a.sz ∧ a.sz ≤ 4294967295) ∧ (0 ≤ a.us ∧ a.us ≤ 4294967295) ∧ a.da.length ≤ 512 ∧ a.ids.length ≤ 8 ∧ lkB idB ltB a.ids = true := by
  simp only [mayA, idsB, Bool.and_eq_true, decide_eq_true_eq, inS_iff]
def e2 (x : Int) : List UInt8 := leB 2 x.toNat
def headA (a : Rp) : List UInt8 := leB 1 a.er.toNat ++ (leB 4 a.sz.toNat ++ (leB 4 a.us.toNat ++ (leB 2 a.da.length ++ leB 1 a.ids.length)))
def bodyA (a : Rp) : List UInt8 := headA a ++ (a.da ++ a.ids.flatMap e2)
def writeA (a : Rp) : List UInt8 × Int := if mayA a = true then (sealS (bodyA a), 0) else ([], 1)
theorem e2_len (x : Int) : (e2 x).length = 2 := leB_len _ _
theorem headA_len (a : Rp) : (headA a).length = 12 := by simp [headA, leB_len]
theorem flat2_len (l : List Int) : (l.flatMap e2).length = 2 * l.length := flatG_len e2_len l
theorem bodyA_len (a : Rp) : (bodyA a).length = 12 + a.da.length + 2 * a.ids.length := by rw [bodyA, List.length_append, List.length_append, headA_len, flat2_len]; omega
theorem flat2_drop : ∀ (l : List Int) (i : Nat), (l.flatMap e2).drop (2 * i) = (l.drop i).flatMap e2
  | l, 0 => by simp
  | [], i + 1 => by simp
  | x :: l, i + 1 => by
    rw [List.flatMap_cons, show 2 * (i + 1) = (e2 x).length + 2 * i by rw [e2_len]; omega, ← List.drop_drop, List.drop_left, flat2_drop l i, List.drop_succ_cons]
theorem flat2_take (l : List Int) (i : Nat) (h : i < l.length) : (l.take (i + 1)).flatMap e2 = (l.take i).flatMap e2 ++ e2 l[i] := by
  rw [List.take_succ_eq_append_getElem h, List.flatMap_append]; simp
/-- An answer with so many numbers. -/
def dOf (t : List UInt8) : Nat := (gS t 9 2).toNat
def idsN (t : List UInt8) (e n : Nat) : List Int := (List.range n).map fun j => gS t (e + 2 * j) 2
def ansN (t : List UInt8) (n : Nat) : Rp := ⟨gS t 0 1, (t.drop 12).take (dOf t), gS t 1 4, gS t 5 4, idsN t (12 + dOf t) n⟩
theorem idsN_len (t : List UInt8) (e n : Nat) : (idsN t e n).length = n := by simp [idsN]
theorem idsN_succ (t : List UInt8) (e n : Nat) : idsN t e (n + 1) = idsN t e n ++ [gS t (e + 2 * n) 2] := by simp [idsN, List.range_succ]
theorem idsN_zero (t : List UInt8) (e : Nat) : idsN t e 0 = [] := rfl
def manyA (t : List UInt8) : Nat := min 9 ((t.length - (12 + dOf t) + 1) / 2)
def goodA (t : List UInt8) (n : Nat) : Prop := mayA (ansN t n) = true ∧ bodyA (ansN t n) = t
instance (t : List UInt8) (n : Nat) : Decidable (goodA t n) := by unfold goodA; infer_instance
def readA (s : List UInt8) : Rp × Int :=
  if (openS s).2 ≠ 0 then (zeroA, (openS s).2) else
  if (openS s).1.length < 12 + dOf (openS s).1 then (zeroA, 3) else
  if goodA (openS s).1 (manyA (openS s).1) then (ansN (openS s).1 (manyA (openS s).1), 0) else (zeroA, 3)
theorem goodA_shape {t : List UInt8} {n : Nat} (hd : 12 + dOf t ≤ t.length) (h : goodA t n) : n ≤ 8 ∧ t.length = 12 + dOf t + 2 * n ∧ gS t 11 1 = (n : Int) := by
  obtain ⟨h1, h2⟩ := h
  have h8 : n ≤ 8 := by have := (mayA_iff.1 h1).2.2.2.2.1; rwa [ansN, idsN_len] at this
  refine ⟨h8, ?_, ?_⟩
  · have hl := bodyA_len (ansN t n)
    rw [h2, ansN, idsN_len] at hl
    rw [hl]; simp; omega
  · have e : gS t 11 1 = (leN (leB 1 n) : Int) := by
      refine gS_at (x := leB 1 (ansN t n).er.toNat ++ (leB 4 (ansN t n).sz.toNat ++ (leB 4 (ansN t n).us.toNat ++ leB 2 (ansN t n).da.length))) (z := (ansN t n).da ++ (ansN t n).ids.flatMap e2) (by decide) (by decide) ?_ (by simp [leB_len]) (leB_len _ _)
      conv => lhs; rw [← h2]
      rw [bodyA, headA, show (ansN t n).ids.length = n from idsN_len _ _ _]
      simp [List.append_assoc]
    rw [e, leN_of (by show n < 256; omega)]
theorem goodA_many {t : List UInt8} {n : Nat} (hd : 12 + dOf t ≤ t.length) (h : goodA t n) : manyA t = n ∧ gS t 11 1 = (n : Int) := by
  obtain ⟨h1, h2, h3⟩ := goodA_shape hd h
  refine ⟨?_, h3⟩
  rw [manyA, h2]; omega
theorem ans_body (a : Rp) (h : mayA a = true) : dOf (bodyA a) = a.da.length ∧ ansN (bodyA a) a.ids.length = a := by
  obtain ⟨⟨a1, a2⟩, ⟨b1, b2⟩, ⟨c1, c2⟩, d, e8, hk⟩ := mayA_iff.1 h
  have hone := lkB_one hk
  have l1 : (leB 1 a.er.toNat).length = 1 := leB_len _ _
  have l2 : (leB 4 a.sz.toNat).length = 4 := leB_len _ _
  have l3 : (leB 4 a.us.toNat).length = 4 := leB_len _ _
  have l4 : (leB 2 a.da.length).length = 2 := leB_len _ _
  have l5 : (leB 1 a.ids.length).length = 1 := leB_len _ _
  have n1 : leN (leB 1 a.er.toNat) = a.er.toNat := leN_of (by show a.er.toNat < 256; omega)
  have n2 : leN (leB 4 a.sz.toNat) = a.sz.toNat := leN_of (by show a.sz.toNat < 4294967296; omega)
  have n3 : leN (leB 4 a.us.toNat) = a.us.toNat := leN_of (by show a.us.toNat < 4294967296; omega)
  have n4 : leN (leB 2 a.da.length) = a.da.length := leN_of (by show a.da.length < 65536; omega)
  have hb : bodyA a = leB 1 a.er.toNat ++ (leB 4 a.sz.toNat ++ (leB 4 a.us.toNat ++ (leB 2 a.da.length ++ (leB 1 a.ids.length ++ (a.da ++ a.ids.flatMap e2))))) := by simp [bodyA, headA, List.append_assoc]
  have hhl := headA_len a
  have hdrop : (bodyA a).drop 12 = a.da ++ a.ids.flatMap e2 := by rw [bodyA, List.drop_left' hhl]
  have hids : ∀ j (hj : j < a.ids.length), gS (bodyA a) (12 + a.da.length + 2 * j) 2 = a.ids[j] := by
    intro j hj
    have hx := idB_iff.1 (hone _ (List.getElem_mem hj))
    have hp := flat2_drop a.ids j
    rw [List.drop_eq_getElem_cons hj, List.flatMap_cons] at hp
    rw [gS_at (x := headA a ++ (a.da ++ (a.ids.flatMap e2).take (2 * j))) (y := e2 a.ids[j]) (z := (a.ids.drop (j + 1)).flatMap e2) (by decide) (by decide) ?_ ?_ (e2_len _)]
    · rw [e2, leN_of (by show a.ids[j].toNat < 65536; omega)]; omega
    · rw [← hp, bodyA, List.append_assoc, List.append_assoc, List.take_append_drop]
    · rw [List.length_append, List.length_append, hhl, List.length_take, flat2_len]; omega
  have g1 : gS (bodyA a) 0 1 = (leN (leB 1 a.er.toNat) : Int) := gS_at (x := []) (by decide) (by decide) hb rfl l1
  have g2 : gS (bodyA a) 1 4 = (leN (leB 4 a.sz.toNat) : Int) := gS_at (by decide) (by decide) hb l1 l2
  generalize leB 1 a.er.toNat = x1 at *
  generalize leB 4 a.sz.toNat = x2 at *
  have g3 : gS (bodyA a) 5 4 = (leN (leB 4 a.us.toNat) : Int) := gS_at (x := x1 ++ x2) (z := leB 2 a.da.length ++ (leB 1 a.ids.length ++ (a.da ++ a.ids.flatMap e2))) (by decide) (by decide) (hb.trans (by simp only [List.append_assoc])) (by simp [l1, l2]) l3
  generalize leB 4 a.us.toNat = x3 at *
  have g4 : gS (bodyA a) 9 2 = (leN (leB 2 a.da.length) : Int) := gS_at (x := x1 ++ x2 ++ x3) (z := leB 1 a.ids.length ++ (a.da ++ a.ids.flatMap e2)) (by decide) (by decide) (hb.trans (by simp only [List.append_assoc])) (by simp [l1, l2, l3]) l4
  have hd : dOf (bodyA a) = a.da.length := by rw [dOf, g4, n4]; rfl
  refine ⟨hd, ?_⟩
  unfold ansN
  rw [hd, hdrop, List.take_left' rfl, g1, g2, g3, n1, n2, n3]
  have hi : idsN (bodyA a) (12 + a.da.length) a.ids.length = a.ids := by
    refine List.ext_getElem (by simp [idsN]) fun j h1 h2 => ?_
    simp only [idsN, List.getElem_map, List.getElem_range]
    exact hids j h2
  rw [hi]
  cases a
  simp only [] at *
  congr 1 <;> omega
theorem read_writeA (a : Rp) (h : mayA a = true) : readA (sealS (bodyA a)) = (a, 0) := by
  obtain ⟨h1, h2⟩ := ans_body a h
  have hl := bodyA_len a
  have hg : goodA (bodyA a) a.ids.length := by rw [goodA, h2]; exact ⟨h, rfl⟩
  have hm := (goodA_many (by rw [h1]; omega) hg).1
  rw [readA, open_seal]
  simp only [ne_eq, not_true_eq_false, if_false]
  rw [if_neg (by rw [h1]; omega), hm, if_pos hg, h2]
theorem write_readA {s : List UInt8} (h : (readA s).2 = 0) : mayA (readA s).1 = true ∧ writeA (readA s).1 = (s, 0) := by
  unfold readA at h ⊢
  split at h
  · rename_i h1; exact absurd h h1
  · rename_i h1
    simp only [ne_eq, Classical.not_not] at h1
    rw [if_neg (by simpa using h1)]
    split at h
    · simp at h
    · rename_i h2
      rw [if_neg h2]
      split at h
      · rename_i h3
        rw [if_pos h3]
        refine ⟨h3.1, ?_⟩
        rw [writeA, if_pos h3.1, h3.2, open_zero h1]
      · simp at h
theorem readA_err {s : List UInt8} (h : (openS s).2 ≠ 0) : readA s = (zeroA, (openS s).2) := by rw [readA, if_pos h]
theorem readA_short {s : List UInt8} (h : (openS s).2 = 0) (h2 : (openS s).1.length < 12 + dOf (openS s).1) : readA s = (zeroA, 3) := by rw [readA, if_neg (by simpa using h), if_pos h2]
theorem readA_no {s : List UInt8} (h : (openS s).2 = 0) (h2 : ¬ (openS s).1.length < 12 + dOf (openS s).1) (h3 : ¬ goodA (openS s).1 (manyA (openS s).1)) : readA s = (zeroA, 3) := by
  rw [readA, if_neg (by simpa using h), if_neg h2, if_neg h3]
theorem readA_yes {s : List UInt8} (h : (openS s).2 = 0) (h2 : ¬ (openS s).1.length < 12 + dOf (openS s).1) {n : Nat} (h3 : goodA (openS s).1 n) : readA s = (ansN (openS s).1 n, 0) := by
  rw [readA, if_neg (by simpa using h), if_neg h2, (goodA_many (by omega) h3).1, if_pos h3]
theorem readA_small (s : List UInt8) : (readA s).1.da.length ≤ s.length ∧ (readA s).1.ids.length ≤ 9 := by
  have := open_len s
  unfold readA
  split
  · simp [zeroA]
  · split
    · simp [zeroA]
    · split
      · simp only [ansN, idsN_len, List.length_take, List.length_drop, manyA]; omega
      · simp [zeroA]
theorem writeA_len (a : Rp) : (writeA a).1.length ≤ 544 := by
  rw [writeA]
  split
  · rename_i h
    have := (mayA_iff.1 h).2.2.2
    rw [seal_len, bodyA_len]; omega
  · simp
end Go.Proofs.Ytoofeppepahpfaa.Aw
