/-
  Bytes that say how many things there are, and each thing in as many bytes. Plain Lean.
-/
import Derived.Test.YtlkpceacmfndlaaMLink
import Derived.Test.YtlkpceacmfndlaaPRow
namespace Go.Proofs.Ytlkpceacmfndlaa.Aw
open Go.RowKit

/-- What is got, or 0. -/
def gS (s : List UInt8) (a w : Nat) : Int := ((getS s a w).1 : Int)
theorem gS_in {s : List UInt8} {a w : Nat} (h1 : 1 ≤ w) (h8 : w ≤ 8) (h : a + w ≤ s.length) : gS s a w = (leN ((s.drop a).take w) : Int) := by
  have hw : wid (w : Int) = true := wid_iff.2 ⟨by omega, by omega⟩
  rw [gS, getS, if_neg (by rw [hw]; simp), if_neg (by omega)]; simp
theorem leB_of {w : Nat} {x : List UInt8} (h : x.length = w) : leB w (leN x) = x := by rw [← h]; exact leB_leN x
theorem leN_of {w n : Nat} (h : n < 256 ^ w) : leN (leB w n) = n := by rw [leN_leB, Nat.mod_eq_of_lt h]
theorem gS_at {s x y z : List UInt8} {a w : Nat} (h1 : 1 ≤ w) (h8 : w ≤ 8) (hs : s = x ++ (y ++ z)) (hx : x.length = a) (hy : y.length = w) : gS s a w = (leN y : Int) := by
  rw [gS_in h1 h8 (by rw [hs, List.length_append, List.length_append]; omega), hs, List.drop_left' hx, List.take_left' hy]
theorem binS_cat {a b : List UInt8} (h : a.length + b.length ≤ 9223372036854775807) : binS .add a b = some (.str (a ++ b)) := by rw [binS, if_pos h]
theorem wrapU_nat {n : Int} (h0 : 0 ≤ n) (h : n < 18446744073709551616) : IntKind.u64.wrap n = ((n.toNat : Nat) : Int) := by rw [wrap64]; omega
theorem drop_take_drop (t : List UInt8) (a w : Nat) : t.drop a = (t.drop a).take w ++ t.drop (a + w) := by
  rw [← List.drop_drop, List.take_append_drop]
theorem goOn_none : ∀ (ws : List Int) (s : List UInt8) (ns : List Nat), s.length < (ws.map Int.toNat).sum → goOn s ws ns = ([], [], 5)
  | [], s, ns, h => by simp at h
  | w :: ws, s, ns, h => by
    simp only [List.map_cons, List.sum_cons] at h
    by_cases hs : s.length < w.toNat
    · exact goOn_short hs
    · rw [goOn_one hs]
      exact goOn_none ws _ _ (by simp; omega)
theorem takeS_short {s : List UInt8} {ws : List Int} (hb : badW ws = false) (h : s.length < (ws.map Int.toNat).sum) : takeS s ws = ([], [], 5) := by
  rw [takeS_ok hb, goOn_none ws s [] h]

section
variable {α : Type}
def recG (ent : α → List UInt8) (l : List α) : List UInt8 := leB 1 l.length ++ l.flatMap ent
def outG (p : List UInt8 → Nat → α) (k : Nat) (s : List UInt8) (n : Nat) : List α := (List.range n).map fun j => p s (1 + k * j)
def manyG (k : Nat) (s : List UInt8) : Nat := min 8 ((s.length + k - 2) / k)
def goodG (ent : α → List UInt8) (p : List UInt8 → Nat → α) (k : Nat) (may : List α → Bool) (s : List UInt8) : Prop := may (outG p k s (manyG k s)) = true ∧ recG ent (outG p k s (manyG k s)) = s
instance (ent : α → List UInt8) (p : List UInt8 → Nat → α) (k : Nat) (may : List α → Bool) (s : List UInt8) : Decidable (goodG ent p k may s) := by unfold goodG; infer_instance
def readG (ent : α → List UInt8) (p : List UInt8 → Nat → α) (k : Nat) (may : List α → Bool) (s : List UInt8) : List α × Int := if goodG ent p k may s then (outG p k s (manyG k s), 0) else ([], 3)
def writeG (ent : α → List UInt8) (may : List α → Bool) (l : List α) : List UInt8 × Int := if may l = true then (recG ent l, 0) else ([], 1)
/-- The bytes up to a thing. -/
def accG (ent : α → List UInt8) (l : List α) (i : Nat) : List UInt8 := leB 1 l.length ++ (l.take i).flatMap ent
variable {ent : α → List UInt8} {p : List UInt8 → Nat → α} {k : Nat} {may : List α → Bool}
theorem outG_len (s : List UInt8) (n : Nat) : (outG p k s n).length = n := by simp [outG]
theorem outG_succ (s : List UInt8) (n : Nat) : outG p k s (n + 1) = outG p k s n ++ [p s (1 + k * n)] := by simp [outG, List.range_succ]
theorem accG_0 (l : List α) : accG ent l 0 = leB 1 l.length := by simp [accG]
theorem accG_all (l : List α) : accG ent l l.length = recG ent l := by simp [accG, recG]
theorem accG_succ (l : List α) (i : Nat) (h : i < l.length) : accG ent l (i + 1) = accG ent l i ++ ent l[i] := by
  rw [accG, List.take_succ_eq_append_getElem h, List.flatMap_append, accG, List.append_assoc]; simp
theorem flatG_len (hent : ∀ x, (ent x).length = k) : ∀ l : List α, (l.flatMap ent).length = k * l.length
  | [] => by simp
  | x :: l => by rw [List.flatMap_cons, List.length_append, hent, flatG_len hent l, List.length_cons, Nat.mul_add]; omega
theorem accG_len (hent : ∀ x, (ent x).length = k) (l : List α) (i : Nat) (h : i ≤ l.length) : (accG ent l i).length = 1 + k * i := by
  rw [accG, List.length_append, flatG_len hent, leB_len, List.length_take, Nat.min_eq_left h]
theorem recG_len (hent : ∀ x, (ent x).length = k) (l : List α) : (recG ent l).length = 1 + k * l.length := by
  rw [recG, List.length_append, flatG_len hent, leB_len]
theorem many_eq (hk : 0 < k) {s : List UInt8} {n : Nat} (h8 : n ≤ 8) (hl : s.length = 1 + k * n) : manyG k s = n := by
  have : (s.length + k - 2) / k = n := by
    rw [hl]
    apply Nat.div_eq_of_lt_le
    · rw [Nat.mul_comm]; omega
    · rw [Nat.add_mul, Nat.mul_comm n k]; omega
  rw [manyG, this]; omega
theorem readG_no {s : List UInt8} (h : ¬ goodG ent p k may s) : readG ent p k may s = ([], 3) := by rw [readG, if_neg h]
theorem readG_yes {s : List UInt8} (h : goodG ent p k may s) : readG ent p k may s = (outG p k s (manyG k s), 0) := by rw [readG, if_pos h]
theorem readG_len (s : List UInt8) : (readG ent p k may s).1.length ≤ 8 := by
  unfold readG; split
  · rw [outG_len]; unfold manyG; omega
  · simp
/-- What bytes are like that are such. -/
theorem good_shape (hent : ∀ x, (ent x).length = k) {s : List UInt8} (h : goodG ent p k may s) : s.length = 1 + k * manyG k s ∧ leN (s.take 1) = manyG k s := by
  obtain ⟨h1, h2⟩ := h
  have hl := recG_len hent (outG p k s (manyG k s))
  rw [h2, outG_len] at hl
  refine ⟨hl, ?_⟩
  have h8 : manyG k s ≤ 8 := by unfold manyG; omega
  have e : s.take 1 = leB 1 (manyG k s) := by
    conv => lhs; rw [← h2]
    rw [recG, outG_len, List.take_left' (leB_len _ _)]
  rw [e, leN_of (by show manyG k s < 256; omega)]
theorem outG_rec (hent : ∀ x, (ent x).length = k) (hdec : ∀ x X Y, p (X ++ (ent x ++ Y)) X.length = x) (l : List α) : outG p k (recG ent l) l.length = l := by
  apply List.ext_getElem (by rw [outG_len])
  intro i h1 h2
  have hr : recG ent l = accG ent l i ++ (ent l[i] ++ (l.drop (i + 1)).flatMap ent) := by
    rw [recG, accG, List.append_assoc]
    congr 1
    conv => lhs; rw [← List.take_append_drop i l, List.flatMap_append, List.drop_eq_getElem_cons h2, List.flatMap_cons]
  have := hdec l[i] (accG ent l i) ((l.drop (i + 1)).flatMap ent)
  rw [← hr, accG_len hent l i (by omega)] at this
  simp only [outG, List.getElem_map, List.getElem_range]
  exact this
theorem outG_rec' (hent : ∀ x, (ent x).length = k) {l : List α} (hdec : ∀ x ∈ l, ∀ X Y, p (X ++ (ent x ++ Y)) X.length = x) : outG p k (recG ent l) l.length = l := by
  apply List.ext_getElem (by rw [outG_len])
  intro i h1 h2
  have hr : recG ent l = accG ent l i ++ (ent l[i] ++ (l.drop (i + 1)).flatMap ent) := by
    rw [recG, accG, List.append_assoc]
    congr 1
    conv => lhs; rw [← List.take_append_drop i l, List.flatMap_append, List.drop_eq_getElem_cons h2, List.flatMap_cons]
  have := hdec l[i] (List.getElem_mem h2) (accG ent l i) ((l.drop (i + 1)).flatMap ent)
  rw [← hr, accG_len hent l i (by omega)] at this
  simp only [outG, List.getElem_map, List.getElem_range]
  exact this
/-- What is written is read as it was. -/
theorem read_writeG (hk : 0 < k) (hent : ∀ x, (ent x).length = k) {l : List α} (h8 : l.length ≤ 8) (hdec : ∀ x ∈ l, ∀ X Y, p (X ++ (ent x ++ Y)) X.length = x) (hm : may l = true) : readG ent p k may (recG ent l) = (l, 0) := by
  have h1 := many_eq hk h8 (recG_len hent l)
  have h2 := outG_rec' hent hdec
  have hg : goodG ent p k may (recG ent l) := by rw [goodG, h1, h2]; exact ⟨hm, rfl⟩
  rw [readG_yes hg, h1, h2]
theorem write_readG {s : List UInt8} (h : (readG ent p k may s).2 = 0) : may (readG ent p k may s).1 = true ∧ recG ent (readG ent p k may s).1 = s := by
  by_cases hg : goodG ent p k may s
  · rw [readG_yes hg]; exact hg
  · rw [readG_no hg] at h; simp at h
theorem readG_bad {s : List UInt8} (h : (readG ent p k may s).2 ≠ 0) : readG ent p k may s = ([], 3) := by
  by_cases hg : goodG ent p k may s
  · rw [readG_yes hg] at h; exact absurd rfl h
  · exact readG_no hg
/-- Bytes of the right length are those of the things they say. -/
theorem recG_out (henc : ∀ a, ∀ s : List UInt8, a + k ≤ s.length → ent (p s a) = (s.drop a).take k) {s : List UInt8} {n : Nat} (hn : leN (s.take 1) = n) (hl : s.length = 1 + k * n) : recG ent (outG p k s n) = s := by
  have key : ∀ i, i ≤ n → (outG p k s i).flatMap ent = (s.drop 1).take (k * i) := by
    intro i
    induction i with
    | zero => intro _; simp [outG]
    | succ i ih =>
      intro hi
      have hle : k * (i + 1) ≤ k * n := Nat.mul_le_mul_left k hi
      have hadd : k * (i + 1) = k * i + k := Nat.mul_succ k i
      rw [outG_succ, List.flatMap_append, ih (by omega), List.flatMap_cons, List.flatMap_nil, List.append_nil, henc _ _ (by omega), hadd, List.take_add, List.drop_drop]
  rw [recG, outG_len, key n (Nat.le_refl _), List.take_of_length_le (by simp; omega), ← hn, leB_of (by simp; omega), List.take_append_drop]
end
end Go.Proofs.Ytlkpceacmfndlaa.Aw
