/-
  Leaves and inner nodes as bytes. Plain Lean.
-/
import Derived.Test.YtlkpceacmfndlaaMRec
import Derived.Test.YtlkpceacmfndlaaMExt4
namespace Go.Proofs.Ytlkpceacmfndlaa.Aw
open Go.RowKit

structure Kd where
  ky : Int
  at_ : Int
deriving DecidableEq
def rowK (k : Kd) : List PV := [.int .i64 k.ky, .int .i64 k.at_]
theorem rowK_len (k : Kd) : (rowK k).length = 2 := rfl

/- extents -/
def numE (e : Xt) : List Nat := [e.fr.toNat, e.n.toNat, e.kd.toNat, e.at_.toNat]
def entE (e : Xt) : List UInt8 := leB 3 e.fr.toNat ++ (leB 4 e.n.toNat ++ (leB 1 e.kd.toNat ++ leB 2 e.at_.toNat))
theorem entE_len (e : Xt) : (entE e).length = 10 := by simp [entE, leB_len]
def exAt (s : List UInt8) (a : Nat) : Xt := ⟨gS s a 3, gS s (a + 3) 4, gS s (a + 7) 1, gS s (a + 8) 2⟩
def lowB (e : Xt) : Bool := decide (e.at_ < 2048)
def leafB (l : List Xt) : Bool := decide (1 ≤ l.length) && (decide (l.length ≤ 8) && (okB l && l.all lowB))
theorem leafB_iff {l : List Xt} : leafB l = true ↔ 1 ≤ l.length ∧ l.length ≤ 8 ∧ okB l = true ∧ ∀ e ∈ l, e.at_ < 2048 := by simp [leafB, lowB]
def FitE (e : Xt) : Prop := OneP e ∧ e.at_ < 2048
theorem leaf_fit {l : List Xt} (h : leafB l = true) : ∀ e ∈ l, FitE e := fun e he => ⟨okB_one (leafB_iff.1 h).2.2.1 e he, (leafB_iff.1 h).2.2.2 e he⟩
theorem row_entE (e : Xt) (h : FitE e) : rowS (numE e) [3, 4, 1, 2] = (entE e, 0) := by
  obtain ⟨⟨a, b, c, d, f⟩, g⟩ := h
  have b0 : badW [3, 4, 1, 2] = false := by decide
  have k1 : e.fr.toNat < 256 ^ (3 : Int).toNat := by show e.fr.toNat < 16777216; omega
  have k2 : e.n.toNat < 256 ^ (4 : Int).toNat := by show e.n.toNat < 4294967296; omega
  have k3 : e.kd.toNat < 256 ^ (1 : Int).toNat := by show e.kd.toNat < 256; omega
  have k4 : e.at_.toNat < 256 ^ (2 : Int).toNat := by show e.at_.toNat < 65536; omega
  rw [numE, rowS_ok rfl b0, goR_one k1, goR_one k2, goR_one k3, goR_one k4, goR_nil]
  simp [entE, List.append_assoc]
theorem dec_ext (e : Xt) (h : FitE e) (X Y : List UInt8) : exAt (X ++ (entE e ++ Y)) X.length = e := by
  obtain ⟨⟨a, b, c, d, f⟩, g⟩ := h
  have l1 : (leB 3 e.fr.toNat).length = 3 := leB_len _ _
  have l2 : (leB 4 e.n.toNat).length = 4 := leB_len _ _
  have l3 : (leB 1 e.kd.toNat).length = 1 := leB_len _ _
  have l4 : (leB 2 e.at_.toNat).length = 2 := leB_len _ _
  have n1 : leN (leB 3 e.fr.toNat) = e.fr.toNat := leN_of (by show e.fr.toNat < 16777216; omega)
  have n2 : leN (leB 4 e.n.toNat) = e.n.toNat := leN_of (by show e.n.toNat < 4294967296; omega)
  have n3 : leN (leB 1 e.kd.toNat) = e.kd.toNat := leN_of (by show e.kd.toNat < 256; omega)
  have n4 : leN (leB 2 e.at_.toNat) = e.at_.toNat := leN_of (by show e.at_.toNat < 65536; omega)
  unfold entE exAt
  generalize leB 3 e.fr.toNat = y1 at *
  generalize leB 4 e.n.toNat = y2 at *
  generalize leB 1 e.kd.toNat = y3 at *
  generalize leB 2 e.at_.toNat = y4 at *
  obtain ⟨S, hS⟩ : ∃ S, S = X ++ (y1 ++ (y2 ++ (y3 ++ y4)) ++ Y) := ⟨_, rfl⟩
  rw [← hS]
  have g1 : gS S X.length 3 = (leN y1 : Int) := gS_at (x := X) (z := y2 ++ (y3 ++ (y4 ++ Y))) (by decide) (by decide) (by rw [hS]; simp) rfl l1
  have g2 : gS S (X.length + 3) 4 = (leN y2 : Int) := gS_at (x := X ++ y1) (z := y3 ++ (y4 ++ Y)) (by decide) (by decide) (by rw [hS]; simp) (by simp [l1]) l2
  have g3 : gS S (X.length + 7) 1 = (leN y3 : Int) := gS_at (x := X ++ y1 ++ y2) (z := y4 ++ Y) (by decide) (by decide) (by rw [hS]; simp) (by simp [l1, l2]) l3
  have g4 : gS S (X.length + 8) 2 = (leN y4 : Int) := gS_at (x := X ++ y1 ++ y2 ++ y3) (z := Y) (by decide) (by decide) (by rw [hS]; simp) (by simp [l1, l2, l3]) l4
  rw [g1, g2, g3, g4, n1, n2, n3, n4]
  cases e
  simp only [] at *
  congr 1 <;> omega
theorem enc_ext (a : Nat) (s : List UInt8) (h : a + 10 ≤ s.length) : entE (exAt s a) = (s.drop a).take 10 := by
  have v1 : gS s a 3 = (leN ((s.drop a).take 3) : Int) := gS_in (by decide) (by decide) (by omega)
  have v2 : gS s (a + 3) 4 = (leN ((s.drop (a + 3)).take 4) : Int) := gS_in (by decide) (by decide) (by omega)
  have v3 : gS s (a + 7) 1 = (leN ((s.drop (a + 7)).take 1) : Int) := gS_in (by decide) (by decide) (by omega)
  have v4 : gS s (a + 8) 2 = (leN ((s.drop (a + 8)).take 2) : Int) := gS_in (by decide) (by decide) (by omega)
  simp only [entE, exAt, v1, v2, v3, v4, Int.toNat_natCast]
  rw [leB_of (w := 3) (by simp; omega), leB_of (w := 4) (by simp; omega), leB_of (w := 1) (by simp; omega), leB_of (w := 2) (by simp; omega)]
  rw [show (10 : Nat) = 3 + (4 + (1 + 2)) by rfl, List.take_add, List.take_add, List.take_add]
  simp [List.drop_drop]
theorem take_ext (s : List UInt8) (h : 10 ≤ s.length) : takeS s [3, 4, 1, 2] = ([leN (s.take 3), leN ((s.drop 3).take 4), leN ((s.drop 7).take 1), leN ((s.drop 8).take 2)], s.drop 10, 0) := by
  have b1 : badW [3, 4, 1, 2] = false := by decide
  rw [takeS_ok b1, goOn_one (by simp; omega), goOn_one (by simp; omega), goOn_one (by simp; omega), goOn_one (by simp; omega), goOn_nil]
  simp [List.drop_drop]
theorem take_ext_no (s : List UInt8) (h : s.length < 10) : takeS s [3, 4, 1, 2] = ([], [], 5) := takeS_short (by decide) (by simpa using h)
/- kids -/
def numK (k : Kd) : List Nat := [k.ky.toNat, k.at_.toNat]
def entK (k : Kd) : List UInt8 := leB 3 k.ky.toNat ++ leB 2 k.at_.toNat
theorem entK_len (k : Kd) : (entK k).length = 5 := by simp [entK, leB_len]
def kdAt (s : List UInt8) (a : Nat) : Kd := ⟨gS s a 3, gS s (a + 3) 2⟩
def kidB (k : Kd) : Bool := decide (0 ≤ k.ky) && (decide (k.ky < 16777216) && (decide (0 ≤ k.at_) && decide (k.at_ < 2048)))
def upB (a b : Kd) : Bool := decide (a.ky < b.ky)
def kidsB (l : List Kd) : Bool := decide (2 ≤ l.length) && (decide (l.length ≤ 8) && (lkB kidB upB l && decide (l.map Kd.at_).Nodup))
def FitK (k : Kd) : Prop := 0 ≤ k.ky ∧ k.ky < 16777216 ∧ 0 ≤ k.at_ ∧ k.at_ < 2048
theorem kidB_iff {k : Kd} : kidB k = true ↔ FitK k := by simp [kidB, FitK]
theorem nodup_at {l : List Kd} : (l.map Kd.at_).Nodup ↔ ∀ i (h : i < l.length) j (hj : j < l.length), j < i → l[j].at_ ≠ l[i].at_ := by
  rw [List.Nodup, List.pairwise_iff_getElem]
  constructor
  · intro h i hi j hj hlt
    have := h j i (by simpa using hj) (by simpa using hi) hlt
    simpa using this
  · intro h i j hi hj hlt
    have := h j (by simpa using hj) i (by simpa using hi) hlt
    simpa using this
theorem kidsB_iff {l : List Kd} : kidsB l = true ↔ 2 ≤ l.length ∧ l.length ≤ 8 ∧ lkB kidB upB l = true ∧ (l.map Kd.at_).Nodup := by simp [kidsB]
theorem kids_fit' {l : List Kd} (h : kidsB l = true) : ∀ k ∈ l, FitK k := fun k hk => kidB_iff.1 (lkB_one (kidsB_iff.1 h).2.2.1 k hk)
theorem row_entK (k : Kd) (h : FitK k) : rowS (numK k) [3, 2] = (entK k, 0) := by
  obtain ⟨a, b, c, d⟩ := h
  have b0 : badW [3, 2] = false := by decide
  have k1 : k.ky.toNat < 256 ^ (3 : Int).toNat := by show k.ky.toNat < 16777216; omega
  have k4 : k.at_.toNat < 256 ^ (2 : Int).toNat := by show k.at_.toNat < 65536; omega
  rw [numK, rowS_ok rfl b0, goR_one k1, goR_one k4, goR_nil]
  simp [entK]
theorem dec_kid (k : Kd) (h : FitK k) (X Y : List UInt8) : kdAt (X ++ (entK k ++ Y)) X.length = k := by
  obtain ⟨a, b, c, d⟩ := h
  have l1 : (leB 3 k.ky.toNat).length = 3 := leB_len _ _
  have l4 : (leB 2 k.at_.toNat).length = 2 := leB_len _ _
  have n1 : leN (leB 3 k.ky.toNat) = k.ky.toNat := leN_of (by show k.ky.toNat < 16777216; omega)
  have n4 : leN (leB 2 k.at_.toNat) = k.at_.toNat := leN_of (by show k.at_.toNat < 65536; omega)
  unfold entK kdAt
  generalize leB 3 k.ky.toNat = y1 at *
  generalize leB 2 k.at_.toNat = y4 at *
  obtain ⟨S, hS⟩ : ∃ S, S = X ++ (y1 ++ y4 ++ Y) := ⟨_, rfl⟩
  rw [← hS]
  have g1 : gS S X.length 3 = (leN y1 : Int) := gS_at (x := X) (z := y4 ++ Y) (by decide) (by decide) (by rw [hS]; simp) rfl l1
  have g2 : gS S (X.length + 3) 2 = (leN y4 : Int) := gS_at (x := X ++ y1) (z := Y) (by decide) (by decide) (by rw [hS]; simp) (by simp [l1]) l4
  rw [g1, g2, n1, n4]
  cases k
  simp only [] at *
  congr 1 <;> omega
theorem enc_kid (a : Nat) (s : List UInt8) (h : a + 5 ≤ s.length) : entK (kdAt s a) = (s.drop a).take 5 := by
  have v1 : gS s a 3 = (leN ((s.drop a).take 3) : Int) := gS_in (by decide) (by decide) (by omega)
  have v2 : gS s (a + 3) 2 = (leN ((s.drop (a + 3)).take 2) : Int) := gS_in (by decide) (by decide) (by omega)
  simp only [entK, kdAt, v1, v2, Int.toNat_natCast]
  rw [leB_of (w := 3) (by simp; omega), leB_of (w := 2) (by simp; omega)]
  rw [show (5 : Nat) = 3 + 2 by rfl, List.take_add]
  simp [List.drop_drop]
theorem take_kid (s : List UInt8) (h : 5 ≤ s.length) : takeS s [3, 2] = ([leN (s.take 3), leN ((s.drop 3).take 2)], s.drop 5, 0) := by
  have b1 : badW [3, 2] = false := by decide
  rw [takeS_ok b1, goOn_one (by simp; omega), goOn_one (by simp; omega), goOn_nil]
  simp [List.drop_drop]
theorem take_kid_no (s : List UInt8) (h : s.length < 5) : takeS s [3, 2] = ([], [], 5) := takeS_short (by decide) (by simpa using h)
/- parts of nodes -/
theorem okB_take {l : List Xt} (h : okB l = true) (i : Nat) : okB (l.take i) = true := by
  obtain ⟨h1, h2⟩ := okB_at.1 h
  refine okB_at.2 ⟨fun j hj => ?_, fun j hj => ?_⟩
  · simp only [List.getElem_take]; exact h1 j (by simp at hj; omega)
  · simp only [List.getElem_take]; exact h2 j (by simp at hj; omega)
theorem okB_drop {l : List Xt} (h : okB l = true) (i : Nat) : okB (l.drop i) = true := by
  obtain ⟨h1, h2⟩ := okB_at.1 h
  refine okB_at.2 ⟨fun j hj => ?_, fun j hj => ?_⟩
  · simp only [List.getElem_drop]; exact h1 (i + j) (by simp at hj; omega)
  · simp only [List.getElem_drop]; exact h2 (i + j) (by simp at hj; omega)
theorem leaf_take {l : List Xt} (h : leafB l = true) {i : Nat} (hi : 1 ≤ i) (hl : i ≤ l.length) : leafB (l.take i) = true := by
  obtain ⟨h1, h2, h3, h4⟩ := leafB_iff.1 h
  exact leafB_iff.2 ⟨by simp; omega, by simp; omega, okB_take h3 i, fun e he => h4 e (List.mem_of_mem_take he)⟩
theorem leaf_drop {l : List Xt} (h : leafB l = true) {i : Nat} (hl : i < l.length) : leafB (l.drop i) = true := by
  obtain ⟨h1, h2, h3, h4⟩ := leafB_iff.1 h
  exact leafB_iff.2 ⟨by simp; omega, by simp; omega, okB_drop h3 i, fun e he => h4 e (List.mem_of_mem_drop he)⟩
theorem lkB_take {α : Type} {one : α → Bool} {lk : α → α → Bool} {l : List α} (h : lkB one lk l = true) (i : Nat) : lkB one lk (l.take i) = true := by
  obtain ⟨h1, h2⟩ := lkB_at.1 h
  refine lkB_at.2 ⟨fun j hj => ?_, fun j hj => ?_⟩
  · simp only [List.getElem_take]; exact h1 j (by simp at hj; omega)
  · simp only [List.getElem_take]; exact h2 j (by simp at hj; omega)
theorem lkB_drop {α : Type} {one : α → Bool} {lk : α → α → Bool} {l : List α} (h : lkB one lk l = true) (i : Nat) : lkB one lk (l.drop i) = true := by
  obtain ⟨h1, h2⟩ := lkB_at.1 h
  refine lkB_at.2 ⟨fun j hj => ?_, fun j hj => ?_⟩
  · simp only [List.getElem_drop]; exact h1 (i + j) (by simp at hj; omega)
  · simp only [List.getElem_drop]; exact h2 (i + j) (by simp at hj; omega)
theorem kids_take {l : List Kd} (h : kidsB l = true) {i : Nat} (hi : 2 ≤ i) (hl : i ≤ l.length) : kidsB (l.take i) = true := by
  obtain ⟨h1, h2, h3, h4⟩ := kidsB_iff.1 h
  refine kidsB_iff.2 ⟨by simp; omega, by simp; omega, lkB_take h3 i, ?_⟩
  rw [List.map_take]; exact h4.sublist (List.take_sublist _ _)
theorem kids_drop {l : List Kd} (h : kidsB l = true) {i : Nat} (hl : i + 2 ≤ l.length) : kidsB (l.drop i) = true := by
  obtain ⟨h1, h2, h3, h4⟩ := kidsB_iff.1 h
  refine kidsB_iff.2 ⟨by simp; omega, by simp; omega, lkB_drop h3 i, ?_⟩
  rw [List.map_drop]; exact h4.sublist (List.drop_sublist _ _)
/-- The kid under which a sector stands. -/
def underS : List Kd → Nat → Int → Nat → Nat
  | [], _, _, r => r
  | k :: t, i, s, r => underS t (i + 1) s (if k.ky ≤ s then i else r)
end Go.Proofs.Ytlkpceacmfndlaa.Aw
