/-
  What a volume says: namespaces rising by number, sectors rising; what is asked, and what it answers. Plain Lean.
-/
import Derived.Test.YthjnfjgejdlbfaaMKey
set_option linter.unusedSimpArgs false
namespace Go.Proofs.Ythjnfjgejdlbfaa.Aw

structure Sc where
  at_ : Int
  dat : List UInt8
deriving DecidableEq
structure Spc where
  id : Int
  size : Int
  S : List Sc
deriving DecidableEq
instance : Key Sc := ⟨Sc.at_⟩
instance : Key Spc := ⟨Spc.id⟩
theorem key_sc (x : Sc) : key x = x.at_ := rfl
theorem key_spc (x : Spc) : key x = x.id := rfl
def blankB : List UInt8 := List.replicate 32 0

/- sectors -/
def cutS (S : List Sc) (fr to_ : Int) : List Sc := S.filter fun x => decide (x.at_ < fr) || decide (to_ ≤ x.at_)
def inS (S : List Sc) (fr to_ : Int) : Int := (S.length : Int) - ((cutS S fr to_).length : Int)
def scsFrom (fr : Int) : List (List UInt8) → List Sc
  | [] => []
  | d :: r => ⟨fr, d⟩ :: scsFrom (fr + 1) r
def layS (S : List Sc) (fr : Int) (data : List (List UInt8)) : List Sc :=
  (S.filter fun x => decide (x.at_ < fr)) ++ (scsFrom fr data ++ S.filter fun x => decide (fr + (data.length : Int) ≤ x.at_))
def ofSc (S : List Sc) (i : Int) : List UInt8 :=
  match getG i S with
  | some x => x.dat
  | none => blankB

/- a volume -/
def usedV : List Spc → Int
  | [] => 0
  | s :: r => (s.S.length : Int) + usedV r
def createV (L : List Spc) (id size : Int) : List Spc × Int :=
  if id < 1 ∨ 65535 < id ∨ size < 0 ∨ 16777216 < size then (L, 1) else
  match getG id L with
  | some _ => (L, 7)
  | none => if 8 ≤ L.length then (L, 70) else (insG ⟨id, size, []⟩ L, 0)
def deleteV (L : List Spc) (id : Int) : List Spc × Int :=
  match getG id L with
  | none => (L, 4)
  | some _ => (delG id L, 0)
def putV (L : List Spc) (s : Spc) : List Spc := insG s (delG s.id L)
def resizeV (L : List Spc) (id size : Int) : List Spc × Int :=
  if size < 0 ∨ 16777216 < size then (L, 1) else
  match getG id L with
  | none => (L, 4)
  | some s => (putV L ⟨id, size, cutS s.S size 16777216⟩, 0)
/-- May so many sectors be named? -/
def withinV (L : List Spc) (id fr n : Int) (may : Bool) : Int :=
  match getG id L with
  | none => 4
  | some s => if may = false ∨ n < 1 then 1 else if fr < 0 ∨ s.size < fr ∨ s.size - fr < n then 82 else 0
def layV (cap : Int) (L : List Spc) (id fr : Int) (data : List (List UInt8)) : List Spc × Int :=
  match getG id L with
  | none => (L, 4)
  | some s => if cap - usedV L < (data.length : Int) - inS s.S fr (fr + (data.length : Int)) then (L, 71) else (putV L ⟨id, s.size, layS s.S fr data⟩, 0)
/-- Bytes in pieces of 32. -/
def pieces (d : List UInt8) : Nat → List (List UInt8)
  | 0 => []
  | n + 1 => d.take 32 :: pieces (d.drop 32) n
theorem pieces_len (d : List UInt8) : ∀ n, (pieces d n).length = n := fun n => by
  induction n generalizing d with
  | zero => rfl
  | succ n ih => simp [pieces, ih]
theorem pieces_get {d : List UInt8} : ∀ {n i : Nat}, i < n → (pieces d n)[i]? = some ((d.drop (32 * i)).take 32)
  | n + 1, 0, _ => by simp [pieces]
  | n + 1, i + 1, h => by
    rw [pieces, List.getElem?_cons_succ, pieces_get (by omega), List.drop_drop]
    congr 3; omega
def writeV (cap : Int) (L : List Spc) (id fr : Int) (d : List UInt8) : List Spc × Int :=
  let e := withinV L id fr (d.length / 32 : Nat) (decide (d.length % 32 = 0) && decide (d.length / 32 ≤ 8))
  if e ≠ 0 then (L, e) else layV cap L id fr (pieces d (d.length / 32))
def zeroV (cap : Int) (L : List Spc) (id fr n : Int) : List Spc × Int :=
  let e := withinV L id fr n true
  if e ≠ 0 then (L, e) else layV cap L id fr (List.replicate n.toNat blankB)
def trimV (L : List Spc) (id fr n : Int) : List Spc × Int :=
  let e := withinV L id fr n true
  if e ≠ 0 then (L, e) else
  match getG id L with
  | none => (L, 4)
  | some s => (putV L ⟨id, s.size, cutS s.S fr (fr + n)⟩, 0)
def readS (S : List Sc) (fr : Int) : Nat → List UInt8
  | 0 => []
  | n + 1 => readS S fr n ++ ofSc S (fr + (n : Int))
def readV (L : List Spc) (id fr n : Int) : List UInt8 × Int :=
  let e := withinV L id fr n (decide (n ≤ 8))
  if e ≠ 0 then ([], e) else
  match getG id L with
  | none => ([], 4)
  | some s => (readS s.S fr n.toNat, 0)

/- what may be -/
structure SecOk (size : Int) (S : List Sc) : Prop where
  srt : SortedG S
  rng : ∀ x ∈ S, 0 ≤ x.at_ ∧ x.at_ < size
  len : ∀ x ∈ S, x.dat.length = 32
structure VolOk (cap : Int) (L : List Spc) : Prop where
  c0 : 0 ≤ cap
  c1 : cap ≤ 200
  srt : SortedG L
  ids : ∀ s ∈ L, 1 ≤ s.id ∧ s.id ≤ 65535
  szs : ∀ s ∈ L, 0 ≤ s.size ∧ s.size ≤ 16777216
  sec : ∀ s ∈ L, SecOk s.size s.S
  use : usedV L ≤ cap
  len : L.length ≤ 8

theorem usedV_nn : ∀ (L : List Spc), 0 ≤ usedV L
  | [] => Int.le_refl _
  | s :: r => by have := usedV_nn r; simp only [usedV]; omega
theorem usedV_ins {x : Spc} : ∀ {L : List Spc}, usedV (insG x L) = (x.S.length : Int) + usedV L
  | [] => rfl
  | a :: r => by
    simp only [insG]
    split
    · rfl
    · simp only [usedV, usedV_ins (L := r)]; omega
theorem usedV_del {a : Spc} : ∀ {L : List Spc}, SortedG L → a ∈ L → usedV (delG a.id L) = usedV L - (a.S.length : Int)
  | [], _, h => by cases h
  | x :: r, hs, h => by
    have hp := List.pairwise_cons.1 hs
    simp only [delG, key_spc]
    rcases List.mem_cons.1 h with rfl | h'
    · rw [if_pos rfl, delG_id fun b hb => by have := hp.1 b hb; simp only [key_spc] at this ⊢; omega]; simp only [usedV]; omega
    · have := hp.1 a h'
      simp only [key_spc] at this
      rw [if_neg (by omega)]
      simp only [usedV, usedV_del hp.2 h']; omega
theorem usedV_mem {a : Spc} {L : List Spc} (hs : SortedG L) (h : a ∈ L) : (a.S.length : Int) ≤ usedV L := by
  have := usedV_del hs h
  have := usedV_nn (delG a.id L)
  omega
theorem VolOk.new {cap : Int} (h0 : 0 ≤ cap) (h1 : cap ≤ 200) : VolOk cap [] :=
  ⟨h0, h1, List.Pairwise.nil, (fun s h => by cases h), (fun s h => by cases h), (fun s h => by cases h), h0, by simp⟩
/-- One namespace that changes. -/
theorem VolOk.put {cap : Int} {L : List Spc} (h : VolOk cap L) {a b : Spc} (ha : a ∈ L) (hid : b.id = a.id) (hs : 0 ≤ b.size ∧ b.size ≤ 16777216) (hu : SecOk b.size b.S) (hc : usedV L - (a.S.length : Int) + (b.S.length : Int) ≤ cap) : VolOk cap (putV L b) := by
  have hn : ∀ y ∈ delG b.id L, key y ≠ key b := fun y hy => by have := (mem_delG.1 hy).2; exact this
  have hm : ∀ {y}, y ∈ putV L b → y = b ∨ y ∈ L := fun {y} hy => (mem_insG.1 hy).imp id fun hy => (mem_delG.1 hy).1
  have hids := h.ids a ha
  refine ⟨h.c0, h.c1, insG_sorted (delG_sorted h.srt) hn, fun s hs' => ?_, fun s hs' => ?_, fun s hs' => ?_, ?_, ?_⟩
  · rcases hm hs' with rfl | h2
    · omega
    · exact h.ids s h2
  · rcases hm hs' with rfl | h2
    · exact hs
    · exact h.szs s h2
  · rcases hm hs' with rfl | h2
    · exact hu
    · exact h.sec s h2
  · rw [putV, usedV_ins, hid, usedV_del h.srt ha]; omega
  · have := delG_len h.srt ha
    rw [putV, insG_len, hid]
    have h8 := h.len
    simp only [key_spc] at this
    omega
theorem VolOk.del {cap : Int} {L : List Spc} (h : VolOk cap L) (id : Int) : VolOk cap (delG id L) := by
  have hm : ∀ {y}, y ∈ delG id L → y ∈ L := fun {y} hy => (mem_delG.1 hy).1
  refine ⟨h.c0, h.c1, delG_sorted h.srt, fun s hs => h.ids s (hm hs), fun s hs => h.szs s (hm hs), fun s hs => h.sec s (hm hs), ?_, ?_⟩
  · cases hg : getG id L with
    | none => rw [delG_id (getG_none hg)]; exact h.use
    | some a =>
      obtain ⟨h1, rfl⟩ := getG_some hg
      have := usedV_del h.srt h1
      have h3 := h.use
      simp only [key_spc] at this ⊢
      omega
  · cases hg : getG id L with
    | none => rw [delG_id (getG_none hg)]; exact h.len
    | some a =>
      obtain ⟨h1, rfl⟩ := getG_some hg
      have := delG_len h.srt h1
      have h3 := h.len
      omega
theorem VolOk.create {cap : Int} {L : List Spc} (h : VolOk cap L) (id size : Int) : VolOk cap (createV L id size).1 := by
  unfold createV
  split
  · exact h
  · rename_i c
    cases hg : getG id L with
    | some a => exact h
    | none =>
      simp only
      split
      · exact h
      · have hn : ∀ y ∈ L, key y ≠ key (⟨id, size, []⟩ : Spc) := getG_none hg
        refine ⟨h.c0, h.c1, insG_sorted h.srt hn, fun s hs => ?_, fun s hs => ?_, fun s hs => ?_, ?_, ?_⟩
        · rcases mem_insG.1 hs with rfl | h2
          · simp only; omega
          · exact h.ids s h2
        · rcases mem_insG.1 hs with rfl | h2
          · simp only; omega
          · exact h.szs s h2
        · rcases mem_insG.1 hs with rfl | h2
          · exact ⟨List.Pairwise.nil, (fun x hx => by cases hx), (fun x hx => by cases hx)⟩
          · exact h.sec s h2
        · rw [usedV_ins]; have := h.use; simp only [List.length_nil]; omega
        · rw [insG_len]; omega
end Go.Proofs.Ythjnfjgejdlbfaa.Aw
