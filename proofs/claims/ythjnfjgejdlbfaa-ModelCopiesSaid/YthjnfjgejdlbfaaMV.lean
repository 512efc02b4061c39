/-
  Lists that rise by a number: taking, leaving out, putting in. Plain Lean.; What a volume says: namespaces rising by number, sectors rising; what is asked, and what it answers. Plain Lean.; What a volume becomes keeps what may be. Plain Lean.
-/
import Derived.Test.YthjnfjgejdlbfaaAwBun
set_option linter.all false
set_option linter.unusedSimpArgs false
set_option linter.unusedVariables false
namespace Go.Proofs.Ythjnfjgejdlbfaa.Aw

class Key (α : Type) where
  key : α → Int
export Key (key)
section
variable {α : Type} [Key α]
def getG (id : Int) : List α → Option α
  | [] => none
  | a :: r => if key a = id then some a else getG id r
def delG (id : Int) : List α → List α
  | [] => []
  | a :: r => if key a = id then delG id r else a :: delG id r
def insG (x : α) : List α → List α
  | [] => [x]
  | a :: r => if key x < key a then x :: a :: r else a :: insG x r
def SortedG (A : List α) : Prop := A.Pairwise fun x y => key x < key y

theorem getG_some {id : Int} : ∀ {A : List α} {a : α}, getG id A = some a → a ∈ A ∧ key a = id
  | [], a, h => by cases h
  | x :: r, a, h => by
    simp only [getG] at h
    split at h
    · rename_i e; cases h; exact ⟨by simp, e⟩
    · have := getG_some h; exact ⟨by simp [this.1], this.2⟩
theorem getG_none {id : Int} : ∀ {A : List α}, getG id A = none → ∀ a ∈ A, key a ≠ id
  | [], _, a, ha => by cases ha
  | x :: r, h, a, ha => by
    simp only [getG] at h
    split at h
    · cases h
    · rename_i e
      rcases List.mem_cons.1 ha with rfl | ha
      · exact e
      · exact getG_none h a ha
theorem getG_mem {A : List α} (hs : SortedG A) {a : α} (ha : a ∈ A) : getG (key a) A = some a := by
  induction A with
  | nil => cases ha
  | cons x r ih =>
    have hp := List.pairwise_cons.1 hs
    simp only [getG]
    rcases List.mem_cons.1 ha with rfl | ha'
    · rw [if_pos rfl]
    · have := hp.1 a ha'
      rw [if_neg (by omega), ih hp.2 ha']
theorem mem_delG {id : Int} {x : α} : ∀ {A : List α}, x ∈ delG id A ↔ x ∈ A ∧ key x ≠ id
  | [] => by simp [delG]
  | a :: r => by
    simp only [delG]
    split
    · rename_i e
      rw [mem_delG (A := r), List.mem_cons]
      constructor
      · rintro ⟨h1, h2⟩; exact ⟨.inr h1, h2⟩
      · rintro ⟨rfl | h1, h2⟩
        · exact absurd e h2
        · exact ⟨h1, h2⟩
    · rename_i e
      rw [List.mem_cons, mem_delG (A := r), List.mem_cons]
      constructor
      · rintro (rfl | ⟨h1, h2⟩)
        · exact ⟨.inl rfl, e⟩
        · exact ⟨.inr h1, h2⟩
      · rintro ⟨rfl | h1, h2⟩
        · exact .inl rfl
        · exact .inr ⟨h1, h2⟩
theorem mem_insG {y x : α} : ∀ {A : List α}, x ∈ insG y A ↔ x = y ∨ x ∈ A
  | [] => by simp [insG]
  | a :: r => by
    simp only [insG]
    split
    · simp
    · rw [List.mem_cons, mem_insG (A := r), List.mem_cons]
      constructor
      · rintro (h | h | h)
        · exact .inr (.inl h)
        · exact .inl h
        · exact .inr (.inr h)
      · rintro (h | h | h)
        · exact .inr (.inl h)
        · exact .inl h
        · exact .inr (.inr h)
theorem delG_sorted {id : Int} : ∀ {A : List α}, SortedG A → SortedG (delG id A)
  | [], _ => List.Pairwise.nil
  | a :: r, h => by
    have hp := List.pairwise_cons.1 h
    simp only [delG]
    split
    · exact delG_sorted hp.2
    · exact List.pairwise_cons.2 ⟨fun x hx => hp.1 x (mem_delG.1 hx).1, delG_sorted hp.2⟩
theorem insG_sorted {x : α} : ∀ {A : List α}, SortedG A → (∀ a ∈ A, key a ≠ key x) → SortedG (insG x A)
  | [], _, _ => List.pairwise_singleton _ _
  | a :: r, h, hn => by
    have hp := List.pairwise_cons.1 h
    simp only [insG]
    split
    · rename_i hlt
      refine List.pairwise_cons.2 ⟨fun y hy => ?_, h⟩
      rcases List.mem_cons.1 hy with rfl | hy
      · exact hlt
      · have := hp.1 y hy; omega
    · rename_i hlt
      refine List.pairwise_cons.2 ⟨fun y hy => ?_, insG_sorted hp.2 fun z hz => hn z (List.mem_cons_of_mem _ hz)⟩
      rcases mem_insG.1 hy with rfl | hy
      · have := hn a (by simp); omega
      · exact hp.1 y hy
theorem delG_id {id : Int} : ∀ {A : List α}, (∀ a ∈ A, key a ≠ id) → delG id A = A
  | [], _ => rfl
  | a :: r, h => by
    simp only [delG, if_neg (h a (by simp)), delG_id fun b hb => h b (List.mem_cons_of_mem _ hb)]
theorem insG_len {x : α} : ∀ {A : List α}, (insG x A).length = A.length + 1
  | [] => rfl
  | a :: r => by
    simp only [insG]
    split
    · rfl
    · simp [insG_len (A := r)]
theorem delG_len {a : α} : ∀ {A : List α}, SortedG A → a ∈ A → (delG (key a) A).length + 1 = A.length
  | [], _, h => by cases h
  | x :: r, hs, h => by
    have hp := List.pairwise_cons.1 hs
    simp only [delG]
    rcases List.mem_cons.1 h with rfl | h'
    · rw [if_pos rfl, delG_id fun b hb => by have := hp.1 b hb; omega]; rfl
    · have := hp.1 a h'
      rw [if_neg (by omega)]
      simp [delG_len hp.2 h']
theorem getG_map {id : Int} : ∀ {A : List α} {j : Nat} (h : j < A.length), key A[j] = id → (∀ i (hi : i < j), key (A[i]'(by omega)) ≠ id) → getG id A = some A[j]
  | x :: r, 0, h, e, _ => by simp only [getG]; rw [if_pos (by simpa using e)]; rfl
  | x :: r, j + 1, h, e, hn => by
    have h0 := hn 0 (by omega)
    simp only [getG]
    rw [if_neg (by simpa using h0)]
    exact getG_map (A := r) (j := j) (by simpa using h) (by simpa using e) fun i hi => by have := hn (i + 1) (by omega); simpa using this
theorem getG_delG {id id' : Int} : ∀ {A : List α}, id ≠ id' → getG id (delG id' A) = getG id A
  | [], _ => rfl
  | a :: r, h => by
    simp only [delG, getG]
    split
    · rename_i e
      rw [if_neg (by omega), getG_delG h]
    · simp only [getG]; split
      · rfl
      · exact getG_delG h
theorem getG_insG {x : α} {id : Int} : ∀ {A : List α}, id ≠ key x → getG id (insG x A) = getG id A
  | [], h => by simp only [insG, getG]; rw [if_neg (by omega)]
  | a :: r, h => by
    simp only [insG]
    split
    · simp only [getG]; rw [if_neg (by omega)]
    · simp only [getG]; split
      · rfl
      · exact getG_insG h
theorem getG_insG_self {x : α} : ∀ {A : List α}, (∀ a ∈ A, key a ≠ key x) → getG (key x) (insG x A) = some x
  | [], h => by simp [insG, getG]
  | a :: r, h => by
    simp only [insG]
    split
    · simp [getG]
    · simp only [getG]; rw [if_neg (h a (by simp)), getG_insG_self fun b hb => h b (List.mem_cons_of_mem _ hb)]
end

structure Sc where
  at_ : Int
  dat : List UInt8
deriving DecidableEq
structure Spc where
  id : Int
  size : Int
  S : List Sc
deriving DecidableEq
instance : Key Sc := ⟨Sc.at_⟩
instance : Key Spc := ⟨Spc.id⟩
theorem key_sc (x : Sc) : key x = x.at_ := rfl
theorem key_spc (x : Spc) : key x = x.id := rfl
def blankB : List UInt8 := List.replicate 32 0

/- sectors -/
def cutS (S : List Sc) (fr to_ : Int) : List Sc := S.filter fun x => decide (x.at_ < fr) || decide (to_ ≤ x.at_)
def inS (S : List Sc) (fr to_ : Int) : Int := (S.length : Int) - ((cutS S fr to_).length : Int)
def scsFrom (fr : Int) : List (List UInt8) → List Sc
  | [] => []
  | d :: r => ⟨fr, d⟩ :: scsFrom (fr + 1) r
def layS (S : List Sc) (fr : Int) (data : List (List UInt8)) : List Sc :=
  (S.filter fun x => decide (x.at_ < fr)) ++ (scsFrom fr data ++ S.filter fun x => decide (fr + (data.length : Int) ≤ x.at_))
def ofSc (S : List Sc) (i : Int) : List UInt8 :=
  match getG i S with
  | some x => x.dat
  | none => blankB

/- a volume -/
def usedV : List Spc → Int
  | [] => 0
  | s :: r => (s.S.length : Int) + usedV r
def createV (L : List Spc) (id size : Int) : List Spc × Int :=
  if id < 1 ∨ 65535 < id ∨ size < 0 ∨ 16777216 < size then (L, 1) else
  match getG id L with
  | some _ => (L, 7)
  | none => if 8 ≤ L.length then (L, 70) else (insG ⟨id, size, []⟩ L, 0)
def deleteV (L : List Spc) (id : Int) : List Spc × Int :=
  match getG id L with
  | none => (L, 4)
  | some _ => (delG id L, 0)
def putV (L : List Spc) (s : Spc) : List Spc := insG s (delG s.id L)
def resizeV (L : List Spc) (id size : Int) : List Spc × Int :=
  if size < 0 ∨ 16777216 < size then (L, 1) else
  match getG id L with
  | none => (L, 4)
  | some s => (putV L ⟨id, size, cutS s.S size 16777216⟩, 0)
/-- May so many sectors be named? -/
def withinV (L : List Spc) (id fr n : Int) (may : Bool) : Int :=
  match getG id L with
  | none => 4
  | some s => if may = false ∨ n < 1 then 1 else if fr < 0 ∨ s.size < fr ∨ s.size - fr < n then 82 else 0
def layV (cap : Int) (L : List Spc) (id fr : Int) (data : List (List UInt8)) : List Spc × Int :=
  match getG id L with
  | none => (L, 4)
  | some s => if cap - usedV L < (data.length : Int) - inS s.S fr (fr + (data.length : Int)) then (L, 71) else (putV L ⟨id, s.size, layS s.S fr data⟩, 0)
/-- Bytes in pieces of 32. -/
def pieces (d : List UInt8) : Nat → List (List UInt8)
  | 0 => []
  | n + 1 => d.take 32 :: pieces (d.drop 32) n
theorem pieces_len (d : List UInt8) : ∀ n, (pieces d n).length = n := fun n => by
  induction n generalizing d with
  | zero => rfl
  | succ n ih => simp [pieces, ih]
theorem pieces_get {d : List UInt8} : ∀ {n i : Nat}, i < n → (pieces d n)[i]? = some ((d.drop (32 * i)).take 32)
  | n + 1, 0, _ => by simp [pieces]
  | n + 1, i + 1, h => by
    rw [pieces, List.getElem?_cons_succ, pieces_get (by omega), List.drop_drop]
    congr 3; omega
def writeV (cap : Int) (L : List Spc) (id fr : Int) (d : List UInt8) : List Spc × Int :=
  let e := withinV L id fr (d.length / 32 : Nat) (decide (d.length % 32 = 0) && decide (d.length / 32 ≤ 8))
  if e ≠ 0 then (L, e) else layV cap L id fr (pieces d (d.length / 32))
def zeroV (cap : Int) (L : List Spc) (id fr n : Int) : List Spc × Int :=
  let e := withinV L id fr n true
  if e ≠ 0 then (L, e) else layV cap L id fr (List.replicate n.toNat blankB)
def trimV (L : List Spc) (id fr n : Int) : List Spc × Int :=
  let e := withinV L id fr n true
  if e ≠ 0 then (L, e) else
  match getG id L with
  | none => (L, 4)
  | some s => (putV L ⟨id, s.size, cutS s.S fr (fr + n)⟩, 0)
def readS (S : List Sc) (fr : Int) : Nat → List UInt8
  | 0 => []
  | n + 1 => readS S fr n ++ ofSc S (fr + (n : Int))
def readV (L : List Spc) (id fr n : Int) : List UInt8 × Int :=
  let e := withinV L id fr n (decide (n ≤ 8))
  if e ≠ 0 then ([], e) else
  match getG id L with
  | none => ([], 4)
  | some s => (readS s.S fr n.toNat, 0)

/- what may be -/
structure SecOk (size : Int) (S : List Sc) : Prop where
  srt : SortedG S
  rng : ∀ x ∈ S, 0 ≤ x.at_ ∧ x.at_ < size
  len : ∀ x ∈ S, x.dat.length = 32
structure VolOk (cap : Int) (L : List Spc) : Prop where
  c0 : 0 ≤ cap
  c1 : cap ≤ 200
  srt : SortedG L
  ids : ∀ s ∈ L, 1 ≤ s.id ∧ s.id ≤ 65535
  szs : ∀ s ∈ L, 0 ≤ s.size ∧ s.size ≤ 16777216
  sec : ∀ s ∈ L, SecOk s.size s.S
  use : usedV L ≤ cap
  len : L.length ≤ 8

theorem usedV_nn : ∀ (L : List Spc), 0 ≤ usedV L
  | [] => Int.le_refl _
  | s :: r => by have := usedV_nn r; simp only [usedV]; omega
theorem usedV_ins {x : Spc} : ∀ {L : List Spc}, usedV (insG x L) = (x.S.length : Int) + usedV L
  | [] => rfl
  | a :: r => by
    simp only [insG]
    split
    · rfl
    · simp only [usedV, usedV_ins (L := r)]; omega
theorem usedV_del {a : Spc} : ∀ {L : List Spc}, SortedG L → a ∈ L → usedV (delG a.id L) = usedV L - (a.S.length : Int)
  | [], _, h => by cases h
  | x :: r, hs, h => by
    have hp := List.pairwise_cons.1 hs
    simp only [delG, key_spc]
    rcases List.mem_cons.1 h with rfl | h'
    · rw [if_pos rfl, delG_id fun b hb => by have := hp.1 b hb; simp only [key_spc] at this ⊢; omega]; simp only [usedV]; omega
    · have := hp.1 a h'
      simp only [key_spc] at this
      rw [if_neg (by omega)]
      simp only [usedV, usedV_del hp.2 h']; omega
theorem usedV_mem {a : Spc} {L : List Spc} (hs : SortedG L) (h : a ∈ L) : (a.S.length : Int) ≤ usedV L := by
  have := usedV_del hs h
  have := usedV_nn (delG a.id L)
  omega
theorem VolOk.new {cap : Int} (h0 : 0 ≤ cap) (h1 : cap ≤ 200) : VolOk cap [] :=
  ⟨h0, h1, List.Pairwise.nil, (fun s h => by cases h), (fun s h => by cases h), (fun s h => by cases h), h0, by simp⟩
/-- One namespace that changes. -/
theorem VolOk.put {cap : Int} {L : List Spc} (h : VolOk cap L) {a b : Spc} (ha : a ∈ L) (hid : b.id = a.id) (hs : 0 ≤ b.size ∧ b.size ≤ 16777216) (hu : SecOk b.size b.S) (hc : usedV L - (a.S.length : Int) + (b.S.length : Int) ≤ cap) : VolOk cap (putV L b) := by
  have hn : ∀ y ∈ delG b.id L, key y ≠ key b := fun y hy => by have := (mem_delG.1 hy).2; exact this
  have hm : ∀ {y}, y ∈ putV L b → y = b ∨ y ∈ L := fun {y} hy => (mem_insG.1 hy).imp id fun hy => (mem_delG.1 hy).1
  have hids := h.ids a ha
  refine ⟨h.c0, h.c1, insG_sorted (delG_sorted h.srt) hn, fun s hs' => ?_, fun s hs' => ?_, fun s hs' => ?_, ?_, ?_⟩
  · rcases hm hs' with rfl | h2
    · omega
    · exact h.ids s h2
  · rcases hm hs' with rfl | h2
    · exact hs
    · exact h.szs s h2
  · rcases hm hs' with rfl | h2
    · exact hu
    · exact h.sec s h2
  · rw [putV, usedV_ins, hid, usedV_del h.srt ha]; omega
  · have := delG_len h.srt ha
    rw [putV, insG_len, hid]
    have h8 := h.len
    simp only [key_spc] at this
    omega
theorem VolOk.del {cap : Int} {L : List Spc} (h : VolOk cap L) (id : Int) : VolOk cap (delG id L) := by
  have hm : ∀ {y}, y ∈ delG id L → y ∈ L := fun {y} hy => (mem_delG.1 hy).1
  refine ⟨h.c0, h.c1, delG_sorted h.srt, fun s hs => h.ids s (hm hs), fun s hs => h.szs s (hm hs), fun s hs => h.sec s (hm hs), ?_, ?_⟩
  · cases hg : getG id L with
    | none => rw [delG_id (getG_none hg)]; exact h.use
    | some a =>
      obtain ⟨h1, rfl⟩ := getG_some hg
      have := usedV_del h.srt h1
      have h3 := h.use
      simp only [key_spc] at this ⊢
      omega
  · cases hg : getG id L with
    | none => rw [delG_id (getG_none hg)]; exact h.len
    | some a =>
      obtain ⟨h1, rfl⟩ := getG_some hg
      have := delG_len h.srt h1
      have h3 := h.len
      omega
theorem VolOk.create {cap : Int} {L : List Spc} (h : VolOk cap L) (id size : Int) : VolOk cap (createV L id size).1 := by
  unfold createV
  split
  · exact h
  · rename_i c
    cases hg : getG id L with
    | some a => exact h
    | none =>
      simp only
      split
      · exact h
      · have hn : ∀ y ∈ L, key y ≠ key (⟨id, size, []⟩ : Spc) := getG_none hg
        refine ⟨h.c0, h.c1, insG_sorted h.srt hn, fun s hs => ?_, fun s hs => ?_, fun s hs => ?_, ?_, ?_⟩
        · rcases mem_insG.1 hs with rfl | h2
          · simp only; omega
          · exact h.ids s h2
        · rcases mem_insG.1 hs with rfl | h2
          · simp only; omega
          · exact h.szs s h2
        · rcases mem_insG.1 hs with rfl | h2
          · exact ⟨List.Pairwise.nil, (fun x hx => by cases hx), (fun x hx => by cases hx)⟩
          · exact h.sec s h2
        · rw [usedV_ins]; have := h.use; simp only [List.length_nil]; omega
        · rw [insG_len]; omega

theorem sorted_filter {S : List Sc} (h : SortedG S) (p : Sc → Bool) : SortedG (S.filter p) := List.Pairwise.sublist List.filter_sublist h
theorem cutS_len (S : List Sc) (fr to_ : Int) : (cutS S fr to_).length ≤ S.length := List.length_filter_le _ _
theorem SecOk.filter {size : Int} {S : List Sc} (h : SecOk size S) (p : Sc → Bool) : SecOk size (S.filter p) :=
  ⟨sorted_filter h.srt p, fun x hx => h.rng x (List.mem_filter.1 hx).1, fun x hx => h.len x (List.mem_filter.1 hx).1⟩
theorem SecOk.shrink {size size' : Int} {S : List Sc} (h : SecOk size S) (hs : size ≤ 16777216) : SecOk size' (cutS S size' 16777216) :=
  ⟨sorted_filter h.srt _, fun x hx => by
    obtain ⟨h1, h2⟩ := List.mem_filter.1 hx
    have := h.rng x h1
    simp only [Bool.or_eq_true, decide_eq_true_eq] at h2
    omega, fun x hx => h.len x (List.mem_filter.1 hx).1⟩
theorem scsFrom_len (fr : Int) (d : List (List UInt8)) : (scsFrom fr d).length = d.length := by
  induction d generalizing fr with
  | nil => rfl
  | cons a r ih => simp [scsFrom, ih]
theorem mem_scsFrom {x : Sc} : ∀ {d : List (List UInt8)} {fr : Int}, x ∈ scsFrom fr d → fr ≤ x.at_ ∧ x.at_ < fr + (d.length : Int) ∧ x.dat ∈ d
  | [], _, h => by cases h
  | a :: r, fr, h => by
    simp only [scsFrom, List.mem_cons] at h
    simp only [List.length_cons, List.mem_cons]
    rcases h with rfl | h
    · exact ⟨Int.le_refl _, by show fr < _; omega, .inl rfl⟩
    · obtain ⟨h1, h2, h3⟩ := mem_scsFrom h
      exact ⟨by omega, by omega, .inr h3⟩
theorem scsFrom_sorted : ∀ (d : List (List UInt8)) (fr : Int), SortedG (scsFrom fr d)
  | [], _ => List.Pairwise.nil
  | a :: r, fr => List.pairwise_cons.2 ⟨fun y hy => by have := (mem_scsFrom hy).1; simp only [key_sc]; omega, scsFrom_sorted r (fr + 1)⟩
theorem scsFrom_get (fr : Int) : ∀ {d : List (List UInt8)} {i : Nat}, (scsFrom fr d)[i]? = (d[i]?).map fun x => ⟨fr + (i : Int), x⟩ := by
  intro d i
  induction d generalizing fr i with
  | nil => simp [scsFrom]
  | cons a r ih =>
    cases i with
    | zero => simp [scsFrom]
    | succ i =>
      simp only [scsFrom, List.getElem?_cons_succ, ih]
      cases r[i]? with
      | none => rfl
      | some v => simp only [Option.map_some, Option.some.injEq, Sc.mk.injEq, and_true]; omega
theorem filter_parts : ∀ (S : List Sc) {fr to_ : Int}, fr ≤ to_ → ((S.filter fun x => decide (x.at_ < fr)).length + (S.filter fun x => decide (to_ ≤ x.at_)).length) = (cutS S fr to_).length
  | [], _, _, _ => rfl
  | a :: r, fr, to_, h => by
    have ih := filter_parts r h
    simp only [cutS] at ih ⊢
    by_cases h1 : a.at_ < fr
    · have h2 : ¬ to_ ≤ a.at_ := by omega
      simp only [List.filter_cons, h1, h2, decide_true, decide_false, Bool.true_or, if_true, Bool.false_eq_true, if_false, List.length_cons]
      omega
    · by_cases h2 : to_ ≤ a.at_
      · simp only [List.filter_cons, h1, h2, decide_true, decide_false, Bool.false_or, if_true, Bool.false_eq_true, if_false, List.length_cons]
        omega
      · simp only [List.filter_cons, h1, h2, decide_false, Bool.or_self, Bool.false_eq_true, if_false]
        exact ih
theorem layS_len (S : List Sc) (fr : Int) (d : List (List UInt8)) : ((layS S fr d).length : Int) = (S.length : Int) - inS S fr (fr + (d.length : Int)) + (d.length : Int) := by
  have := filter_parts S (fr := fr) (to_ := fr + (d.length : Int)) (by omega)
  simp only [layS, List.length_append, scsFrom_len, inS]
  omega
theorem SecOk.lay {size : Int} {S : List Sc} (h : SecOk size S) {fr : Int} {d : List (List UInt8)} (h0 : 0 ≤ fr) (h1 : fr + (d.length : Int) ≤ size) (hd : ∀ x ∈ d, x.length = 32) : SecOk size (layS S fr d) := by
  have hm : ∀ {x}, x ∈ layS S fr d → x ∈ S ∨ x ∈ scsFrom fr d := fun {x} hx => by
    rcases List.mem_append.1 hx with hx | hx
    · exact .inl (List.mem_filter.1 hx).1
    · rcases List.mem_append.1 hx with hx | hx
      · exact .inr hx
      · exact .inl (List.mem_filter.1 hx).1
  refine ⟨?_, fun x hx => ?_, fun x hx => ?_⟩
  · refine List.pairwise_append.2 ⟨sorted_filter h.srt _, List.pairwise_append.2 ⟨scsFrom_sorted d fr, sorted_filter h.srt _, fun x hx y hy => ?_⟩, fun x hx y hy => ?_⟩
    · have h2 := mem_scsFrom hx
      have h3 := (List.mem_filter.1 hy).2
      simp only [decide_eq_true_eq] at h3
      simp only [key_sc]; omega
    · have h3 := (List.mem_filter.1 hx).2
      simp only [decide_eq_true_eq] at h3
      rcases List.mem_append.1 hy with hy | hy
      · have h2 := mem_scsFrom hy
        simp only [key_sc]; omega
      · have h2 := (List.mem_filter.1 hy).2
        simp only [decide_eq_true_eq] at h2
        simp only [key_sc]; omega
  · rcases hm hx with h2 | h2
    · exact h.rng x h2
    · have := mem_scsFrom h2; omega
  · rcases hm hx with h2 | h2
    · exact h.len x h2
    · exact hd _ (mem_scsFrom h2).2.2

theorem VolOk.resize {cap : Int} {L : List Spc} (h : VolOk cap L) (id size : Int) : VolOk cap (resizeV L id size).1 := by
  unfold resizeV
  split
  · exact h
  · cases hg : getG id L with
    | none => exact h
    | some s =>
      obtain ⟨h1, h2⟩ := getG_some hg
      have hz := h.szs s h1
      have hl := cutS_len s.S size 16777216
      have hu := h.use
      exact h.put h1 h2.symm (by simp only; omega) ((h.sec s h1).shrink (by omega)) (by simp only; omega)
theorem VolOk.delete {cap : Int} {L : List Spc} (h : VolOk cap L) (id : Int) : VolOk cap (deleteV L id).1 := by
  unfold deleteV
  split
  · exact h
  · exact h.del id
theorem within_ok {L : List Spc} {id fr n : Int} {may : Bool} (h : withinV L id fr n may = 0) : ∃ s, getG id L = some s ∧ may = true ∧ 1 ≤ n ∧ 0 ≤ fr ∧ fr + n ≤ s.size := by
  unfold withinV at h
  cases hg : getG id L with
  | none => rw [hg] at h; simp at h
  | some s =>
    rw [hg] at h
    simp only at h
    split at h
    · simp at h
    · rename_i c
      split at h
      · simp at h
      · rename_i c2
        refine ⟨s, rfl, ?_, by omega, by omega, by omega⟩
        cases may with
        | true => rfl
        | false => simp at c
theorem VolOk.lay {cap : Int} {L : List Spc} (h : VolOk cap L) {id fr : Int} {d : List (List UInt8)} {s : Spc} (hg : getG id L = some s) (h0 : 0 ≤ fr) (h1 : fr + (d.length : Int) ≤ s.size) (hd : ∀ x ∈ d, x.length = 32) : VolOk cap (layV cap L id fr d).1 := by
  unfold layV
  rw [hg]
  simp only
  split
  · exact h
  · obtain ⟨h2, h3⟩ := getG_some hg
    have hl := layS_len s.S fr d
    exact h.put h2 h3.symm (h.szs s h2) ((h.sec s h2).lay h0 h1 hd) (by simp only; omega)
theorem pieces_32 : ∀ (n : Nat) (d : List UInt8), 32 * n ≤ d.length → ∀ x ∈ pieces d n, x.length = 32
  | 0, _, _, x, hx => by cases hx
  | n + 1, d, h, x, hx => by
    rcases List.mem_cons.1 hx with rfl | hx
    · simp; omega
    · exact pieces_32 n (d.drop 32) (by simp; omega) x hx
theorem VolOk.write {cap : Int} {L : List Spc} (h : VolOk cap L) (id fr : Int) (d : List UInt8) : VolOk cap (writeV cap L id fr d).1 := by
  unfold writeV
  simp only
  split
  · exact h
  · rename_i c
    obtain ⟨s, hg, hm, h1, h2, h3⟩ := within_ok (Decidable.not_not.1 c)
    exact h.lay hg h2 (by rw [pieces_len]; omega) (pieces_32 _ d (by omega))
theorem VolOk.zero {cap : Int} {L : List Spc} (h : VolOk cap L) (id fr n : Int) : VolOk cap (zeroV cap L id fr n).1 := by
  unfold zeroV
  simp only
  split
  · exact h
  · rename_i c
    obtain ⟨s, hg, hm, h1, h2, h3⟩ := within_ok (Decidable.not_not.1 c)
    exact h.lay hg h2 (by rw [List.length_replicate]; omega) fun x hx => by rw [(List.mem_replicate.1 hx).2]; rfl
theorem VolOk.trim {cap : Int} {L : List Spc} (h : VolOk cap L) (id fr n : Int) : VolOk cap (trimV L id fr n).1 := by
  unfold trimV
  simp only
  split
  · exact h
  · cases hg : getG id L with
    | none => exact h
    | some s =>
      obtain ⟨h1, h2⟩ := getG_some hg
      have hl := cutS_len s.S fr (fr + n)
      have hu := h.use
      exact h.put h1 h2.symm (h.szs s h1) ((h.sec s h1).filter _) (by simp only; omega)
end Go.Proofs.Ythjnfjgejdlbfaa.Aw
