/-
  Sorting by merging in place: what its steps come to. Plain Lean.; Lists of pages: places changed with one another, a part turned about.; Which of two pages with root records comes first.; Lists of pages: sorted by putting in one by one.; Lists of pages: sorted, those alike left in their order.; The pages that have root records, sorted. Written by a program (mkroots.py).
-/
import Derived.Test.YtdgpiobmncohjaaGreatDoorAwBun
import Derived.Test.YtdgpiobmncohjaaGreatDoorCodeS
import Derived.Test.YtdgpiobmncohjaaGreatDoorRta
set_option linter.unusedSimpArgs false
set_option linter.unusedVariables false
namespace Go.Proofs.YtdgpiobmncohjaaGreatDoor.Aw.Rt
open Go.RowKit

structure Ordr {α : Type} (lt : α → α → Bool) : Prop where
  asym : ∀ x y, lt x y = true → lt y x = false
  tr : ∀ x y z, lt y x = false → lt z y = false → lt z x = false
section
variable {α : Type} {lt : α → α → Bool}
def Srt (lt : α → α → Bool) (l : List α) : Prop := l.Pairwise fun x y => lt y x = false
theorem srt_app {A B : List α} : Srt lt (A ++ B) ↔ Srt lt A ∧ Srt lt B ∧ ∀ u ∈ A, ∀ v ∈ B, lt v u = false := List.pairwise_append
theorem Ordr.refl (h : Ordr lt) (x : α) : lt x x = false := by
  cases e : lt x x with
  | false => rfl
  | true => have := h.asym x x e; rw [e] at this; exact this
theorem srt_last (h : Ordr lt) {A : List α} {x : α} (hs : Srt lt (A ++ [x])) : ∀ u ∈ A ++ [x], lt x u = false := by
  intro u hu
  rw [List.mem_append, List.mem_singleton] at hu
  rcases hu with hu | rfl
  · exact (srt_app.1 hs).2.2 u hu x (by simp)
  · exact h.refl u
theorem srt_head (h : Ordr lt) {A : List α} {x : α} (hs : Srt lt (x :: A)) : ∀ u ∈ x :: A, lt u x = false := by
  intro u hu
  rw [List.mem_cons] at hu
  rcases hu with rfl | hu
  · exact h.refl u
  · exact (List.pairwise_cons.1 hs).1 u hu
/-- One is put between those that are not behind it, and those that are not ahead. -/
theorem srt_put (h : Ordr lt) {A B : List α} {x : α} (hs : Srt lt (A ++ B)) (h1 : A = [] ∨ ∃ A' y, A = A' ++ [y] ∧ lt x y = false) (h2 : B = [] ∨ ∃ y B', B = y :: B' ∧ lt y x = false) : Srt lt (A ++ x :: B) := by
  have hs' := srt_app.1 hs
  have hA : ∀ u ∈ A, lt x u = false := by
    rcases h1 with rfl | ⟨A', y, rfl, e⟩
    · intro u hu; cases hu
    · exact fun u hu => h.tr u y x (srt_last h hs'.1 u hu) e
  have hB : ∀ v ∈ B, lt v x = false := by
    rcases h2 with rfl | ⟨y, B', rfl, e⟩
    · intro u hu; cases hu
    · exact fun v hv => h.tr x y v e (srt_head h hs'.2.1 v hv)
  refine srt_app.2 ⟨hs'.1, List.pairwise_cons.2 ⟨hB, hs'.2.1⟩, fun u hu v hv => ?_⟩
  rw [List.mem_cons] at hv
  rcases hv with rfl | hv
  · exact hA u hu
  · exact hs'.2.2 u hu v hv
theorem set_mid (A B : List α) (x y : α) : (A ++ x :: B).set A.length y = A ++ y :: B := by simp
theorem get_mid (A B : List α) (x : α) (i : Nat) (hi : i = A.length) (h : i < (A ++ x :: B).length) : (A ++ x :: B)[i] = x := by subst hi; simp
/-- Two that are changed with one another. -/
theorem set_swap (A B C : List α) (x y : α) (i j : Nat) (hi : i = A.length) (hj : j = A.length + 1 + B.length) : ((A ++ x :: (B ++ y :: C)).set i y).set j x = A ++ y :: (B ++ x :: C) := by
  subst hi
  rw [set_mid, hj, show A ++ y :: (B ++ y :: C) = (A ++ y :: B) ++ y :: C by simp, show A.length + 1 + B.length = (A ++ y :: B).length by simp; omega, set_mid]
  simp
theorem set_swap' (A B C : List α) (x y : α) (i j : Nat) (hi : i = A.length) (hj : j = A.length + 1 + B.length) : ((A ++ x :: (B ++ y :: C)).set j x).set i y = A ++ y :: (B ++ x :: C) := by
  rw [List.set_comm _ _ (by omega), set_swap A B C x y i j hi hj]
theorem snoc_of (A : List α) (h : A ≠ []) : ∃ A' x, A = A' ++ [x] := ⟨A.dropLast, A.getLast h, (List.dropLast_concat_getLast h).symm⟩
/-- A list in two at a place. -/
theorem cut_at (A : List α) (n : Nat) (h : n ≤ A.length) : ∃ A1 A2, A = A1 ++ A2 ∧ A1.length = n := ⟨A.take n, A.drop n, (List.take_append_drop n A).symm, by simp; omega⟩
end

end Go.Proofs.YtdgpiobmncohjaaGreatDoor.Aw.Rt
namespace Go.Proofs.YtdgpiobmncohjaaGreatDoor.Aw.Rt
open Go.RowKit

structure Fd where
  at_ : Int
  kind : Int
  space : Int
  key : Int
  seq : Int
  body : List UInt8
deriving DecidableEq
def rowF (x : Fd) : List PV := [.int .i64 x.at_, .int .i64 x.kind, .int .i64 x.space, .int .i64 x.key, .int .i64 x.seq, .str x.body]
theorem rowF_len (x : Fd) : (rowF x).length = 6 := rfl
abbrev lF (l : List Fd) : AObj := .list 6 (l.map rowF)
theorem isF {l : List Fd} {o m : Nat} {v : Int} {i : Nat} (hv : v = (i : Int)) (hi : i < l.length) (hm : m = l.length) : islO (some (lF l)) 6 o 0 m (.int .i64 v) = some (.lref o i 0 m) := by
  subst hv
  rw [islO_at (by simpa using hm) (by simpa using hi)]; simp [hm]
theorem ldF {l : List Fd} {i m : Nat} (hi : i < l.length) (hm : m = l.length) : ldL (some (lF l)) i 0 m 6 = some (rowF l[i]) := by
  rw [ldL_at (by simp [hm]) (by simpa using hi) (by simp [rowF])]; simp [rowF]
theorem stF {ob : List AObj} {o i m : Nat} {l : List Fd} {x : Fd} (hi : i < l.length) (hm : m = l.length) : stL ob o (some (lF l)) i 0 m (rowF x) = some (.bot, ob.set o (lF (l.set i x))) := by
  have h1 : i < (l.map rowF).length := by simpa using hi
  simp [stL, List.getElem?_eq_getElem h1, hm, rowF, setAt, lF, List.map_set]
theorem set_self {ob : List AObj} {o : Nat} {a : AObj} (h : ob[o]? = some a) : ob.set o a = ob := by
  have hl := (List.getElem?_eq_some_iff.1 h).1
  rw [List.getElem?_eq_getElem hl] at h
  injection h with h
  rw [← h]; simp
end Go.Proofs.YtdgpiobmncohjaaGreatDoor.Aw.Rt
namespace Go.Proofs.YtdgpiobmncohjaaGreatDoor.Aw.Rt
open Go.RowKit

theorem nan_spec (a : Int) : PCall Tryz.prog 87 [.int .i64 a] (.bool false) := by
  refine pcall_dr Tryz.func87 comp_cmp_isNaN_int ?_
  have d : ((a : Int) != a) = false := by simp
  simp (config := {maxSteps := 4000000}) only [U_cmp_isNaN_int, d, reduceIte, reduceCtorEq, Nat.reduceEqDiff, Nat.reduceAdd, Int.reduceLT, Int.reduceLE, Int.reduceNeg, Int.reduceEq, Nat.reduceLT, Nat.reduceSub, Nat.reduceMul, Nat.reduceBEq, Nat.reduceLeDiff, Int.reduceBEq, Int.reduceBNe, Int.reduceToNat, ne_eq, implies_true, bA]
def cmpZ (a b : Int) : Int := if a < b then -1 else if b < a then 1 else 0
theorem compare_spec (a b : Int) : PCall Tryz.prog 50 [.int .i64 a, .int .i64 b] (.int .i64 (cmpZ a b)) := by
  refine pcall_dr Tryz.func50 comp_cmp_Compare_int ?_
  simp (config := {maxSteps := 4000000}) only [U_cmp_Compare_int, reduceIte, reduceCtorEq, Nat.reduceEqDiff, Nat.reduceAdd, Int.reduceLT, Int.reduceLE, Int.reduceNeg, Int.reduceEq, Nat.reduceLT, Nat.reduceSub, Nat.reduceMul, Nat.reduceBEq, Nat.reduceLeDiff, Int.reduceBEq, Int.reduceBNe, Int.reduceToNat, ne_eq, implies_true, bA]
  refine callI (nan_spec a) ?_
  simp (config := {maxSteps := 4000000}) only [U_cmp_Compare_int, reduceIte, reduceCtorEq, Nat.reduceEqDiff, Nat.reduceAdd, Int.reduceLT, Int.reduceLE, Int.reduceNeg, Int.reduceEq, Nat.reduceLT, Nat.reduceSub, Nat.reduceMul, Nat.reduceBEq, Nat.reduceLeDiff, Int.reduceBEq, Int.reduceBNe, Int.reduceToNat, ne_eq, implies_true, bA]
  refine callI (nan_spec b) ?_
  unfold cmpZ
  by_cases h : a < b
  · have d : decide (a < b) = true := by simpa using h
    rw [if_pos h]
    simp (config := {maxSteps := 4000000}) only [U_cmp_Compare_int, d, reduceIte, reduceCtorEq, Nat.reduceEqDiff, Nat.reduceAdd, Int.reduceLT, Int.reduceLE, Int.reduceNeg, Int.reduceEq, Nat.reduceLT, Nat.reduceSub, Nat.reduceMul, Nat.reduceBEq, Nat.reduceLeDiff, Int.reduceBEq, Int.reduceBNe, Int.reduceToNat, ne_eq, implies_true, bA]
  · have d : decide (a < b) = false := by simpa using h
    rw [if_neg h]
    by_cases h2 : b < a
    · have d2 : decide (b < a) = true := by simpa using h2
      rw [if_pos h2]
      simp (config := {maxSteps := 4000000}) only [U_cmp_Compare_int, d, d2, reduceIte, reduceCtorEq, Nat.reduceEqDiff, Nat.reduceAdd, Int.reduceLT, Int.reduceLE, Int.reduceNeg, Int.reduceEq, Nat.reduceLT, Nat.reduceSub, Nat.reduceMul, Nat.reduceBEq, Nat.reduceLeDiff, Int.reduceBEq, Int.reduceBNe, Int.reduceToNat, ne_eq, implies_true, bA]
    · have d2 : decide (b < a) = false := by simpa using h2
      rw [if_neg h2]
      simp (config := {maxSteps := 4000000}) only [U_cmp_Compare_int, d, d2, reduceIte, reduceCtorEq, Nat.reduceEqDiff, Nat.reduceAdd, Int.reduceLT, Int.reduceLE, Int.reduceNeg, Int.reduceEq, Nat.reduceLT, Nat.reduceSub, Nat.reduceMul, Nat.reduceBEq, Nat.reduceLeDiff, Int.reduceBEq, Int.reduceBNe, Int.reduceToNat, ne_eq, implies_true, bA]
def orZ (a b c : Int) : Int := if a ≠ 0 then a else if b ≠ 0 then b else c
theorem or3_spec (a b c : Int) : PCall Tryz.prog 49 [.slc [[.int .i64 a], [.int .i64 b], [.int .i64 c]]] (.int .i64 (orZ a b c)) := by
  refine pcall_dr Tryz.func49 comp_cmp_Or_int ?_
  obtain ⟨l, hl⟩ : ∃ l : List Int, [a, b, c] = l := ⟨_, rfl⟩
  have hs : [[PV.int .i64 a], [PV.int .i64 b], [PV.int .i64 c]] = rowsZ .i64 l := by rw [← hl]; rfl
  have hll : l.length = 3 := by rw [← hl]; rfl
  have hrl : (l.length : Int) = 3 := by omega
  rw [hs]
  simp (config := {maxSteps := 4000000}) only [U_cmp_Or_int, hrl, reduceIte, reduceCtorEq, Nat.reduceEqDiff, Nat.reduceAdd, Int.reduceLT, Int.reduceLE, Int.reduceNeg, Int.reduceEq, Nat.reduceLT, Nat.reduceSub, Nat.reduceMul, Nat.reduceBEq, Nat.reduceLeDiff, Int.reduceBEq, Int.reduceBNe, Int.reduceToNat, ne_eq, implies_true, bA]
  refine loopF (fun i : Nat => ⟨ofL [(3, .int .i64 0), (6, .slc (rowsZ .i64 l)), (7, .int .i64 3), (8, .int .i64 (i : Int))], []⟩) (fun i => i ≤ 3 ∧ ∀ j (h : j < l.length), j < i → l[j] = 0) (fun i => 3 - i) 0 ?_ ⟨Nat.zero_le _, fun j h hj => absurd hj (Nat.not_lt_zero _)⟩ ?_
  · simp (config := {maxSteps := 4000000}) only [U_cmp_Or_int, hrl, reduceIte, reduceCtorEq, Nat.reduceEqDiff, Nat.reduceAdd, Int.reduceLT, Int.reduceLE, Int.reduceNeg, Int.reduceEq, Nat.reduceLT, Nat.reduceSub, Nat.reduceMul, Nat.reduceBEq, Nat.reduceLeDiff, Int.reduceBEq, Int.reduceBNe, Int.reduceToNat, ne_eq, implies_true, bA]
    all_goals rfl
  · rintro i ⟨hi, hj⟩
    by_cases hlt : i < 3
    · have d : decide ((i : Int) < 3) = true := by simpa using (by omega : (i : Int) < 3)
      have hr : i < (rowsZ .i64 l).length := by simp [rowsZ]; omega
      have i1 : ∀ ob : List AObj, islV ob [] 1 (.slc (rowsZ .i64 l)) (.int .i64 (i : Int)) = some (.fptr [.int .i64 (l[i]'(by omega))]) := fun ob => by
        rw [islV_slc (k := .i64) hr (by simp [rowsZ])]; simp [rowsZ]
      have e1 : IntKind.i64.wrap ((i : Int) + 1) = ((i + 1 : Nat) : Int) := by rw [wrapI (by omega) (by omega)]; omega
      by_cases h0 : l[i]'(by omega) = 0
      · have d2 : ((l[i]'(by omega) : Int) != 0) = false := by simp [h0]
        simp (config := {maxSteps := 4000000}) only [U_cmp_Or_int, d, i1, d2, e1, reduceIte, reduceCtorEq, Nat.reduceEqDiff, Nat.reduceAdd, Int.reduceLT, Int.reduceLE, Int.reduceNeg, Int.reduceEq, Nat.reduceLT, Nat.reduceSub, Nat.reduceMul, Nat.reduceBEq, Nat.reduceLeDiff, Int.reduceBEq, Int.reduceBNe, Int.reduceToNat, ne_eq, implies_true, bA]
        refine ⟨i + 1, rfl, ⟨hlt, fun j h hji => ?_⟩, by omega⟩
        by_cases hji' : j < i
        · exact hj j h hji'
        · have : j = i := by omega
          subst this; exact h0
      · have d2 : ((l[i]'(by omega) : Int) != 0) = true := by simp [h0]
        have hv : orZ a b c = l[i]'(by omega) := by
          subst hl
          unfold orZ
          have h3 : i = 0 ∨ i = 1 ∨ i = 2 := by omega
          rcases h3 with rfl | rfl | rfl
          · rw [if_pos (by simpa using h0)]; rfl
          · have := hj 0 (by simp) (by omega)
            rw [if_neg (by simpa using this), if_pos (by simpa using h0)]; rfl
          · have h1 := hj 0 (by simp) (by omega)
            have h2 := hj 1 (by simp) (by omega)
            rw [if_neg (by simpa using h1), if_neg (by simpa using h2)]; rfl
        rw [hv]
        simp (config := {maxSteps := 4000000}) only [U_cmp_Or_int, d, i1, d2, reduceIte, reduceCtorEq, Nat.reduceEqDiff, Nat.reduceAdd, Int.reduceLT, Int.reduceLE, Int.reduceNeg, Int.reduceEq, Nat.reduceLT, Nat.reduceSub, Nat.reduceMul, Nat.reduceBEq, Nat.reduceLeDiff, Int.reduceBEq, Int.reduceBNe, Int.reduceToNat, ne_eq, implies_true, bA]
    · have d : decide ((i : Int) < 3) = false := by simpa using (by omega : (3 : Int) ≤ (i : Int))
      have hv : orZ a b c = 0 := by
        subst hl
        have h0 := hj 0 (by simp) (by omega)
        have h1 := hj 1 (by simp) (by omega)
        have h2 := hj 2 (by simp) (by omega)
        simp only [List.getElem_cons_zero, List.getElem_cons_succ] at h0 h1 h2
        simp [orZ, h0, h1, h2]
      rw [hv]
      simp (config := {maxSteps := 4000000}) only [U_cmp_Or_int, d, reduceIte, reduceCtorEq, Nat.reduceEqDiff, Nat.reduceAdd, Int.reduceLT, Int.reduceLE, Int.reduceNeg, Int.reduceEq, Nat.reduceLT, Nat.reduceSub, Nat.reduceMul, Nat.reduceBEq, Nat.reduceLeDiff, Int.reduceBEq, Int.reduceBNe, Int.reduceToNat, ne_eq, implies_true, bA]
def genF (x : Fd) : Int := (readR x.body).1
def cmF (x y : Fd) : Int := orZ (cmpZ (genF y) (genF x)) (cmpZ y.seq x.seq) (cmpZ y.at_ x.at_)
def ltF (x y : Fd) : Bool := decide (cmF x y < 0)
theorem ltF_iff {x y : Fd} : ltF x y = true ↔ genF y < genF x ∨ (genF y = genF x ∧ (y.seq < x.seq ∨ (y.seq = x.seq ∧ y.at_ < x.at_))) := by
  unfold ltF cmF
  generalize genF x = a
  generalize genF y = b
  generalize x.seq = c
  generalize y.seq = d
  generalize x.at_ = e
  generalize y.at_ = f
  rw [decide_eq_true_eq]
  unfold orZ cmpZ
  by_cases h1 : b < a
  · simp [h1]
  · by_cases h2 : a < b
    · simp [h1, h2]; omega
    · have : a = b := by omega
      subst this
      by_cases h3 : d < c
      · simp [h3]
      · by_cases h4 : c < d
        · simp [h3, h4]; omega
        · have : c = d := by omega
          subst this
          by_cases h5 : f < e
          · simp [h5]
          · simp [h5]; split <;> omega
theorem ltF_no {x y : Fd} : ltF x y = false ↔ ¬ (genF y < genF x ∨ (genF y = genF x ∧ (y.seq < x.seq ∨ (y.seq = x.seq ∧ y.at_ < x.at_)))) := by
  rw [← ltF_iff]; simp
theorem ltF_ord : Ordr ltF where
  asym x y h := by rw [ltF_iff] at h; rw [ltF_no]; omega
  tr x y z h1 h2 := by rw [ltF_no] at h1 h2 ⊢; omega
theorem cmF_spec (x y : Fd) (hx : x.body.length ≤ 1000000) (hy : y.body.length ≤ 1000000) : PCall Tryz.prog 48 [.agg (rowF x), .agg (rowF y)] (.int .i64 (cmF x y)) := by
  refine pcall_dr Tryz.func48 comp_root_Roots_c1 ?_
  simp (config := {maxSteps := 4000000}) only [U_root_Roots_c1, rowF, reduceIte, reduceCtorEq, Nat.reduceEqDiff, Nat.reduceAdd, Int.reduceLT, Int.reduceLE, Int.reduceNeg, Int.reduceEq, Nat.reduceLT, Nat.reduceSub, Nat.reduceMul, Nat.reduceBEq, Nat.reduceLeDiff, Int.reduceBEq, Int.reduceBNe, Int.reduceToNat, ne_eq, implies_true, bA]
  refine callI (read_spec x.body hx) ?_
  simp (config := {maxSteps := 4000000}) only [U_root_Roots_c1, reduceIte, reduceCtorEq, Nat.reduceEqDiff, Nat.reduceAdd, Int.reduceLT, Int.reduceLE, Int.reduceNeg, Int.reduceEq, Nat.reduceLT, Nat.reduceSub, Nat.reduceMul, Nat.reduceBEq, Nat.reduceLeDiff, Int.reduceBEq, Int.reduceBNe, Int.reduceToNat, ne_eq, implies_true, bA]
  refine callI (read_spec y.body hy) ?_
  simp (config := {maxSteps := 4000000}) only [U_root_Roots_c1, reduceIte, reduceCtorEq, Nat.reduceEqDiff, Nat.reduceAdd, Int.reduceLT, Int.reduceLE, Int.reduceNeg, Int.reduceEq, Nat.reduceLT, Nat.reduceSub, Nat.reduceMul, Nat.reduceBEq, Nat.reduceLeDiff, Int.reduceBEq, Int.reduceBNe, Int.reduceToNat, ne_eq, implies_true, bA]
  refine callI (compare_spec _ _) ?_
  simp (config := {maxSteps := 4000000}) only [U_root_Roots_c1, reduceIte, reduceCtorEq, Nat.reduceEqDiff, Nat.reduceAdd, Int.reduceLT, Int.reduceLE, Int.reduceNeg, Int.reduceEq, Nat.reduceLT, Nat.reduceSub, Nat.reduceMul, Nat.reduceBEq, Nat.reduceLeDiff, Int.reduceBEq, Int.reduceBNe, Int.reduceToNat, ne_eq, implies_true, bA]
  refine callI (compare_spec _ _) ?_
  simp (config := {maxSteps := 4000000}) only [U_root_Roots_c1, reduceIte, reduceCtorEq, Nat.reduceEqDiff, Nat.reduceAdd, Int.reduceLT, Int.reduceLE, Int.reduceNeg, Int.reduceEq, Nat.reduceLT, Nat.reduceSub, Nat.reduceMul, Nat.reduceBEq, Nat.reduceLeDiff, Int.reduceBEq, Int.reduceBNe, Int.reduceToNat, ne_eq, implies_true, bA]
  refine callI (compare_spec _ _) ?_
  simp (config := {maxSteps := 4000000}) only [U_root_Roots_c1, reduceIte, reduceCtorEq, Nat.reduceEqDiff, Nat.reduceAdd, Int.reduceLT, Int.reduceLE, Int.reduceNeg, Int.reduceEq, Nat.reduceLT, Nat.reduceSub, Nat.reduceMul, Nat.reduceBEq, Nat.reduceLeDiff, Int.reduceBEq, Int.reduceBNe, Int.reduceToNat, ne_eq, implies_true, bA]
  refine callI (or3_spec _ _ _) ?_
  simp (config := {maxSteps := 4000000}) only [U_root_Roots_c1, reduceIte, reduceCtorEq, Nat.reduceEqDiff, Nat.reduceAdd, Int.reduceLT, Int.reduceLE, Int.reduceNeg, Int.reduceEq, Nat.reduceLT, Nat.reduceSub, Nat.reduceMul, Nat.reduceBEq, Nat.reduceLeDiff, Int.reduceBEq, Int.reduceBNe, Int.reduceToNat, ne_eq, implies_true, bA]
  rfl

end Go.Proofs.YtdgpiobmncohjaaGreatDoor.Aw.Rt
namespace Go.Proofs.YtdgpiobmncohjaaGreatDoor.Aw.Rt
open Go.RowKit

theorem atF {L A B : List Fd} {x : Fd} {o m n : Nat} (hL : L = A ++ x :: B) (hn : n = A.length) (hm : m = L.length) : islO (some (lF L)) 6 o 0 m (.int .i64 (n : Int)) = some (.lref o n 0 m) ∧ ldL (some (lF L)) n 0 m 6 = some (rowF x) := by
  have h : n < L.length := by rw [hL, hn]; simp
  refine ⟨isF rfl h hm, ?_⟩
  rw [ldF h hm, List.getElem_of_eq hL, get_mid _ _ _ _ hn]
theorem swF' {ob : List AObj} {o : Nat} {L A B C : List Fd} {x y : Fd} {i j m : Nat} {a : AObj} (ho : ob[o]? = some a) (hL : L = A ++ x :: (B ++ y :: C)) (hi : i = A.length) (hj : j = A.length + 1 + B.length) (hm : m = L.length) :
    stL (ob.set o (lF L)) o (some (lF L)) j 0 m (rowF x) = some (.bot, ob.set o (lF (L.set j x))) ∧ (ob.set o (lF (L.set j x)))[o]? = some (lF (L.set j x)) ∧
    islO (some (lF (L.set j x))) 6 o 0 m (.int .i64 (i : Int)) = some (.lref o i 0 m) ∧
    stL (ob.set o (lF (L.set j x))) o (some (lF (L.set j x))) i 0 m (rowF y) = some (.bot, ob.set o (lF (A ++ y :: (B ++ x :: C)))) := by
  have hi' : i < L.length := by rw [hL, hi]; simp
  have hj' : j < L.length := by rw [hL, hj]; simp; omega
  refine ⟨?_, set_get ho, isF rfl (by simpa using hi') (by simpa using hm), ?_⟩
  · rw [stF hj' hm, List.set_set]
  · rw [stF (by simpa using hi') (by simpa using hm), List.set_set, hL, set_swap' _ _ _ _ _ _ _ hi hj]
theorem rowF_own (x : Fd) : ownL (rowF x) = false := by simp [rowF, ownL, PV.own?]
theorem rowF_cell (x : Fd) : (rowF x).all PV.cell? = true := by simp [rowF, PV.cell?]
abbrev fnF : PV := .fn (.func 48) [] []
theorem ins_i {ob : List AObj} {o : Nat} {P X Q : List Fd} {N : Nat} {a b : Int} (hN : N = (P ++ (X ++ Q)).length) (hl : N ≤ 1000000) (ho : ob[o]? = some (lF (P ++ (X ++ Q)))) (hG : ∀ z ∈ X, z.body.length ≤ 1000000)
    (ha : a = (P.length : Int)) (hb : b = ((P.length + X.length : Nat) : Int)) :
    ICall Tryz.prog 124 [.osl o 0 N, .int .i64 a, .int .i64 b, fnF] ob fun r ob' => r = .tup [] ∧ ∃ Z, Srt ltF Z ∧ Z.Perm X ∧ ob' = ob.set o (lF (P ++ (Z ++ Q))) := by
  subst ha hb
  refine icall_dr Tryz.func124 comp_slices_insertionSortCmpFunc_api_Found ?_
  have hlen : N = P.length + (X.length + Q.length) := by rw [hN]; simp
  have w0 : IntKind.i64.wrap ((P.length : Int) + 1) = ((P.length + 1 : Nat) : Int) := by rw [wrapI (by omega) (by omega)]; omega
  obtain ⟨E, hE⟩ : ∃ E, P.length + X.length = E := ⟨_, rfl⟩
  rw [hE]
  simp (config := {maxSteps := 4000000}) only [U_slices_insertionSortCmpFunc_api_Found, w0, reduceIte, reduceCtorEq, Nat.reduceEqDiff, Nat.reduceAdd, Int.reduceLT, Int.reduceLE, Int.reduceNeg, Int.reduceEq, Nat.reduceLT, Nat.reduceSub, Nat.reduceMul, Nat.reduceBEq, Nat.reduceLeDiff, Int.reduceBEq, Int.reduceBNe, Int.reduceToNat, ne_eq, implies_true, bA]
  cases X with
  | nil =>
    refine loopF (fun _ : Unit => ⟨ofL [(0, .osl o 0 N), (1, .int .i64 (P.length : Int)), (2, .int .i64 (E : Int)), (3, fnF), (8, .int .i64 ((P.length + 1 : Nat) : Int))], ob⟩) (fun _ => True) (fun _ => 0) () ?_ trivial ?_
    · simp (config := {maxSteps := 4000000}) only [U_slices_insertionSortCmpFunc_api_Found, reduceIte, reduceCtorEq, Nat.reduceEqDiff, Nat.reduceAdd, Int.reduceLT, Int.reduceLE, Int.reduceNeg, Int.reduceEq, Nat.reduceLT, Nat.reduceSub, Nat.reduceMul, Nat.reduceBEq, Nat.reduceLeDiff, Int.reduceBEq, Int.reduceBNe, Int.reduceToNat, ne_eq, implies_true, bA]
    · rintro ⟨⟩ -
      have d : decide (((P.length + 1 : Nat) : Int) < (E : Int)) = false := by simp at hE ⊢; omega
      simp (config := {maxSteps := 4000000}) only [U_slices_insertionSortCmpFunc_api_Found, d, reduceIte, reduceCtorEq, Nat.reduceEqDiff, Nat.reduceAdd, Int.reduceLT, Int.reduceLE, Int.reduceNeg, Int.reduceEq, Nat.reduceLT, Nat.reduceSub, Nat.reduceMul, Nat.reduceBEq, Nat.reduceLeDiff, Int.reduceBEq, Int.reduceBNe, Int.reduceToNat, ne_eq, implies_true, bA]
      exact ⟨_, rfl, rfl, [], List.Pairwise.nil, List.Perm.refl _, by simp only [List.nil_append] at ho ⊢; rw [set_self ho]⟩
  | cons x0 X0 =>
    refine loopF (fun s : List Fd × List Fd => ⟨ofL [(0, .osl o 0 N), (1, .int .i64 (P.length : Int)), (2, .int .i64 (E : Int)), (3, fnF), (8, .int .i64 ((P.length + s.1.length : Nat) : Int))],
      ob.set o (lF (P ++ (s.1 ++ (s.2 ++ Q))))⟩) (fun s => Srt ltF s.1 ∧ s.1 ≠ [] ∧ (s.1 ++ s.2).Perm (x0 :: X0)) (fun s => s.2.length) ([x0], X0) ?_ ⟨List.pairwise_singleton _ _, by simp, by simp⟩ ?_
    · simp (config := {maxSteps := 4000000}) only [U_slices_insertionSortCmpFunc_api_Found, reduceIte, reduceCtorEq, Nat.reduceEqDiff, Nat.reduceAdd, Int.reduceLT, Int.reduceLE, Int.reduceNeg, Int.reduceEq, Nat.reduceLT, Nat.reduceSub, Nat.reduceMul, Nat.reduceBEq, Nat.reduceLeDiff, Int.reduceBEq, Int.reduceBNe, Int.reduceToNat, ne_eq, implies_true, bA]
      simp only [List.cons_append] at ho
      simp [set_self ho]
    · rintro ⟨Z, W⟩ ⟨hs, hz, hp⟩
      simp only at hs hz hp ⊢
      have hpl : Z.length + W.length = X0.length + 1 := by have := hp.length_eq; simpa using this
      have hG' : ∀ z ∈ Z ++ W, z.body.length ≤ 1000000 := fun z hz => hG z (hp.mem_iff.1 hz)
      cases W with
      | nil =>
        have d : decide (((P.length + Z.length : Nat) : Int) < (E : Int)) = false := by simp at hpl hE ⊢; omega
        simp only [List.append_nil] at hp
        simp (config := {maxSteps := 4000000}) only [U_slices_insertionSortCmpFunc_api_Found, d, reduceIte, reduceCtorEq, Nat.reduceEqDiff, Nat.reduceAdd, Int.reduceLT, Int.reduceLE, Int.reduceNeg, Int.reduceEq, Nat.reduceLT, Nat.reduceSub, Nat.reduceMul, Nat.reduceBEq, Nat.reduceLeDiff, Int.reduceBEq, Int.reduceBNe, Int.reduceToNat, ne_eq, implies_true, bA]
        exact ⟨_, rfl, rfl, Z, hs, hp, rfl⟩
      | cons x W =>
        have d : decide (((P.length + Z.length : Nat) : Int) < (E : Int)) = true := by simp at hpl hE ⊢; omega
        simp only [List.length_cons] at hpl hlen
        simp (config := {maxSteps := 4000000}) only [U_slices_insertionSortCmpFunc_api_Found, d, reduceIte, reduceCtorEq, Nat.reduceEqDiff, Nat.reduceAdd, Int.reduceLT, Int.reduceLE, Int.reduceNeg, Int.reduceEq, Nat.reduceLT, Nat.reduceSub, Nat.reduceMul, Nat.reduceBEq, Nat.reduceLeDiff, Int.reduceBEq, Int.reduceBNe, Int.reduceToNat, ne_eq, implies_true, bA]
        refine loopF (fun s : List Fd × List Fd => ⟨ofL [(0, .osl o 0 N), (1, .int .i64 (P.length : Int)), (2, .int .i64 (E : Int)), (3, fnF), (8, .int .i64 ((P.length + Z.length : Nat) : Int)), (9, .int .i64 ((P.length + s.1.length : Nat) : Int))],
          ob.set o (lF (P ++ (s.1 ++ x :: (s.2 ++ (W ++ Q)))))⟩) (fun s => s.1 ++ s.2 = Z ∧ (s.2 = [] ∨ ∃ y B, s.2 = y :: B ∧ ltF y x = false)) (fun s => s.1.length) (Z, []) ?_ ⟨by simp, .inl rfl⟩ ?_
        · simp (config := {maxSteps := 4000000}) only [U_slices_insertionSortCmpFunc_api_Found, reduceIte, reduceCtorEq, Nat.reduceEqDiff, Nat.reduceAdd, Int.reduceLT, Int.reduceLE, Int.reduceNeg, Int.reduceEq, Nat.reduceLT, Nat.reduceSub, Nat.reduceMul, Nat.reduceBEq, Nat.reduceLeDiff, Int.reduceBEq, Int.reduceBNe, Int.reduceToNat, ne_eq, implies_true, bA]
        · rintro ⟨A, B⟩ ⟨hAB, hB⟩
          simp only at hAB hB ⊢
          have hABl : A.length + B.length = Z.length := by rw [← hAB]; simp
          have wi : IntKind.i64.wrap (((P.length + Z.length : Nat) : Int) + 1) = ((P.length + Z.length + 1 : Nat) : Int) := by rw [wrapI (by omega) (by omega)]; omega
          have hend : Srt ltF (A ++ x :: B) → (A ++ x :: B ++ W).Perm (x0 :: X0) := fun _ => by
            refine List.Perm.trans ?_ hp
            rw [← hAB]
            simp only [List.append_assoc, List.cons_append]
            exact List.Perm.append_left A (List.perm_middle (l₁ := B) (l₂ := W) (a := x)).symm
          by_cases hA : A = []
          · subst hA
            have hsr : Srt ltF ([] ++ x :: B) := srt_put ltF_ord (by rw [hAB]; exact hs) (.inl rfl) hB
            simp only [List.length_nil, List.nil_append] at *
            subst hAB
            have d1 : decide ((P.length : Int) < (P.length : Int)) = false := by simp
            simp (config := {maxSteps := 4000000}) only [U_slices_insertionSortCmpFunc_api_Found, d1, wi, reduceIte, reduceCtorEq, Nat.reduceEqDiff, Nat.reduceAdd, Int.reduceLT, Int.reduceLE, Int.reduceNeg, Int.reduceEq, Nat.reduceLT, Nat.reduceSub, Nat.reduceMul, Nat.reduceBEq, Nat.reduceLeDiff, Int.reduceBEq, Int.reduceBNe, Int.reduceToNat, ne_eq, implies_true, bA]
            refine ⟨(x :: B, W), ?_, ⟨hsr, by simp, hend hsr⟩, by simp⟩
            simp [Nat.add_assoc]
          · obtain ⟨A', y, rfl⟩ := snoc_of A hA
            simp only [List.length_append, List.length_singleton] at hABl
            have d1 : decide ((P.length : Int) < ((P.length + (A' ++ [y]).length : Nat) : Int)) = true := by simp; omega
            obtain ⟨L, hL⟩ : ∃ L, P ++ ((A' ++ [y]) ++ x :: (B ++ (W ++ Q))) = L := ⟨_, rfl⟩
            have hL1 : L = (P ++ A') ++ y :: ([] ++ x :: (B ++ (W ++ Q))) := by rw [← hL]; simp
            have hL2 : L = (P ++ A' ++ [y]) ++ x :: (B ++ (W ++ Q)) := by rw [← hL]; simp
            have hLN : N = L.length := by rw [hL1, hlen]; simp; omega
            have ej : P.length + (A' ++ [y]).length = P.length + A'.length + 1 := by simp; omega
            have w1 : IntKind.i64.wrap (((P.length + A'.length + 1 : Nat) : Int) - 1) = ((P.length + A'.length : Nat) : Int) := by rw [wrapI (by omega) (by omega)]; omega
            have o1 : (ob.set o (lF L))[o]? = some (lF L) := set_get ho
            obtain ⟨i1, l1⟩ := atF (o := o) (n := P.length + A'.length) hL1 (by simp) hLN
            obtain ⟨i2, l2⟩ := atF (o := o) (n := P.length + A'.length + 1) hL2 (by simp; omega) hLN
            obtain ⟨s1, o2, i3, s2⟩ := swF' (m := N) (i := P.length + A'.length) (j := P.length + A'.length + 1) ho hL1 (by simp) (by simp) hLN
            have hx : x.body.length ≤ 1000000 := hG' x (by simp)
            have hy : y.body.length ≤ 1000000 := hG' y (by rw [← hAB]; simp)
            rw [ej] at d1
            rw [hL, ej]
            simp (config := {maxSteps := 4000000}) only [U_slices_insertionSortCmpFunc_api_Found, d1, w1, o1, i1, i2, l1, l2, reduceIte, reduceCtorEq, Nat.reduceEqDiff, Nat.reduceAdd, Int.reduceLT, Int.reduceLE, Int.reduceNeg, Int.reduceEq, Nat.reduceLT, Nat.reduceSub, Nat.reduceMul, Nat.reduceBEq, Nat.reduceLeDiff, Int.reduceBEq, Int.reduceBNe, Int.reduceToNat, ne_eq, implies_true, bA]
            refine callI (cmF_spec x y hx hy) ?_
            cases hc : ltF x y with
            | true =>
              have d2 : decide (cmF x y < 0) = true := hc
              simp (config := {maxSteps := 4000000}) only [U_slices_insertionSortCmpFunc_api_Found, d2, w1, o1, i1, i2, l1, l2, s1, o2, i3, s2, rowF_len, rowF_own, rowF_cell, List.set_set, reduceIte, reduceCtorEq, Nat.reduceEqDiff, Nat.reduceAdd, Int.reduceLT, Int.reduceLE, Int.reduceNeg, Int.reduceEq, Nat.reduceLT, Nat.reduceSub, Nat.reduceMul, Nat.reduceBEq, Nat.reduceLeDiff, Int.reduceBEq, Int.reduceBNe, Int.reduceToNat, ne_eq, implies_true, bA]
              refine ⟨(A', y :: B), ?_, ⟨by rw [← hAB]; simp, .inr ⟨y, B, rfl, ltF_ord.asym _ _ hc⟩⟩, by simp⟩
              simp
            | false =>
              have d2 : decide (cmF x y < 0) = false := hc
              have hsr : Srt ltF ((A' ++ [y]) ++ x :: B) := srt_put ltF_ord (by rw [hAB]; exact hs) (.inr ⟨A', y, rfl, hc⟩) hB
              simp (config := {maxSteps := 4000000}) only [U_slices_insertionSortCmpFunc_api_Found, d2, wi, reduceIte, reduceCtorEq, Nat.reduceEqDiff, Nat.reduceAdd, Int.reduceLT, Int.reduceLE, Int.reduceNeg, Int.reduceEq, Nat.reduceLT, Nat.reduceSub, Nat.reduceMul, Nat.reduceBEq, Nat.reduceLeDiff, Int.reduceBEq, Int.reduceBNe, Int.reduceToNat, ne_eq, implies_true, bA]
              refine ⟨((A' ++ [y]) ++ x :: B, W), ?_, ⟨hsr, by simp, hend hsr⟩, by simp⟩
              have e9 : P.length + Z.length + 1 = P.length + ((A' ++ [y]) ++ x :: B).length := by simp only [List.length_append, List.length_cons, List.length_nil]; omega
              rw [← hL, e9]
              simp

end Go.Proofs.YtdgpiobmncohjaaGreatDoor.Aw.Rt
namespace Go.Proofs.YtdgpiobmncohjaaGreatDoor.Aw.Rt
open Go.RowKit

def Bks (s : Nat) (Bs : List (List Fd)) : Prop := ∀ X ∈ Bs, X.length = s ∧ Srt ltF X
theorem Bks.snoc {s : Nat} {Bs : List (List Fd)} {Z : List Fd} (h : Bks s Bs) (hz : Z.length = s) (sz : Srt ltF Z) : Bks s (Bs ++ [Z]) := by
  intro X hX
  rw [List.mem_append, List.mem_singleton] at hX
  rcases hX with hX | rfl
  · exact h X hX
  · exact ⟨hz, sz⟩
abbrev StabK (ob : List AObj) (o : Nat) (l : List Fd) : PV → List AObj → Prop := fun r ob' => r = .tup [] ∧ ∃ Z, Srt ltF Z ∧ Z.Perm l ∧ ob' = ob.set o (lF Z)
theorem lT {a b : Nat} (h : a ≤ b) : decide ((a : Int) ≤ (b : Int)) = true := by simpa using h
theorem lFa {a b : Nat} (h : ¬ a ≤ b) : decide ((a : Int) ≤ (b : Int)) = false := by simpa using h

theorem dT {a b : Nat} (h : a < b) : decide ((a : Int) < (b : Int)) = true := by simpa using h
theorem dF {a b : Nat} (h : ¬ a < b) : decide ((a : Int) < (b : Int)) = false := by simpa using h
theorem eT {a b : Int} (h : a = b) : (a == b) = true := by simpa using h
theorem eF {a b : Int} (h : a ≠ b) : (a == b) = false := by simpa using h
theorem stab1 {ob : List AObj} {o : Nat} {l0 : List Fd} {N : Nat} {f : Nat → PV} {T : St → Prop} {K : Ex → St → Prop} (hN : N = l0.length) (hl : N ≤ 1000000) (ho : ob[o]? = some (lF l0))
    (hG : ∀ z ∈ l0, z.body.length ≤ 1000000)
    (f0 : f 0 = .osl o 0 N) (f1 : f 1 = .int .i64 (N : Int)) (f2 : f 2 = fnF) (f6 : f 6 = .int .i64 20) (f7 : f 7 = .int .i64 0) (f8 : f 8 = .int .i64 20)
    (hT : ∀ (g : Nat → PV) (Bs : List (List Fd)) (R : List Fd), Bks 20 Bs → R.length < 20 → (Bs.flatten ++ R).Perm l0 → g 0 = .osl o 0 N → g 1 = .int .i64 (N : Int) → g 2 = fnF → g 6 = .int .i64 20 → g 7 = .int .i64 (Bs.flatten.length : Int) →
      T ⟨g, ob.set o (lF (Bs.flatten ++ R))⟩) :
    AWP Tryz.prog ob.length (.loop [0, 1, 2, 6, 7, 8] 1000000000 b4_11) (kblk 0 (kseq T K)) ⟨f, ob⟩ := by
  refine loopF (fun s' : List (List Fd) × List Fd => ⟨ofL [(0, .osl o 0 N), (1, .int .i64 (N : Int)), (2, fnF), (6, .int .i64 20), (7, .int .i64 (s'.1.flatten.length : Int)), (8, .int .i64 ((s'.1.flatten.length + 20 : Nat) : Int))], ob.set o (lF (s'.1.flatten ++ s'.2))⟩)
    (fun s' => Bks 20 s'.1 ∧ (s'.1.flatten ++ s'.2).Perm l0) (fun s' => s'.2.length) ([], l0) ?_ ⟨(fun X h => by cases h), by simp⟩ ?_
  · simp only [keepB_a, keepR_cons, keepR_nil, f0, f1, f2, f6, f7, f8, List.flatten_nil, List.nil_append, List.length_nil, Nat.zero_add, set_self ho]
    rfl
  · rintro ⟨Bs, R⟩ ⟨hB, hp⟩
    simp only at hB hp ⊢
    obtain ⟨D, hD⟩ : ∃ D, Bs.flatten = D := ⟨_, rfl⟩
    have hlen : D.length + R.length = N := by have := hp.length_eq; rw [hD] at this; simp only [List.length_append] at this; omega
    have hh := fun g => hT g Bs R hB
    rw [hD] at hp hh ⊢
    by_cases hle : D.length + 20 ≤ N
    · have d := lT hle
      obtain ⟨X, R', rfl, lX⟩ := cut_at R 20 (by omega)
      have o1 : (ob.set o (lF (D ++ (X ++ R'))))[o]? = some (lF (D ++ (X ++ R'))) := set_get ho
      have e2 : ((D.length + 20 : Nat) : Int) = ((D.length + X.length : Nat) : Int) := by rw [lX]
      have gX : ∀ z ∈ X, z.body.length ≤ 1000000 := fun z hz => hG z (hp.mem_iff.1 (by simp [hz]))
      have e3 : N = (D ++ (X ++ R')).length := by simp only [List.length_append] at hlen ⊢; omega
      simp (config := {maxSteps := 4000000}) only [U_slices_stableCmpFunc_api_Found, d, reduceIte, reduceCtorEq, Nat.reduceEqDiff, Nat.reduceAdd, Int.reduceLT, Int.reduceLE, Int.reduceNeg, Int.reduceEq, Nat.reduceLT, Nat.reduceSub, Nat.reduceMul, Nat.reduceBEq, Nat.reduceLeDiff, Int.reduceBEq, Int.reduceBNe, Int.reduceToNat, ne_eq, implies_true, bA]
      refine callM (ins_i e3 hl o1 gX rfl e2) ?_
      rintro r ob' ⟨rfl, Z, sZ, pZ, rfl⟩
      have lZ : Z.length = 20 := by rw [pZ.length_eq, lX]
      have w3 : IntKind.i64.wrap (((D.length + 20 : Nat) : Int) + 20) = ((D.length + 20 + 20 : Nat) : Int) := by rw [wrapI (by omega) (by omega)]; omega
      simp (config := {maxSteps := 4000000}) only [U_slices_stableCmpFunc_api_Found, w3, List.set_set, reduceIte, reduceCtorEq, Nat.reduceEqDiff, Nat.reduceAdd, Int.reduceLT, Int.reduceLE, Int.reduceNeg, Int.reduceEq, Nat.reduceLT, Nat.reduceSub, Nat.reduceMul, Nat.reduceBEq, Nat.reduceLeDiff, Int.reduceBEq, Int.reduceBNe, Int.reduceToNat, ne_eq, implies_true, bA]
      refine ⟨(Bs ++ [Z], R'), ?_, ⟨hB.snoc lZ sZ, ?_⟩, by simp only [List.length_append]; omega⟩
      · simp only [List.flatten_append, List.flatten_cons, List.flatten_nil, List.append_nil, hD, List.length_append, lZ, List.append_assoc]
      · simp only [List.flatten_append, List.flatten_cons, List.flatten_nil, List.append_nil, hD, List.append_assoc]
        refine List.Perm.trans ?_ hp
        exact List.Perm.append_left D (List.Perm.append_right R' pZ)
    · have d := lFa hle
      simp (config := {maxSteps := 4000000}) only [U_slices_stableCmpFunc_api_Found, d, reduceIte, reduceCtorEq, Nat.reduceEqDiff, Nat.reduceAdd, Int.reduceLT, Int.reduceLE, Int.reduceNeg, Int.reduceEq, Nat.reduceLT, Nat.reduceSub, Nat.reduceMul, Nat.reduceBEq, Nat.reduceLeDiff, Int.reduceBEq, Int.reduceBNe, Int.reduceToNat, ne_eq, implies_true, bA]
      refine hh _ (by omega) hp ?_ ?_ ?_ ?_ ?_ <;> rfl
/-- No pass behind the first one. -/
theorem stab2 {ob : List AObj} {o : Nat} {l0 : List Fd} {N : Nat} {f : Nat → PV} {Bs : List (List Fd)} {R : List Fd} (hN : N = l0.length) (h20 : N ≤ 20) (ho : ob[o]? = some (lF l0))
    (hB : Bks 20 Bs) (sR : Srt ltF R) (lR : R.length < 20) (hp : (Bs.flatten ++ R).Perm l0)
    (f0 : f 0 = .osl o 0 N) (f1 : f 1 = .int .i64 (N : Int)) (f2 : f 2 = fnF) (f6 : f 6 = .int .i64 20) :
    AWP Tryz.prog ob.length (.loop [0, 1, 2, 6] 1000000000 b4_42) (kblk 2 (AEnd [] (StabK ob o l0))) ⟨f, ob.set o (lF (Bs.flatten ++ R))⟩ := by
  refine loopF (fun _ : Unit => ⟨ofL [(0, .osl o 0 N), (1, .int .i64 (N : Int)), (2, fnF), (6, .int .i64 20)], ob.set o (lF (Bs.flatten ++ R))⟩) (fun _ => True) (fun _ => 0) () ?_ trivial ?_
  · simp only [keepB_a, keepR_cons, keepR_nil, f0, f1, f2, f6]
    try rfl
  · rintro _ _
    have d : decide ((20 : Int) < (N : Int)) = false := by rw [decide_eq_false_iff_not]; omega
    simp (config := {maxSteps := 4000000}) only [U_slices_stableCmpFunc_api_Found, d, reduceIte, reduceCtorEq, Nat.reduceEqDiff, Nat.reduceAdd, Int.reduceLT, Int.reduceLE, Int.reduceNeg, Int.reduceEq, Nat.reduceLT, Nat.reduceSub, Nat.reduceMul, Nat.reduceBEq, Nat.reduceLeDiff, Int.reduceBEq, Int.reduceBNe, Int.reduceToNat, ne_eq, implies_true, bA]
    have hlen : Bs.flatten.length + R.length = N := by have := hp.length_eq; simp only [List.length_append] at this; omega
    refine ⟨_, rfl, rfl, Bs.flatten ++ R, ?_, hp, rfl⟩
    rcases Bs with _ | ⟨X, _ | ⟨Y, Bs⟩⟩
    · simpa using sR
    · have lX := hB X (by simp)
      simp only [List.flatten_cons, List.flatten_nil, List.append_nil] at hlen ⊢
      have hR : R = [] := List.eq_nil_of_length_eq_zero (by omega)
      rw [hR, List.append_nil]; exact lX.2
    · have lX := hB X (by simp)
      have lY := hB Y (by simp)
      simp only [List.flatten_cons, List.length_append] at hlen
      omega
theorem stable_i {ob : List AObj} {o : Nat} {l0 : List Fd} {N : Nat} (hN : N = l0.length) (h20 : N ≤ 20) (ho : ob[o]? = some (lF l0)) (hG : ∀ z ∈ l0, z.body.length ≤ 1000000) :
    ICall Tryz.prog 86 [.osl o 0 N, .int .i64 (N : Int), fnF] ob (StabK ob o l0) := by
  refine icall_dr Tryz.func86 comp_slices_stableCmpFunc_api_Found ?_
  simp (config := {maxSteps := 4000000}) only [U_slices_stableCmpFunc_api_Found, reduceIte, reduceCtorEq, Nat.reduceEqDiff, Nat.reduceAdd, Int.reduceLT, Int.reduceLE, Int.reduceNeg, Int.reduceEq, Nat.reduceLT, Nat.reduceSub, Nat.reduceMul, Nat.reduceBEq, Nat.reduceLeDiff, Int.reduceBEq, Int.reduceBNe, Int.reduceToNat, ne_eq, implies_true, bA]
  refine stab1 hN (by omega) ho hG ?_ ?_ ?_ ?_ ?_ ?_ ?_ <;> try rfl
  intro g Bs R hB lR hp g0 g1 g2 g6 g7
  have o1 : (ob.set o (lF (Bs.flatten ++ R)))[o]? = some (lF (Bs.flatten ++ (R ++ []))) := by rw [List.append_nil]; exact set_get ho
  have hlen : Bs.flatten.length + R.length = N := by have := hp.length_eq; simp only [List.length_append] at this; omega
  have e3 : N = (Bs.flatten ++ (R ++ [])).length := by simp only [List.length_append, List.length_nil]; omega
  have gR : ∀ z ∈ R, z.body.length ≤ 1000000 := fun z hz => hG z (hp.mem_iff.1 (by simp [hz]))
  have e2 : (N : Int) = ((Bs.flatten.length + R.length : Nat) : Int) := by omega
  simp (config := {maxSteps := 4000000}) only [U_slices_stableCmpFunc_api_Found, g0, g1, g2, g6, g7, reduceIte, reduceCtorEq, Nat.reduceEqDiff, Nat.reduceAdd, Int.reduceLT, Int.reduceLE, Int.reduceNeg, Int.reduceEq, Nat.reduceLT, Nat.reduceSub, Nat.reduceMul, Nat.reduceBEq, Nat.reduceLeDiff, Int.reduceBEq, Int.reduceBNe, Int.reduceToNat, ne_eq, implies_true, bA]
  refine callM (ins_i e3 (by omega) o1 gR rfl e2) ?_
  rintro r ob' ⟨rfl, Z, sZ, pZ, rfl⟩
  have lZ : Z.length = R.length := pZ.length_eq
  rw [List.append_nil]
  simp (config := {maxSteps := 4000000}) only [U_slices_stableCmpFunc_api_Found, g0, g1, g2, g6, g7, List.set_set, reduceIte, reduceCtorEq, Nat.reduceEqDiff, Nat.reduceAdd, Int.reduceLT, Int.reduceLE, Int.reduceNeg, Int.reduceEq, Nat.reduceLT, Nat.reduceSub, Nat.reduceMul, Nat.reduceBEq, Nat.reduceLeDiff, Int.reduceBEq, Int.reduceBNe, Int.reduceToNat, ne_eq, implies_true, bA]
  refine stab2 hN h20 ho hB sZ (by omega) ((List.Perm.append_left _ pZ).trans hp) ?_ ?_ ?_ ?_ <;> first | exact g0 | exact g1 | exact g2 | exact g6
theorem sort_i {ob : List AObj} {o : Nat} {l0 : List Fd} {N : Nat} (hN : N = l0.length) (h20 : N ≤ 20) (ho : ob[o]? = some (lF l0)) (hG : ∀ z ∈ l0, z.body.length ≤ 1000000) :
    ICall Tryz.prog 47 [.osl o 0 N, fnF] ob (StabK ob o l0) := by
  refine icall_dr Tryz.func47 comp_slices_SortStableFunc_api_Found ?_
  have hr : rowsO (some (lF l0)) 0 N = some (l0.map rowF) := rowsO_all (by simp [hN])
  have hrl : ((l0.length : Nat) : Int) = (N : Int) := by omega
  simp (config := {maxSteps := 4000000}) only [U_slices_SortStableFunc_api_Found, ho, hr, hrl, reduceIte, reduceCtorEq, Nat.reduceEqDiff, Nat.reduceAdd, Int.reduceLT, Int.reduceLE, Int.reduceNeg, Int.reduceEq, Nat.reduceLT, Nat.reduceSub, Nat.reduceMul, Nat.reduceBEq, Nat.reduceLeDiff, Int.reduceBEq, Int.reduceBNe, Int.reduceToNat, ne_eq, implies_true, bA]
  refine callM (stable_i hN h20 ho hG) ?_
  rintro r ob' ⟨rfl, h⟩
  simp (config := {maxSteps := 4000000}) only [U_slices_SortStableFunc_api_Found, reduceIte, reduceCtorEq, Nat.reduceEqDiff, Nat.reduceAdd, Int.reduceLT, Int.reduceLE, Int.reduceNeg, Int.reduceEq, Nat.reduceLT, Nat.reduceSub, Nat.reduceMul, Nat.reduceBEq, Nat.reduceLeDiff, Int.reduceBEq, Int.reduceBNe, Int.reduceToNat, ne_eq, implies_true, bA]
  exact ⟨_, rfl, rfl, h⟩

end Go.Proofs.YtdgpiobmncohjaaGreatDoor.Aw.Rt
namespace Go.Proofs.YtdgpiobmncohjaaGreatDoor.Aw.Rt
open Go.RowKit

def isR (x : Fd) : Bool := decide (x.kind = 4 ∧ x.space = 0 ∧ x.key = 0 ∧ (readR x.body).2.2 = 0)
def RootsK (ob : List AObj) (l : List Fd) : PV → List AObj → Prop := fun r ob' => ∃ Z n, r = .osl n 0 Z.length ∧ ob'[n]? = some (lF Z) ∧ Srt ltF Z ∧ Z.Perm (l.filter isR) ∧ ∃ ex, ob' = ob ++ ex
theorem filt_take {l : List Fd} {i : Nat} (h : i < l.length) : (l.take (i + 1)).filter isR = (l.take i).filter isR ++ (if isR l[i] = true then [l[i]] else []) := by
  rw [List.take_succ_eq_append_getElem h, List.filter_append]
  cases hh : isR l[i] <;> simp [List.filter, hh]
theorem ex_set {ob ex : List AObj} {a : AObj} : ∃ e, (ob ++ ex).set ob.length a = ob ++ e := ⟨ex.set 0 a, by rw [List.set_append_right _ _ (Nat.le_refl _)]; simp⟩
theorem gN (OB : List AObj) (b : AObj) : (OB ++ [b])[OB.length]? = some b := by simp
theorem sN (OB : List AObj) (b c : AObj) : (OB ++ [b]).set OB.length c = OB ++ [c] := by simp
theorem lt_of_getF {ob : List AObj} {i : Nat} {a : AObj} (h : ob[i]? = some a) : i < ob.length := (List.getElem?_eq_some_iff.1 h).1
abbrev AOb (_OB : List AObj) (out : List Fd) (i : Nat) (l : List Fd) (_x : Fd) : Prop := (l.take (i + 1)).filter isR = out

theorem rootsB {ob : List AObj} {l : List Fd} (hl : l.length ≤ 20) (hG : ∀ z ∈ l, z.body.length ≤ 1000000) {m n : Nat} (hm : ob[m]? = some (lF l)) (hn : n = l.length) : ICall Tryz.prog 15 [.osl m 0 n] ob (RootsK ob l) := by
  refine icall_dr Tryz.func15 comp_root_Roots ?_
  have hr : rowsO (some (lF l)) 0 n = some (l.map rowF) := rowsO_all (by simp [hn])
  have hm1 : (ob ++ [AObj.list 6 []])[m]? = some (lF l) := by rw [List.getElem?_append_left (lt_of_getF hm)]; exact hm
  simp (config := {maxSteps := 4000000}) only [U_root_Roots, hr, hm1, reduceIte, reduceCtorEq, Nat.reduceEqDiff, Nat.reduceAdd, Int.reduceLT, Int.reduceLE, Int.reduceNeg, Int.reduceEq, Nat.reduceLT, Nat.reduceSub, Nat.reduceMul, Nat.reduceBEq, Nat.reduceLeDiff, Int.reduceBEq, Int.reduceBNe, Int.reduceToNat, ne_eq, implies_true, bA]
  refine loopF (fun s : Nat × List AObj => ⟨ofL [(3, .osl ob.length 0 ((l.take s.1).filter isR).length), (9, .osl m 0 n), (10, .int .i64 (l.length : Int)), (11, .int .i64 (s.1 : Int))], s.2⟩)
    (fun s => s.1 ≤ l.length ∧ s.2[ob.length]? = some (lF ((l.take s.1).filter isR)) ∧ ∃ ex, s.2 = ob ++ ex) (fun s => l.length - s.1) (0, ob ++ [lF []]) ?_ ⟨Nat.zero_le _, by simp, _, rfl⟩ ?_
  · simp (config := {maxSteps := 4000000}) only [U_root_Roots, hr, hm1, reduceIte, reduceCtorEq, Nat.reduceEqDiff, Nat.reduceAdd, Int.reduceLT, Int.reduceLE, Int.reduceNeg, Int.reduceEq, Nat.reduceLT, Nat.reduceSub, Nat.reduceMul, Nat.reduceBEq, Nat.reduceLeDiff, Int.reduceBEq, Int.reduceBNe, Int.reduceToNat, ne_eq, implies_true, bA]
    all_goals rfl
  · rintro ⟨i, OB⟩ ⟨hi, ho, ex, hex⟩
    simp only at hi ho hex ⊢
    obtain ⟨out, hout⟩ : ∃ out, (l.take i).filter isR = out := ⟨_, rfl⟩
    rw [hout] at ho ⊢
    have hoL : out.length ≤ 20 := by
      have h1 := List.length_filter_le isR (l.take i)
      rw [hout, List.length_take] at h1; omega
    have hlo : ob.length < OB.length := lt_of_getF ho
    by_cases hlt : i < l.length
    · have d := dT hlt
      obtain ⟨x, hx⟩ : ∃ x, l[i] = x := ⟨_, rfl⟩
      have hft := filt_take hlt
      rw [hout, hx] at hft
      have hxG : x.body.length ≤ 1000000 := by rw [← hx]; exact hG _ (List.getElem_mem hlt)
      have w1 : IntKind.i64.wrap ((i : Int) + 1) = ((i + 1 : Nat) : Int) := by rw [wrapI (by omega) (by omega)]; omega
      have g1 := gN OB
      have s1 := sN OB
      have hmO : OB[m]? = some (lF l) := by rw [hex, List.getElem?_append_left (lt_of_getF hm)]; exact hm
      have i1 := isF (o := m) (rfl : (i : Int) = _) hlt hn
      have i2 := ldF hlt hn
      rw [hx] at i2
      have hno : isR x = false → AOb OB out i l x := fun h => by
        rw [h] at hft; simp at hft; exact hft
      by_cases ck : x.kind = 4
      · have k1 : (x.kind != 4) = false := by simp [ck]
        by_cases cs : x.space = 0
        · have k2 : (x.space != 0) = false := by simp [cs]
          by_cases cq : x.key = 0
          · have k3 : (x.key != 0) = false := by simp [cq]
            simp (config := {maxSteps := 4000000}) only [U_root_Roots, d, hmO, i1, i2, g1, s1, rowF, k1, k2, k3, reduceIte, reduceCtorEq, Nat.reduceEqDiff, Nat.reduceAdd, Int.reduceLT, Int.reduceLE, Int.reduceNeg, Int.reduceEq, Nat.reduceLT, Nat.reduceSub, Nat.reduceMul, Nat.reduceBEq, Nat.reduceLeDiff, Int.reduceBEq, Int.reduceBNe, Int.reduceToNat, ne_eq, implies_true, bA]
            refine callI (read_spec x.body hxG) ?_
            by_cases ce : (readR x.body).2.2 = 0
            · have k4 := eT ce
              have hyes : isR x = true := by simp [isR, ck, cs, cq, ce]
              rw [if_pos hyes] at hft
              have ho2 : ∀ b, (OB ++ [b])[ob.length]? = some (lF out) := fun b => by rw [List.getElem?_append_left hlo]; exact ho
              have ap : ∀ b, appO (OB ++ [b]) [] none 6 (.osl ob.length 0 out.length) (some [rowF x]) = some (.osl ob.length 0 (out.length + [rowF x].length), (OB ++ [b]).set ob.length (.list 6 (out.map rowF ++ [rowF x]))) := fun b =>
                appO_osl (by simp) (ho2 b) (by simp) (by simp; omega) (by simp [rowsOk, rowF, PV.scal, ownL, PV.own?]) (by simp)
              have ap' := ap
              simp only [rowF, List.length_singleton] at ap'
              simp (config := {maxSteps := 4000000}) only [U_root_Roots, k4, g1, s1, ho2, ap', w1, rowF, reduceIte, reduceCtorEq, Nat.reduceEqDiff, Nat.reduceAdd, Int.reduceLT, Int.reduceLE, Int.reduceNeg, Int.reduceEq, Nat.reduceLT, Nat.reduceSub, Nat.reduceMul, Nat.reduceBEq, Nat.reduceLeDiff, Int.reduceBEq, Int.reduceBNe, Int.reduceToNat, ne_eq, implies_true, bA]
              refine ⟨(i + 1, (OB ++ [AObj.box (rowF x)]).set ob.length (lF (out ++ [x]))), ?_, ⟨hlt, ?_, ?_⟩, by simp only; omega⟩
              · rw [hft]; simp [rowF, lF]
              · rw [hft]; exact set_get (ho2 _)
              · rw [hex, List.append_assoc]; exact ex_set
            · have k4 := eF ce
              have hn : isR x = false := by simp [isR, ce]
              simp (config := {maxSteps := 4000000}) only [U_root_Roots, k4, g1, s1, w1, rowF, reduceIte, reduceCtorEq, Nat.reduceEqDiff, Nat.reduceAdd, Int.reduceLT, Int.reduceLE, Int.reduceNeg, Int.reduceEq, Nat.reduceLT, Nat.reduceSub, Nat.reduceMul, Nat.reduceBEq, Nat.reduceLeDiff, Int.reduceBEq, Int.reduceBNe, Int.reduceToNat, ne_eq, implies_true, bA]
              refine ⟨(i + 1, OB ++ [AObj.box (rowF x)]), ?_, ⟨hlt, ?_, ?_⟩, by simp only; omega⟩
              · rw [hno hn]; simp [rowF]
              · rw [hno hn, List.getElem?_append_left hlo]; exact ho
              · exact ⟨ex ++ [AObj.box (rowF x)], by simp [hex]⟩
          · have k3 : (x.key != 0) = true := by simp [cq]
            have hn : isR x = false := by simp [isR, cq]
            simp (config := {maxSteps := 4000000}) only [U_root_Roots, d, hmO, i1, i2, g1, s1, rowF, k1, k2, k3, w1, reduceIte, reduceCtorEq, Nat.reduceEqDiff, Nat.reduceAdd, Int.reduceLT, Int.reduceLE, Int.reduceNeg, Int.reduceEq, Nat.reduceLT, Nat.reduceSub, Nat.reduceMul, Nat.reduceBEq, Nat.reduceLeDiff, Int.reduceBEq, Int.reduceBNe, Int.reduceToNat, ne_eq, implies_true, bA]
            refine ⟨(i + 1, OB ++ [AObj.box (rowF x)]), ?_, ⟨hlt, ?_, ?_⟩, by simp only; omega⟩
            · rw [hno hn]; simp [rowF]
            · rw [hno hn, List.getElem?_append_left hlo]; exact ho
            · exact ⟨ex ++ [AObj.box (rowF x)], by simp [hex]⟩
        · have k2 : (x.space != 0) = true := by simp [cs]
          have hn : isR x = false := by simp [isR, cs]
          simp (config := {maxSteps := 4000000}) only [U_root_Roots, d, hmO, i1, i2, g1, s1, rowF, k1, k2, w1, reduceIte, reduceCtorEq, Nat.reduceEqDiff, Nat.reduceAdd, Int.reduceLT, Int.reduceLE, Int.reduceNeg, Int.reduceEq, Nat.reduceLT, Nat.reduceSub, Nat.reduceMul, Nat.reduceBEq, Nat.reduceLeDiff, Int.reduceBEq, Int.reduceBNe, Int.reduceToNat, ne_eq, implies_true, bA]
          refine ⟨(i + 1, OB ++ [AObj.box (rowF x)]), ?_, ⟨hlt, ?_, ?_⟩, by simp only; omega⟩
          · rw [hno hn]; simp [rowF]
          · rw [hno hn, List.getElem?_append_left hlo]; exact ho
          · exact ⟨ex ++ [AObj.box (rowF x)], by simp [hex]⟩
      · have k1 : (x.kind != 4) = true := by simp [ck]
        have hn : isR x = false := by simp [isR, ck]
        simp (config := {maxSteps := 4000000}) only [U_root_Roots, d, hmO, i1, i2, g1, s1, rowF, k1, w1, reduceIte, reduceCtorEq, Nat.reduceEqDiff, Nat.reduceAdd, Int.reduceLT, Int.reduceLE, Int.reduceNeg, Int.reduceEq, Nat.reduceLT, Nat.reduceSub, Nat.reduceMul, Nat.reduceBEq, Nat.reduceLeDiff, Int.reduceBEq, Int.reduceBNe, Int.reduceToNat, ne_eq, implies_true, bA]
        refine ⟨(i + 1, OB ++ [AObj.box (rowF x)]), ?_, ⟨hlt, ?_, ?_⟩, by simp only; omega⟩
        · rw [hno hn]; simp [rowF]
        · rw [hno hn, List.getElem?_append_left hlo]; exact ho
        · exact ⟨ex ++ [AObj.box (rowF x)], by simp [hex]⟩
    · have d := dF hlt
      have hA : l.take i = l := List.take_of_length_le (by omega)
      rw [hA] at hout
      have gO : ∀ z ∈ out, z.body.length ≤ 1000000 := fun z hz => hG z (by rw [← hout] at hz; exact (List.mem_filter.1 hz).1)
      simp (config := {maxSteps := 4000000}) only [U_root_Roots, d, reduceIte, reduceCtorEq, Nat.reduceEqDiff, Nat.reduceAdd, Int.reduceLT, Int.reduceLE, Int.reduceNeg, Int.reduceEq, Nat.reduceLT, Nat.reduceSub, Nat.reduceMul, Nat.reduceBEq, Nat.reduceLeDiff, Int.reduceBEq, Int.reduceBNe, Int.reduceToNat, ne_eq, implies_true, bA]
      refine callM (sort_i rfl hoL ho gO) ?_
      rintro r ob' ⟨rfl, Z, sZ, pZ, rfl⟩
      have lZ : Z.length = out.length := pZ.length_eq
      rw [← lZ]
      simp (config := {maxSteps := 4000000}) only [U_root_Roots, reduceIte, reduceCtorEq, Nat.reduceEqDiff, Nat.reduceAdd, Int.reduceLT, Int.reduceLE, Int.reduceNeg, Int.reduceEq, Nat.reduceLT, Nat.reduceSub, Nat.reduceMul, Nat.reduceBEq, Nat.reduceLeDiff, Int.reduceBEq, Int.reduceBNe, Int.reduceToNat, ne_eq, implies_true, bA]
      refine ⟨_, rfl, Z, ob.length, rfl, set_get ho, sZ, by rw [hout]; exact pZ, ?_⟩
      rw [hex]; exact ex_set

end Go.Proofs.YtdgpiobmncohjaaGreatDoor.Aw.Rt
