/-
  Fill: bytes made as many as is asked for.
-/
import Derived.Test.YtamaonfdonfkaaaL01
import Derived.Test.YtamaonfdonfkaaaPRep
import Derived.Test.YtamaonfdonfkaaaAwFit
set_option linter.unusedSimpArgs false
set_option linter.unusedVariables false
namespace Go.Proofs.Ytamaonfdonfkaaa.Aw
open Go.RowKit

def fillS (s : List UInt8) (size : Int) (b : UInt8) : List UInt8 × Int :=
  if size < 0 then ([], 1) else if size < (s.length : Int) then ([], 2) else (s ++ List.replicate (size - s.length).toNat b, 0)
theorem fill_spec (s : List UInt8) (size : Int) (b : UInt8) (hs : s.length ≤ 20000) (hz : size ≤ 20000) : PCall Try.prog 22 [.str s, .int .i64 size, .int .u8 (b.toNat : Int)] (.tup [.str (fillS s size b).1, .int .i64 (fillS s size b).2]) := by
  refine pcall_dr Try.func22 comp_field_Fill ?_
  unfold fillS
  by_cases c1 : size < 0
  · have d1 : decide (size < 0) = true := by simpa using c1
    rw [if_pos c1]
    simp (config := {maxSteps := 4000000}) only [U_field_Fill, d1, reduceIte, reduceCtorEq, Nat.reduceEqDiff, Nat.reduceAdd, Int.reduceLT, Int.reduceLE, Int.reduceNeg, Int.reduceEq, Nat.reduceLT, Nat.reduceSub, Nat.reduceMul, Nat.reduceBEq, Nat.reduceLeDiff, Int.reduceBEq, Int.reduceBNe, Int.reduceToNat, ne_eq, implies_true, bA]
  · have d1 : decide (size < 0) = false := by simpa using c1
    rw [if_neg c1]
    by_cases c2 : size < (s.length : Int)
    · have d2 : decide (size < (s.length : Int)) = true := by simpa using c2
      rw [if_pos c2]
      simp (config := {maxSteps := 4000000}) only [U_field_Fill, d1, d2, reduceIte, reduceCtorEq, Nat.reduceEqDiff, Nat.reduceAdd, Int.reduceLT, Int.reduceLE, Int.reduceNeg, Int.reduceEq, Nat.reduceLT, Nat.reduceSub, Nat.reduceMul, Nat.reduceBEq, Nat.reduceLeDiff, Int.reduceBEq, Int.reduceBNe, Int.reduceToNat, ne_eq, implies_true, bA]
    · have d2 : decide (size < (s.length : Int)) = false := by simpa using c2
      rw [if_neg c2]
      obtain ⟨n, hn⟩ : ∃ n : Nat, size - (s.length : Int) = (n : Int) := ⟨(size - (s.length : Int)).toNat, by omega⟩
      have e1 : IntKind.i64.wrap (size - (s.length : Int)) = (n : Int) := by rw [wrapI (by omega) (by omega)]; exact hn
      have hr := repeat_spec [b] n (by simp; omega) (by omega) (by simp)
      rw [repB_one] at hr
      rw [hn, Int.toNat_natCast]
      simp (config := {maxSteps := 4000000}) only [U_field_Fill, d1, d2, e1, bytesOf_cons, bytesOf_nil, Option.map_some, reduceIte, reduceCtorEq, Nat.reduceEqDiff, Nat.reduceAdd, Int.reduceLT, Int.reduceLE, Int.reduceNeg, Int.reduceEq, Nat.reduceLT, Nat.reduceSub, Nat.reduceMul, Nat.reduceBEq, Nat.reduceLeDiff, Int.reduceBEq, Int.reduceBNe, Int.reduceToNat, ne_eq, implies_true, bA]
      refine callI hr ?_
      have bs : binS .add s (List.replicate n b) = some (.str (s ++ List.replicate n b)) := binS_add (by simp [maxLen]; omega)
      simp (config := {maxSteps := 4000000}) only [U_field_Fill, bs, reduceIte, reduceCtorEq, Nat.reduceEqDiff, Nat.reduceAdd, Int.reduceLT, Int.reduceLE, Int.reduceNeg, Int.reduceEq, Nat.reduceLT, Nat.reduceSub, Nat.reduceMul, Nat.reduceBEq, Nat.reduceLeDiff, Int.reduceBEq, Int.reduceBNe, Int.reduceToNat, ne_eq, implies_true, bA]
theorem rfill_spec (s : List UInt8) (size : Int) (b : UInt8) (hs : s.length ≤ 20000) (hz : size ≤ 20000) : PCall Try.prog 23 [.str s, .int .i64 size, .int .u8 (b.toNat : Int)] (.tup [.str (fillS s size b).1, .int .i64 (fillS s size b).2]) := by
  refine pcall_dr Try.func23 comp_ref01_Fill ?_
  unfold fillS
  by_cases c1 : size < 0
  · have d1 : decide (size < 0) = true := by simpa using c1
    rw [if_pos c1]
    simp (config := {maxSteps := 4000000}) only [U_ref01_Fill, d1, reduceIte, reduceCtorEq, Nat.reduceEqDiff, Nat.reduceAdd, Int.reduceLT, Int.reduceLE, Int.reduceNeg, Int.reduceEq, Nat.reduceLT, Nat.reduceSub, Nat.reduceMul, Nat.reduceBEq, Nat.reduceLeDiff, Int.reduceBEq, Int.reduceBNe, Int.reduceToNat, ne_eq, implies_true, bA]
  · have d1 : decide (size < 0) = false := by simpa using c1
    rw [if_neg c1]
    by_cases c2 : size < (s.length : Int)
    · have d2 : decide (size < (s.length : Int)) = true := by simpa using c2
      rw [if_pos c2]
      simp (config := {maxSteps := 4000000}) only [U_ref01_Fill, d1, d2, reduceIte, reduceCtorEq, Nat.reduceEqDiff, Nat.reduceAdd, Int.reduceLT, Int.reduceLE, Int.reduceNeg, Int.reduceEq, Nat.reduceLT, Nat.reduceSub, Nat.reduceMul, Nat.reduceBEq, Nat.reduceLeDiff, Int.reduceBEq, Int.reduceBNe, Int.reduceToNat, ne_eq, implies_true, bA]
    · have d2 : decide (size < (s.length : Int)) = false := by simpa using c2
      rw [if_neg c2]
      obtain ⟨n, hn⟩ : ∃ n : Nat, size - (s.length : Int) = (n : Int) := ⟨(size - (s.length : Int)).toNat, by omega⟩
      rw [hn, Int.toNat_natCast]
      simp (config := {maxSteps := 4000000}) only [U_ref01_Fill, d1, d2, reduceIte, reduceCtorEq, Nat.reduceEqDiff, Nat.reduceAdd, Int.reduceLT, Int.reduceLE, Int.reduceNeg, Int.reduceEq, Nat.reduceLT, Nat.reduceSub, Nat.reduceMul, Nat.reduceBEq, Nat.reduceLeDiff, Int.reduceBEq, Int.reduceBNe, Int.reduceToNat, ne_eq, implies_true, bA]
      refine loopF (fun k : Nat => ⟨ofL [(0, .str s), (1, .int .i64 size), (2, .int .u8 (b.toNat : Int)), (8, .osl 0 0 k), (9, .int .i64 ((s.length + k : Nat) : Int))], [.list 1 (byteRows (List.replicate k b))]⟩) (fun k => k ≤ n) (fun k => n - k) 0 ?_ (Nat.zero_le _) ?_
      · simp (config := {maxSteps := 4000000}) only [U_ref01_Fill, reduceIte, reduceCtorEq, Nat.reduceEqDiff, Nat.reduceAdd, Int.reduceLT, Int.reduceLE, Int.reduceNeg, Int.reduceEq, Nat.reduceLT, Nat.reduceSub, Nat.reduceMul, Nat.reduceBEq, Nat.reduceLeDiff, Int.reduceBEq, Int.reduceBNe, Int.reduceToNat, ne_eq, implies_true, bA]
        all_goals rfl
      · intro k hk
        have hl : (List.replicate k b).length = k := by simp
        by_cases hlt : k < n
        · have d : decide (((s.length + k : Nat) : Int) < size) = true := by simp; omega
          have e2 : IntKind.i64.wrap (((s.length + k : Nat) : Int) + 1) = ((s.length + (k + 1) : Nat) : Int) := by rw [wrapI (by omega) (by omega)]; omega
          simp (config := {maxSteps := 4000000}) only [U_ref01_Fill, d, app_byte (ob := [AObj.list 1 (byteRows (List.replicate k b))]) (fb := []) (o := 0) (n := k) (l := List.replicate k b) (b := b) rfl rfl hl.symm (by omega), e2, reduceIte, reduceCtorEq, Nat.reduceEqDiff, Nat.reduceAdd, Int.reduceLT, Int.reduceLE, Int.reduceNeg, Int.reduceEq, Nat.reduceLT, Nat.reduceSub, Nat.reduceMul, Nat.reduceBEq, Nat.reduceLeDiff, Int.reduceBEq, Int.reduceBNe, Int.reduceToNat, ne_eq, implies_true, bA]
          refine ⟨k + 1, ?_, hlt, by omega⟩
          rw [show List.replicate (k + 1) b = List.replicate k b ++ [b] from List.replicate_succ']
        · have hkn : k = n := by omega
          subst hkn
          have d : decide (((s.length + k : Nat) : Int) < size) = false := by simp; omega
          have bs : binS .add s (List.replicate k b) = some (.str (s ++ List.replicate k b)) := binS_add (by simp [maxLen]; omega)
          simp (config := {maxSteps := 4000000}) only [U_ref01_Fill, d, rowsO_bytes hl.symm, b2sV_rows, bytesOf_byteRows, bs, reduceIte, reduceCtorEq, Nat.reduceEqDiff, Nat.reduceAdd, Int.reduceLT, Int.reduceLE, Int.reduceNeg, Int.reduceEq, Nat.reduceLT, Nat.reduceSub, Nat.reduceMul, Nat.reduceBEq, Nat.reduceLeDiff, Int.reduceBEq, Int.reduceBNe, Int.reduceToNat, ne_eq, implies_true, bA]
theorem fills_law (s : List UInt8) (size : Int) (b : UInt8) : PCall Try.prog 11 [.str s, .int .i64 size, .int .u8 (b.toNat : Int)] (.bool true) := by
  refine pcall_dr Try.func11 comp_law01_FieldFills ?_
  by_cases c1 : 20000 < size
  · have d1 : decide (20000 < size) = true := by simpa using c1
    simp (config := {maxSteps := 4000000}) only [U_law01_FieldFills, d1, reduceIte, reduceCtorEq, Nat.reduceEqDiff, Nat.reduceAdd, Int.reduceLT, Int.reduceLE, Int.reduceNeg, Int.reduceEq, Nat.reduceLT, Nat.reduceSub, Nat.reduceMul, Nat.reduceBEq, Nat.reduceLeDiff, Int.reduceBEq, Int.reduceBNe, Int.reduceToNat, ne_eq, implies_true, bA]
    refine callI awake01_spec ?_
    simp (config := {maxSteps := 4000000}) only [U_law01_FieldFills, reduceIte, reduceCtorEq, Nat.reduceEqDiff, Nat.reduceAdd, Int.reduceLT, Int.reduceLE, Int.reduceNeg, Int.reduceEq, Nat.reduceLT, Nat.reduceSub, Nat.reduceMul, Nat.reduceBEq, Nat.reduceLeDiff, Int.reduceBEq, Int.reduceBNe, Int.reduceToNat, ne_eq, implies_true, bA]
  · have d1 : decide (20000 < size) = false := by simpa using c1
    by_cases c2 : 20000 < (s.length : Int)
    · have d2 : decide (20000 < (s.length : Int)) = true := by simpa using c2
      simp (config := {maxSteps := 4000000}) only [U_law01_FieldFills, d1, d2, reduceIte, reduceCtorEq, Nat.reduceEqDiff, Nat.reduceAdd, Int.reduceLT, Int.reduceLE, Int.reduceNeg, Int.reduceEq, Nat.reduceLT, Nat.reduceSub, Nat.reduceMul, Nat.reduceBEq, Nat.reduceLeDiff, Int.reduceBEq, Int.reduceBNe, Int.reduceToNat, ne_eq, implies_true, bA]
      refine callI awake01_spec ?_
      simp (config := {maxSteps := 4000000}) only [U_law01_FieldFills, reduceIte, reduceCtorEq, Nat.reduceEqDiff, Nat.reduceAdd, Int.reduceLT, Int.reduceLE, Int.reduceNeg, Int.reduceEq, Nat.reduceLT, Nat.reduceSub, Nat.reduceMul, Nat.reduceBEq, Nat.reduceLeDiff, Int.reduceBEq, Int.reduceBNe, Int.reduceToNat, ne_eq, implies_true, bA]
    · have d2 : decide (20000 < (s.length : Int)) = false := by simpa using c2
      have eqL : ∀ l : List UInt8, (l == l) = true := fun l => by simp
      have eqI : ∀ l : Int, (l == l) = true := fun l => by simp
      simp (config := {maxSteps := 4000000}) only [U_law01_FieldFills, d1, d2, reduceIte, reduceCtorEq, Nat.reduceEqDiff, Nat.reduceAdd, Int.reduceLT, Int.reduceLE, Int.reduceNeg, Int.reduceEq, Nat.reduceLT, Nat.reduceSub, Nat.reduceMul, Nat.reduceBEq, Nat.reduceLeDiff, Int.reduceBEq, Int.reduceBNe, Int.reduceToNat, ne_eq, implies_true, bA]
      refine callI (fill_spec s size b (by omega) (by omega)) ?_
      simp (config := {maxSteps := 4000000}) only [U_law01_FieldFills, reduceIte, reduceCtorEq, Nat.reduceEqDiff, Nat.reduceAdd, Int.reduceLT, Int.reduceLE, Int.reduceNeg, Int.reduceEq, Nat.reduceLT, Nat.reduceSub, Nat.reduceMul, Nat.reduceBEq, Nat.reduceLeDiff, Int.reduceBEq, Int.reduceBNe, Int.reduceToNat, ne_eq, implies_true, bA]
      refine callI (rfill_spec s size b (by omega) (by omega)) ?_
      simp (config := {maxSteps := 4000000}) only [U_law01_FieldFills, reduceIte, reduceCtorEq, Nat.reduceEqDiff, Nat.reduceAdd, Int.reduceLT, Int.reduceLE, Int.reduceNeg, Int.reduceEq, Nat.reduceLT, Nat.reduceSub, Nat.reduceMul, Nat.reduceBEq, Nat.reduceLeDiff, Int.reduceBEq, Int.reduceBNe, Int.reduceToNat, ne_eq, implies_true, bA]
      refine callI awake01_spec ?_
      simp (config := {maxSteps := 4000000}) only [U_law01_FieldFills, eqL, eqI, reduceIte, reduceCtorEq, Nat.reduceEqDiff, Nat.reduceAdd, Int.reduceLT, Int.reduceLE, Int.reduceNeg, Int.reduceEq, Nat.reduceLT, Nat.reduceSub, Nat.reduceMul, Nat.reduceBEq, Nat.reduceLeDiff, Int.reduceBEq, Int.reduceBNe, Int.reduceToNat, ne_eq, implies_true, bA]
theorem fills_fit (ps : List PV) (h : fitVs [.str, .int .i64, .int .u8] ps) : PCall Try.prog 11 ps (.bool true) := by
  obtain ⟨_, _, rfl, ⟨s, hs, _⟩, _, _, rfl, ⟨a, ha, _⟩, _, _, rfl, ⟨b, hb, wb⟩, rfl⟩ := h
  cases hs; cases ha; cases hb
  have e0 : IntKind.u8.min = 0 := by decide
  have e1 : IntKind.u8.max = 255 := by decide
  simp only [Lit.wf, e0, e1, Bool.and_eq_true, decide_eq_true_eq] at wb
  have hb : b = ((UInt8.ofNat b.toNat).toNat : Int) := by
    rw [UInt8.toNat_ofNat']; omega
  rw [hb]
  exact fills_law s a (UInt8.ofNat b.toNat)
end Go.Proofs.Ytamaonfdonfkaaa.Aw
