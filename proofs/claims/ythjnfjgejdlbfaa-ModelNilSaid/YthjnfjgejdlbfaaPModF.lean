/-
  The model: reading; what is asked of sectors.
-/
import Derived.Test.YthjnfjgejdlbfaaPModE
import Derived.Test.YthjnfjgejdlbfaaPBldM
set_option linter.unusedSimpArgs false
set_option linter.unusedVariables false
namespace Go.Proofs.Ythjnfjgejdlbfaa.Aw
open Go.RowKit

theorem ofSc_len {size : Int} {S : List Sc} (h : SecOk size S) (i : Int) : (ofSc S i).length = 32 := by
  unfold ofSc
  cases hg : getG i S with
  | none => rfl
  | some x => exact h.len x (getG_some hg).1
theorem readS_len {size : Int} {S : List Sc} (h : SecOk size S) (fr : Int) : ∀ n, (readS S fr n).length = 32 * n
  | 0 => rfl
  | n + 1 => by rw [readS, List.length_append, readS_len h fr n, ofSc_len h]; omega
theorem read_i {ob : List AObj} {sb sm ck : Nat} {es : Ents} {S : List Sc} {size : Int} (hs : ob[sb]? = some (.box [.int .i64 size, .mp sm])) (hm : ob[sm]? = some (.map ck es)) (rel : SecRel es S) (sec : SecOk size S)
    {fr : Int} {n : Nat} (h0 : 0 ≤ fr ∧ fr ≤ 16777216) (hn : n ≤ 8) :
    ICall Try.prog 52 [.ref sb 0, .int .i64 fr, .int .i64 (n : Int)] ob fun r ob' => r = repP 0 (readS S fr n) 0 0 (.slc []) ∧ ∃ ex, ob' = ob ++ ex := by
  refine icall_dr Try.func52 comp_model_space_read ?_
  have hsA := fun l => apL hs l
  have hmA := fun l => apL hm l
  simp (config := {maxSteps := 4000000}) only [U_model_space_read, st0, st1, reduceIte, reduceCtorEq, Nat.reduceEqDiff, Nat.reduceAdd, Int.reduceLT, Int.reduceLE, Int.reduceNeg, Int.reduceEq, Nat.reduceLT, Nat.reduceSub, Nat.reduceMul, Nat.reduceBEq, Nat.reduceLeDiff, Int.reduceBEq, Int.reduceBNe, Int.reduceToNat, ne_eq, implies_true, bA]
  refine loopF (fun i : Nat => ⟨ofL [(0, .ref sb 0), (1, .int .i64 fr), (6, .ref ob.length 0), (7, .ref (ob.length + 2) 0), (11, .int .i64 (n : Int)), (12, .int .i64 (i : Int))], ob ++ [.box [.int .i64 0, .str [], .int .i64 0, .int .i64 0, .slc []], .buf 5 (readS S fr i), .tbox 117 [if i = 0 then .nilp else .ref (ob.length + 2) 0, .osl (ob.length + 1) 0 (readS S fr i).length]]⟩)
    (fun i => i ≤ n) (fun i => n - i) 0 ?_ (Nat.zero_le _) ?_
  · simp (config := {maxSteps := 4000000}) only [U_model_space_read, reduceIte, reduceCtorEq, Nat.reduceEqDiff, Nat.reduceAdd, Int.reduceLT, Int.reduceLE, Int.reduceNeg, Int.reduceEq, Nat.reduceLT, Nat.reduceSub, Nat.reduceMul, Nat.reduceBEq, Nat.reduceLeDiff, Int.reduceBEq, Int.reduceBNe, Int.reduceToNat, ne_eq, implies_true, bA]
    rfl
  · intro i hi
    have hl := readS_len sec fr i
    by_cases hlt : i < n
    · have d : decide ((i : Int) < (n : Int)) = true := by simpa using hlt
      have e1 : IntKind.i64.wrap (fr + (i : Int)) = fr + (i : Int) := wrapI (by omega) (by omega)
      have e5 : IntKind.i64.wrap ((i : Int) + 1) = ((i + 1 : Nat) : Int) := by rw [wrapI (by omega) (by omega)]; omega
      have hp : (if i = 0 then PV.nilp else .ref (ob.length + 2) 0) = .nilp ∨ (if i = 0 then PV.nilp else .ref (ob.length + 2) 0) = .ref (ob.length + 2) 0 := by by_cases c : i = 0 <;> simp [c]
      have hrk := rel (fr + (i : Int))
      have hrs : readS S fr (i + 1) = readS S fr i ++ ofSc S (fr + (i : Int)) := rfl
      have hol := ofSc_len sec (fr + (i : Int))
      cases hg : getG (fr + (i : Int)) S with
      | none =>
        have hof : ofSc S (fr + (i : Int)) = blankB := by rw [ofSc, hg]
        rw [hg] at hrk
        simp only [Option.map_none] at hrk
        simp (config := {maxSteps := 4000000}) only [U_model_space_read, d, hsA, hmA, e1, hrk, reduceIte, reduceCtorEq, Nat.reduceEqDiff, Nat.reduceAdd, Int.reduceLT, Int.reduceLE, Int.reduceNeg, Int.reduceEq, Nat.reduceLT, Nat.reduceSub, Nat.reduceMul, Nat.reduceBEq, Nat.reduceLeDiff, Int.reduceBEq, Int.reduceBNe, Int.reduceToNat, ne_eq, implies_true, bA]
        refine callI blank_spec ?_
        simp (config := {maxSteps := 4000000}) only [U_model_space_read, reduceIte, reduceCtorEq, Nat.reduceEqDiff, Nat.reduceAdd, Int.reduceLT, Int.reduceLE, Int.reduceNeg, Int.reduceEq, Nat.reduceLT, Nat.reduceSub, Nat.reduceMul, Nat.reduceBEq, Nat.reduceLeDiff, Int.reduceBEq, Int.reduceBNe, Int.reduceToNat, ne_eq, implies_true, bA]
        refine callM (writeString_g hp (by omega) (by rw [← hof]; omega)) ?_
        rintro r ob' ⟨rfl, rfl⟩
        simp (config := {maxSteps := 4000000}) only [U_model_space_read, e5, reduceIte, reduceCtorEq, Nat.reduceEqDiff, Nat.reduceAdd, Int.reduceLT, Int.reduceLE, Int.reduceNeg, Int.reduceEq, Nat.reduceLT, Nat.reduceSub, Nat.reduceMul, Nat.reduceBEq, Nat.reduceLeDiff, Int.reduceBEq, Int.reduceBNe, Int.reduceToNat, ne_eq, implies_true, bA]
        refine ⟨i + 1, ?_, hlt, by omega⟩
        rw [hrs, hof, if_neg (by omega), List.length_append]
      | some x =>
        have hof : ofSc S (fr + (i : Int)) = x.dat := by rw [ofSc, hg]
        rw [hg] at hrk
        simp only [Option.map_some] at hrk
        simp (config := {maxSteps := 4000000}) only [U_model_space_read, d, hsA, hmA, e1, hrk, reduceIte, reduceCtorEq, Nat.reduceEqDiff, Nat.reduceAdd, Int.reduceLT, Int.reduceLE, Int.reduceNeg, Int.reduceEq, Nat.reduceLT, Nat.reduceSub, Nat.reduceMul, Nat.reduceBEq, Nat.reduceLeDiff, Int.reduceBEq, Int.reduceBNe, Int.reduceToNat, ne_eq, implies_true, bA]
        refine callM (writeString_g hp (by omega) (by rw [← hof]; omega)) ?_
        rintro r ob' ⟨rfl, rfl⟩
        simp (config := {maxSteps := 4000000}) only [U_model_space_read, e5, reduceIte, reduceCtorEq, Nat.reduceEqDiff, Nat.reduceAdd, Int.reduceLT, Int.reduceLE, Int.reduceNeg, Int.reduceEq, Nat.reduceLT, Nat.reduceSub, Nat.reduceMul, Nat.reduceBEq, Nat.reduceLeDiff, Int.reduceBEq, Int.reduceBNe, Int.reduceToNat, ne_eq, implies_true, bA]
        refine ⟨i + 1, ?_, hlt, by omega⟩
        rw [hrs, hof, if_neg (by omega), List.length_append]
    · have d : decide ((i : Int) < (n : Int)) = false := by simpa using hlt
      have hin : i = n := by omega
      subst hin
      simp (config := {maxSteps := 4000000}) only [U_model_space_read, d, reduceIte, reduceCtorEq, Nat.reduceEqDiff, Nat.reduceAdd, Int.reduceLT, Int.reduceLE, Int.reduceNeg, Int.reduceEq, Nat.reduceLT, Nat.reduceSub, Nat.reduceMul, Nat.reduceBEq, Nat.reduceLeDiff, Int.reduceBEq, Int.reduceBNe, Int.reduceToNat, ne_eq, implies_true, bA]
      refine callM (string_g (by omega)) ?_
      rintro r ob' ⟨rfl, rfl⟩
      simp (config := {maxSteps := 4000000}) only [U_model_space_read, ap0, st0, reduceIte, reduceCtorEq, Nat.reduceEqDiff, Nat.reduceAdd, Int.reduceLT, Int.reduceLE, Int.reduceNeg, Int.reduceEq, Nat.reduceLT, Nat.reduceSub, Nat.reduceMul, Nat.reduceBEq, Nat.reduceLeDiff, Int.reduceBEq, Int.reduceBNe, Int.reduceToNat, ne_eq, implies_true, bA]
      exact ⟨_, rfl, rfl, _, rfl⟩

/-- What is asked of sectors: the volume behind it, and the answer. -/
def secV (cap : Int) (A : List Spc) (s : Spc) (q : Rq) : List Spc × Int × List UInt8 :=
  if wB q = false then (A, 1, []) else
  if q.fr < 0 ∨ s.size < q.fr ∨ s.size - q.fr < wN q then (A, 82, []) else
  if q.op = 7 then (A, 0, readS s.S q.fr (wN q).toNat) else
  if q.op = 6 then (putV A ⟨s.id, s.size, cutS s.S q.fr (q.fr + wN q)⟩, 0, []) else
  let D := if q.op = 4 then pieces q.d (wN q).toNat else List.replicate (wN q).toNat blankB
  ((layV cap A s.id q.fr D).1, (layV cap A s.id q.fr D).2, [])
theorem Mod.at {ob fp b cap A} (h : Mod ob fp b cap A) : ∃ m ck E, ModAt ob b m ck E cap A ∧ fp = fpM b m E := h
end Go.Proofs.Ythjnfjgejdlbfaa.Aw
