/-
  Rows: what the program and the document make of numbers and widths.
-/
import Derived.Test.YtdgpiobmncohjaaDoorPRef01
import Derived.Test.YtdgpiobmncohjaaDoorPBld
set_option linter.unusedSimpArgs false
set_option linter.unusedVariables false
namespace Go.Proofs.YtdgpiobmncohjaaDoor.Aw
open Go.RowKit

def rowL : List Nat → List Int → Option (List UInt8)
  | n :: ns, w :: ws => if n < 256 ^ w.toNat then (rowL ns ws).map (leB w.toNat n ++ ·) else none
  | _, _ => some []
def rowS (ns : List Nat) (ws : List Int) : List UInt8 × Int :=
  if ns.length ≠ ws.length ∨ badW ws = true then ([], 1) else match rowL ns ws with
  | none => ([], 2)
  | some t => (t, 0)
def goR (ns : List Nat) (ws : List Int) (acc : List UInt8) : List UInt8 × Int :=
  match rowL ns ws with
  | none => ([], 2)
  | some t => (acc ++ t, 0)
theorem goR_nil {acc} : goR [] [] acc = (acc, 0) := by simp [goR, rowL]
theorem goR_bad {n ns} {w : Int} {ws acc} (h : ¬ n < 256 ^ w.toNat) : goR (n :: ns) (w :: ws) acc = ([], 2) := by simp [goR, rowL, h]
theorem goR_one {n ns} {w : Int} {ws acc} (h : n < 256 ^ w.toNat) : goR (n :: ns) (w :: ws) acc = goR ns ws (acc ++ leB w.toNat n) := by
  simp only [goR, rowL, h, if_true]; cases rowL ns ws <;> simp
theorem rowS_ok {ns ws} (h1 : ns.length = ws.length) (h2 : badW ws = false) : rowS ns ws = goR ns ws [] := by
  simp only [rowS, h1, h2, goR]; cases rowL ns ws <;> simp

theorem row_spec (ns : List Nat) (ws : List Int) (hl : ns.length ≤ 300) (hw : ws.length ≤ 300) (hn : ∀ n ∈ ns, n < 18446744073709551616) :
    PCall Tryd.prog 18 [.slc (rowsN .u64 ns), .slc (rowsZ .i64 ws)] (.tup [.str (rowS ns ws).1, .int .i64 (rowS ns ws).2]) := by
  refine pcall_go Tryd.func18 comp_field_Row ?_
  by_cases h1 : ns.length = ws.length
  · have d1 : ((ns.length : Int) != (ws.length : Int)) = false := by simp; omega
    simp (config := {maxSteps := 4000000}) only [U_field_Row, d1, reduceIte, reduceCtorEq, Nat.reduceEqDiff, Nat.reduceAdd, Int.reduceLT, Int.reduceLE, Int.reduceNeg, Int.reduceEq, Nat.reduceLT, Nat.reduceSub, Nat.reduceMul, Nat.reduceBEq, Nat.reduceLeDiff, Int.reduceBEq, Int.reduceBNe, Int.reduceToNat, ne_eq, implies_true, bA]
    refine callI (contains_spec _ _ ws (by omega) wrong_spec) ?_
    by_cases hb : badW ws = true
    · have d : (ws.any fun w => !wid w) = true := hb
      simp (config := {maxSteps := 4000000}) only [U_field_Row, d, reduceIte, reduceCtorEq, Nat.reduceEqDiff, Nat.reduceAdd, Int.reduceLT, Int.reduceLE, Int.reduceNeg, Int.reduceEq, Nat.reduceLT, Nat.reduceSub, Nat.reduceMul, Nat.reduceBEq, Nat.reduceLeDiff, Int.reduceBEq, Int.reduceBNe, Int.reduceToNat, ne_eq, implies_true, bA]
      simp [rowS, hb]
    · simp only [Bool.not_eq_true] at hb
      have d : (ws.any fun w => !wid w) = false := hb
      simp (config := {maxSteps := 4000000}) only [U_field_Row, d, reduceIte, reduceCtorEq, Nat.reduceEqDiff, Nat.reduceAdd, Int.reduceLT, Int.reduceLE, Int.reduceNeg, Int.reduceEq, Nat.reduceLT, Nat.reduceSub, Nat.reduceMul, Nat.reduceBEq, Nat.reduceLeDiff, Int.reduceBEq, Int.reduceBNe, Int.reduceToNat, ne_eq, implies_true, bA]
      refine loopF (fun x : Nat × List UInt8 × PV => ⟨ofL [(1, .slc (rowsZ .i64 ws)), (6, .ref 1 0), (18, .slc (rowsN .u64 ns)), (19, .int .i64 ns.length), (20, .int .i64 x.1)], [.buf 5 x.2.1, .tbox 76 [x.2.2, .osl 0 0 x.2.1.length]]⟩)
        (fun x => x.1 ≤ ns.length ∧ x.2.1.length ≤ 8 * x.1 ∧ (x.2.2 = .nilp ∨ x.2.2 = .ref 1 0) ∧ goR (ns.drop x.1) (ws.drop x.1) x.2.1 = rowS ns ws) (fun x => ns.length - x.1) (0, [], .nilp) ?_ ⟨Nat.zero_le _, by simp, .inl rfl, (rowS_ok h1 hb).symm⟩ ?_
      · simp (config := {maxSteps := 4000000}) only [U_field_Row, St.keep, cutO, reduceIte, reduceCtorEq, Nat.reduceEqDiff, Nat.reduceAdd, Int.reduceLT, Int.reduceLE, Int.reduceNeg, Int.reduceEq, Nat.reduceLT, Nat.reduceSub, Nat.reduceMul, Nat.reduceBEq, Nat.reduceLeDiff, Int.reduceBEq, Int.reduceBNe, Int.reduceToNat, ne_eq, implies_true, bA]
        all_goals rfl
      · intro ⟨i, bs, p⟩ ⟨hi, hbs, hp, he⟩
        simp only [] at hi hbs hp he ⊢
        by_cases h : i < ns.length
        · have d2 : decide ((i : Int) < (ns.length : Int)) = true := by simpa using h
          have h' : i < ws.length := by omega
          have hwi := badW_get hb h'
          obtain ⟨k, hk⟩ : ∃ k : Nat, ws[i] = k := ⟨ws[i].toNat, by omega⟩
          have hk' : ws[i].toNat = k := by omega
          have e1 : IntKind.i64.wrap ((i : Int) + 1) = ((i + 1 : Nat) : Int) := by rw [wrapI (by omega) (by omega)]; omega
          have hni := hn _ (List.getElem_mem h)
          simp (config := {maxSteps := 4000000}) only [U_field_Row, d2, islV_N h, islV_Z h', hk, reduceIte, reduceCtorEq, Nat.reduceEqDiff, Nat.reduceAdd, Int.reduceLT, Int.reduceLE, Int.reduceNeg, Int.reduceEq, Nat.reduceLT, Nat.reduceSub, Nat.reduceMul, Nat.reduceBEq, Nat.reduceLeDiff, Int.reduceBEq, Int.reduceBNe, Int.reduceToNat, ne_eq, implies_true, bA]
          refine callI (fits_spec ns[i] k hni (by omega) (by omega)) ?_
          rw [List.drop_eq_getElem_cons h, List.drop_eq_getElem_cons h'] at he
          by_cases hf : ns[i] < 256 ^ k
          · have d3 : decide (ns[i] < 256 ^ k) = true := by simpa using hf
            rw [goR_one (by rw [hk']; exact hf), hk'] at he
            have hlk : (leB k ns[i]).length = k := leB_len k ns[i]
            simp (config := {maxSteps := 4000000}) only [U_field_Row, d2, islV_N h, islV_Z h', hk, d3, reduceIte, reduceCtorEq, Nat.reduceEqDiff, Nat.reduceAdd, Int.reduceLT, Int.reduceLE, Int.reduceNeg, Int.reduceEq, Nat.reduceLT, Nat.reduceSub, Nat.reduceMul, Nat.reduceBEq, Nat.reduceLeDiff, Int.reduceBEq, Int.reduceBNe, Int.reduceToNat, ne_eq, implies_true, bA]
            refine callI (laid_spec ns[i] k hni (by omega) (by omega)) ?_
            simp (config := {maxSteps := 4000000}) only [U_field_Row, d2, islV_N h, islV_Z h', hk, d3, reduceIte, reduceCtorEq, Nat.reduceEqDiff, Nat.reduceAdd, Int.reduceLT, Int.reduceLE, Int.reduceNeg, Int.reduceEq, Nat.reduceLT, Nat.reduceSub, Nat.reduceMul, Nat.reduceBEq, Nat.reduceLeDiff, Int.reduceBEq, Int.reduceBNe, Int.reduceToNat, ne_eq, implies_true, bA]
            refine ICall_mono ?_ (writeString_i hp (by omega) (by omega))
            rintro r ob' ⟨rfl, rfl⟩
            simp (config := {maxSteps := 4000000}) only [U_field_Row, e1, reduceIte, reduceCtorEq, Nat.reduceEqDiff, Nat.reduceAdd, Int.reduceLT, Int.reduceLE, Int.reduceNeg, Int.reduceEq, Nat.reduceLT, Nat.reduceSub, Nat.reduceMul, Nat.reduceBEq, Nat.reduceLeDiff, Int.reduceBEq, Int.reduceBNe, Int.reduceToNat, ne_eq, implies_true, bA]
            refine ⟨(i + 1, bs ++ leB k ns[i], .ref 1 0), ?_, ⟨h, by simp only [List.length_append]; omega, .inr rfl, he⟩, by show ns.length - (i + 1) < ns.length - i; omega⟩
            · simp only [List.length_append]
              all_goals rfl
          · have d3 : decide (ns[i] < 256 ^ k) = false := by simpa using hf
            rw [goR_bad (by rw [hk']; exact hf)] at he
            simp (config := {maxSteps := 4000000}) only [U_field_Row, d2, islV_N h, islV_Z h', hk, d3, ← he, reduceIte, reduceCtorEq, Nat.reduceEqDiff, Nat.reduceAdd, Int.reduceLT, Int.reduceLE, Int.reduceNeg, Int.reduceEq, Nat.reduceLT, Nat.reduceSub, Nat.reduceMul, Nat.reduceBEq, Nat.reduceLeDiff, Int.reduceBEq, Int.reduceBNe, Int.reduceToNat, ne_eq, implies_true, bA]
        · have d2 : decide ((i : Int) < (ns.length : Int)) = false := by simpa using h
          have hr : rowS ns ws = (bs, 0) := by
            rw [← he, List.drop_of_length_le (by omega), List.drop_of_length_le (by omega), goR_nil]
          simp (config := {maxSteps := 4000000}) only [U_field_Row, d2, reduceIte, reduceCtorEq, Nat.reduceEqDiff, Nat.reduceAdd, Int.reduceLT, Int.reduceLE, Int.reduceNeg, Int.reduceEq, Nat.reduceLT, Nat.reduceSub, Nat.reduceMul, Nat.reduceBEq, Nat.reduceLeDiff, Int.reduceBEq, Int.reduceBNe, Int.reduceToNat, ne_eq, implies_true, bA]
          refine ICall_mono ?_ (string_i (by omega))
          rintro r ob' rfl
          simp (config := {maxSteps := 4000000}) only [U_field_Row, hr, reduceIte, reduceCtorEq, Nat.reduceEqDiff, Nat.reduceAdd, Int.reduceLT, Int.reduceLE, Int.reduceNeg, Int.reduceEq, Nat.reduceLT, Nat.reduceSub, Nat.reduceMul, Nat.reduceBEq, Nat.reduceLeDiff, Int.reduceBEq, Int.reduceBNe, Int.reduceToNat, ne_eq, implies_true, bA]
  · have d1 : ((ns.length : Int) != (ws.length : Int)) = true := by simp; omega
    simp (config := {maxSteps := 4000000}) only [U_field_Row, d1, reduceIte, reduceCtorEq, Nat.reduceEqDiff, Nat.reduceAdd, Int.reduceLT, Int.reduceLE, Int.reduceNeg, Int.reduceEq, Nat.reduceLT, Nat.reduceSub, Nat.reduceMul, Nat.reduceBEq, Nat.reduceLeDiff, Int.reduceBEq, Int.reduceBNe, Int.reduceToNat, ne_eq, implies_true, bA]
    simp [rowS, h1]
end Go.Proofs.YtdgpiobmncohjaaDoor.Aw
