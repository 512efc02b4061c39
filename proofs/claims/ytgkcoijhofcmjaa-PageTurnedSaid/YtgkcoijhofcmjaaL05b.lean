/-
  Statements of layer 5, as contracts: bits that are turned; and what comes in.
-/
import Derived.Test.YtgkcoijhofcmjaaL05
set_option linter.unusedSimpArgs false
set_option linter.unusedVariables false
namespace Go.Proofs.Ytgkcoijhofcmjaa.Aw
open Go.RowKit

theorem turned_law (p : Pg) (at0 : Int) (A : BitVec 32) (hp : p.bo.length ≤ 9223372036854775807) (h1 : -9223372036854775808 ≤ at0) (h2 : at0 ≤ 9223372036854775807) : PCall Try.prog 9 [pP p, .int .i64 at0, .int .u32 A.toNat] (.bool true) := by
  refine pcall_go Try.func9 comp_law05_PageTurned ?_
  simp (config := {maxSteps := 4000000}) only [U_law05_PageTurned, rowP, reduceIte, reduceCtorEq, Nat.reduceEqDiff, Nat.reduceAdd, Int.reduceLT, Int.reduceLE, Int.reduceNeg, Int.reduceEq, Nat.reduceLT, Nat.reduceSub, Nat.reduceMul, Nat.reduceBEq, Nat.reduceLeDiff, Int.reduceBEq, Int.reduceBNe, Int.reduceToNat, List.map_cons, List.map_nil, Option.map_some, Option.map_none, List.length_nil, List.length_cons, ne_eq, implies_true, List.take_zero, List.take_succ_cons, List.take_nil, List.replicate_succ, List.replicate_zero, List.set_cons_zero, List.set_cons_succ, List.all_cons, List.all_nil, List.getElem?_cons_zero, List.getElem?_cons_succ, List.nil_append, List.cons_append, List.append_nil, List.append_assoc, List.length_append, List.getElem?_nil, beq_self_eq_true, List.drop_zero, List.drop_succ_cons, List.drop_nil, Option.getD_some, List.length_set, List.length_map, bK0, bK1, bK2, bK3, bW0, bW1, bW2, bW3, bW4, bW5, bW6, bW7, bW8, bW9, bW10, bW11, bW12, bW13, bW14, bW15, bW16, bW17, bW18, bW19, bW20, bW21, bW22, bW23, bW24, bW25, bW26, bW27, bW28, bW29, bW30, bW31, bW32, bW33, bW34, bW35, bW36, bW37, bW38, bW39, bW40, bW41, bW42, bW43, bW44, bW45, bW46, bW47, bW48, bW49, bW50, bW51, bW52, bW53]
  refine callI (write_spec p hp) ?_
  cases hmay : mayB p with
  | false =>
    have hw : writeS p = ([], 1) := by rw [writeS, if_neg (by rw [hmay]; simp)]
    rw [hw]
    simp (config := {maxSteps := 4000000}) only [U_law05_PageTurned, reduceIte, reduceCtorEq, Nat.reduceEqDiff, Nat.reduceAdd, Int.reduceLT, Int.reduceLE, Int.reduceNeg, Int.reduceEq, Nat.reduceLT, Nat.reduceSub, Nat.reduceMul, Nat.reduceBEq, Nat.reduceLeDiff, Int.reduceBEq, Int.reduceBNe, Int.reduceToNat, List.map_cons, List.map_nil, Option.map_some, Option.map_none, List.length_nil, List.length_cons, ne_eq, implies_true, List.take_zero, List.take_succ_cons, List.take_nil, List.replicate_succ, List.replicate_zero, List.set_cons_zero, List.set_cons_succ, List.all_cons, List.all_nil, List.getElem?_cons_zero, List.getElem?_cons_succ, List.nil_append, List.cons_append, List.append_nil, List.append_assoc, List.length_append, List.getElem?_nil, beq_self_eq_true, List.drop_zero, List.drop_succ_cons, List.drop_nil, Option.getD_some, List.length_set, List.length_map, bK0, bK1, bK2, bK3, bW0, bW1, bW2, bW3, bW4, bW5, bW6, bW7, bW8, bW9, bW10, bW11, bW12, bW13, bW14, bW15, bW16, bW17, bW18, bW19, bW20, bW21, bW22, bW23, bW24, bW25, bW26, bW27, bW28, bW29, bW30, bW31, bW32, bW33, bW34, bW35, bW36, bW37, bW38, bW39, bW40, bW41, bW42, bW43, bW44, bW45, bW46, bW47, bW48, bW49, bW50, bW51, bW52, bW53]
    refine callI awake05_spec ?_
    simp (config := {maxSteps := 4000000}) only [U_law05_PageTurned, beq_self_eq_true, reduceIte, reduceCtorEq, Nat.reduceEqDiff, Nat.reduceAdd, Int.reduceLT, Int.reduceLE, Int.reduceNeg, Int.reduceEq, Nat.reduceLT, Nat.reduceSub, Nat.reduceMul, Nat.reduceBEq, Nat.reduceLeDiff, Int.reduceBEq, Int.reduceBNe, Int.reduceToNat, List.map_cons, List.map_nil, Option.map_some, Option.map_none, List.length_nil, List.length_cons, ne_eq, implies_true, List.take_zero, List.take_succ_cons, List.take_nil, List.replicate_succ, List.replicate_zero, List.set_cons_zero, List.set_cons_succ, List.all_cons, List.all_nil, List.getElem?_cons_zero, List.getElem?_cons_succ, List.nil_append, List.cons_append, List.append_nil, List.append_assoc, List.length_append, List.getElem?_nil, beq_self_eq_true, List.drop_zero, List.drop_succ_cons, List.drop_nil, Option.getD_some, List.length_set, List.length_map, bK0, bK1, bK2, bK3, bW0, bW1, bW2, bW3, bW4, bW5, bW6, bW7, bW8, bW9, bW10, bW11, bW12, bW13, bW14, bW15, bW16, bW17, bW18, bW19, bW20, bW21, bW22, bW23, bW24, bW25, bW26, bW27, bW28, bW29, bW30, bW31, bW32, bW33, bW34, bW35, bW36, bW37, bW38, bW39, bW40, bW41, bW42, bW43, bW44, bW45, bW46, bW47, bW48, bW49, bW50, bW51, bW52, bW53]
  | true =>
    have hw : writeS p = (sealS (bodyS p), 0) := by rw [writeS, if_pos hmay]
    have hwl := write_len p
    rw [hw] at hwl
    simp only [] at hwl
    rw [hw]
    have hrw := read_write p hmay
    obtain ⟨t, ht⟩ : ∃ t, t = sealS (bodyS p) := ⟨_, rfl⟩
    rw [← ht] at hrw hwl
    have htl : t.length = (bodyS p).length + 4 := by rw [ht, seal_len]
    obtain ⟨m, hm⟩ : ∃ m : Nat, (m : Int) = IntKind.i64.wrap (8 * (t.length : Int)) := ⟨8 * t.length, by rw [wrapI (by omega) (by omega)]; omega⟩
    have hm' : m = 8 * t.length := by rw [wrapI (by omega) (by omega)] at hm; omega
    obtain ⟨fi, hfi⟩ : ∃ fi : Nat, (fi : Int) = (IntKind.i64.wrap (at0.tmod m + m)).tmod m ∧ fi < m := by
      have hm0 : (0 : Int) < m := by omega
      have ha := Int.tmod_lt_of_pos at0 hm0
      have hb : -(m : Int) < at0.tmod m := by have := Int.lt_tmod_of_pos at0 hm0; omega
      rw [wrapI (by omega) (by omega)]
      have hc := Int.tmod_nonneg (m : Int) (show (0 : Int) ≤ at0.tmod m + m by omega)
      have hd := Int.tmod_lt_of_pos (at0.tmod m + m) hm0
      exact ⟨((at0.tmod m + m).tmod m).toNat, by omega, by omega⟩
    obtain ⟨hfi, hfl⟩ := hfi
    have hm0 : (m : Int) ≠ 0 := by omega
    have dm0 : ((m : Int) == 0) = false := by simpa using hm0
    simp (config := {maxSteps := 4000000}) only [U_law05_PageTurned, ← ht, rowsO_bytes (l := t) rfl, byteRows_length, ← hm, dm0, binI_rem hm0, ← hfi, reduceIte, reduceCtorEq, Nat.reduceEqDiff, Nat.reduceAdd, Int.reduceLT, Int.reduceLE, Int.reduceNeg, Int.reduceEq, Nat.reduceLT, Nat.reduceSub, Nat.reduceMul, Nat.reduceBEq, Nat.reduceLeDiff, Int.reduceBEq, Int.reduceBNe, Int.reduceToNat, List.map_cons, List.map_nil, Option.map_some, Option.map_none, List.length_nil, List.length_cons, ne_eq, implies_true, List.take_zero, List.take_succ_cons, List.take_nil, List.replicate_succ, List.replicate_zero, List.set_cons_zero, List.set_cons_succ, List.all_cons, List.all_nil, List.getElem?_cons_zero, List.getElem?_cons_succ, List.nil_append, List.cons_append, List.append_nil, List.append_assoc, List.length_append, List.getElem?_nil, beq_self_eq_true, List.drop_zero, List.drop_succ_cons, List.drop_nil, Option.getD_some, List.length_set, List.length_map, bK0, bK1, bK2, bK3, bW0, bW1, bW2, bW3, bW4, bW5, bW6, bW7, bW8, bW9, bW10, bW11, bW12, bW13, bW14, bW15, bW16, bW17, bW18, bW19, bW20, bW21, bW22, bW23, bW24, bW25, bW26, bW27, bW28, bW29, bW30, bW31, bW32, bW33, bW34, bW35, bW36, bW37, bW38, bW39, bW40, bW41, bW42, bW43, bW44, bW45, bW46, bW47, bW48, bW49, bW50, bW51, bW52, bW53]
    refine loopF (fun k : Nat => ⟨ofL [(2, .int .u32 A.toNat), (3, .ref 0 0), (7, .str t), (9, .osl 1 0 t.length), (10, .int .i64 m), (11, .int .i64 fi), (12, .int .i64 k)], [.box (rowP p), .list 1 (byteRows (flips t fi A k))]⟩) (fun k => k ≤ 32) (fun k => 32 - k) 0 ?_ (by omega) ?_
    · simp (config := {maxSteps := 4000000}) only [U_law05_PageTurned, cutV_osl, reduceIte, reduceCtorEq, Nat.reduceEqDiff, Nat.reduceAdd, Int.reduceLT, Int.reduceLE, Int.reduceNeg, Int.reduceEq, Nat.reduceLT, Nat.reduceSub, Nat.reduceMul, Nat.reduceBEq, Nat.reduceLeDiff, Int.reduceBEq, Int.reduceBNe, Int.reduceToNat, List.map_cons, List.map_nil, Option.map_some, Option.map_none, List.length_nil, List.length_cons, ne_eq, implies_true, List.take_zero, List.take_succ_cons, List.take_nil, List.replicate_succ, List.replicate_zero, List.set_cons_zero, List.set_cons_succ, List.all_cons, List.all_nil, List.getElem?_cons_zero, List.getElem?_cons_succ, List.nil_append, List.cons_append, List.append_nil, List.append_assoc, List.length_append, List.getElem?_nil, beq_self_eq_true, List.drop_zero, List.drop_succ_cons, List.drop_nil, Option.getD_some, List.length_set, List.length_map, bK0, bK1, bK2, bK3, bW0, bW1, bW2, bW3, bW4, bW5, bW6, bW7, bW8, bW9, bW10, bW11, bW12, bW13, bW14, bW15, bW16, bW17, bW18, bW19, bW20, bW21, bW22, bW23, bW24, bW25, bW26, bW27, bW28, bW29, bW30, bW31, bW32, bW33, bW34, bW35, bW36, bW37, bW38, bW39, bW40, bW41, bW42, bW43, bW44, bW45, bW46, bW47, bW48, bW49, bW50, bW51, bW52, bW53]
      rfl
    · intro k hk
      have hfl' := flips_length t fi A k
      simp (config := {maxSteps := 4000000}) only [U_law05_PageTurned, reduceIte, reduceCtorEq, Nat.reduceEqDiff, Nat.reduceAdd, Int.reduceLT, Int.reduceLE, Int.reduceNeg, Int.reduceEq, Nat.reduceLT, Nat.reduceSub, Nat.reduceMul, Nat.reduceBEq, Nat.reduceLeDiff, Int.reduceBEq, Int.reduceBNe, Int.reduceToNat, List.map_cons, List.map_nil, Option.map_some, Option.map_none, List.length_nil, List.length_cons, ne_eq, implies_true, List.take_zero, List.take_succ_cons, List.take_nil, List.replicate_succ, List.replicate_zero, List.set_cons_zero, List.set_cons_succ, List.all_cons, List.all_nil, List.getElem?_cons_zero, List.getElem?_cons_succ, List.nil_append, List.cons_append, List.append_nil, List.append_assoc, List.length_append, List.getElem?_nil, beq_self_eq_true, List.drop_zero, List.drop_succ_cons, List.drop_nil, Option.getD_some, List.length_set, List.length_map, bK0, bK1, bK2, bK3, bW0, bW1, bW2, bW3, bW4, bW5, bW6, bW7, bW8, bW9, bW10, bW11, bW12, bW13, bW14, bW15, bW16, bW17, bW18, bW19, bW20, bW21, bW22, bW23, bW24, bW25, bW26, bW27, bW28, bW29, bW30, bW31, bW32, bW33, bW34, bW35, bW36, bW37, bW38, bW39, bW40, bW41, bW42, bW43, bW44, bW45, bW46, bW47, bW48, bW49, bW50, bW51, bW52, bW53]
      refine ⟨fun h => ?_, fun h => ?_⟩
      · have hk31 : k ≤ 31 := by omega
        have e31 : IntKind.i64.wrap (31 - (k : Int)) = ((31 - k : Nat) : Int) := by rw [wrapI (by omega) (by omega)]; omega
        have eu : IntKind.u64.wrap ((31 - k : Nat) : Int) = ((31 - k : Nat) : Int) := wrapU (by omega) (by omega)
        have efk : IntKind.i64.wrap ((fi : Int) + (k : Int)) = ((fi + k : Nat) : Int) := by rw [wrapI (by omega) (by omega)]; omega
        simp (config := {maxSteps := 4000000}) only [U_law05_PageTurned, e31, eu, efk, shr32, and32, reduceIte, reduceCtorEq, Nat.reduceEqDiff, Nat.reduceAdd, Int.reduceLT, Int.reduceLE, Int.reduceNeg, Int.reduceEq, Nat.reduceLT, Nat.reduceSub, Nat.reduceMul, Nat.reduceBEq, Nat.reduceLeDiff, Int.reduceBEq, Int.reduceBNe, Int.reduceToNat, List.map_cons, List.map_nil, Option.map_some, Option.map_none, List.length_nil, List.length_cons, ne_eq, implies_true, List.take_zero, List.take_succ_cons, List.take_nil, List.replicate_succ, List.replicate_zero, List.set_cons_zero, List.set_cons_succ, List.all_cons, List.all_nil, List.getElem?_cons_zero, List.getElem?_cons_succ, List.nil_append, List.cons_append, List.append_nil, List.append_assoc, List.length_append, List.getElem?_nil, beq_self_eq_true, List.drop_zero, List.drop_succ_cons, List.drop_nil, Option.getD_some, List.length_set, List.length_map, bK0, bK1, bK2, bK3, bW0, bW1, bW2, bW3, bW4, bW5, bW6, bW7, bW8, bW9, bW10, bW11, bW12, bW13, bW14, bW15, bW16, bW17, bW18, bW19, bW20, bW21, bW22, bW23, bW24, bW25, bW26, bW27, bW28, bW29, bW30, bW31, bW32, bW33, bW34, bW35, bW36, bW37, bW38, bW39, bW40, bW41, bW42, bW43, bW44, bW45, bW46, bW47, bW48, bW49, bW50, bW51, bW52, bW53]
        by_cases hin : fi + k < m
        · have din : decide (((fi + k : Nat) : Int) < (m : Int)) = true := by simp; omega
          simp (config := {maxSteps := 4000000}) only [U_law05_PageTurned, din, e31, eu, efk, shr32, and32, reduceIte, reduceCtorEq, Nat.reduceEqDiff, Nat.reduceAdd, Int.reduceLT, Int.reduceLE, Int.reduceNeg, Int.reduceEq, Nat.reduceLT, Nat.reduceSub, Nat.reduceMul, Nat.reduceBEq, Nat.reduceLeDiff, Int.reduceBEq, Int.reduceBNe, Int.reduceToNat, List.map_cons, List.map_nil, Option.map_some, Option.map_none, List.length_nil, List.length_cons, ne_eq, implies_true, List.take_zero, List.take_succ_cons, List.take_nil, List.replicate_succ, List.replicate_zero, List.set_cons_zero, List.set_cons_succ, List.all_cons, List.all_nil, List.getElem?_cons_zero, List.getElem?_cons_succ, List.nil_append, List.cons_append, List.append_nil, List.append_assoc, List.length_append, List.getElem?_nil, beq_self_eq_true, List.drop_zero, List.drop_succ_cons, List.drop_nil, Option.getD_some, List.length_set, List.length_map, bK0, bK1, bK2, bK3, bW0, bW1, bW2, bW3, bW4, bW5, bW6, bW7, bW8, bW9, bW10, bW11, bW12, bW13, bW14, bW15, bW16, bW17, bW18, bW19, bW20, bW21, bW22, bW23, bW24, bW25, bW26, bW27, bW28, bW29, bW30, bW31, bW32, bW33, bW34, bW35, bW36, bW37, bW38, bW39, bW40, bW41, bW42, bW43, bW44, bW45, bW46, bW47, bW48, bW49, bW50, bW51, bW52, bW53]
          refine ⟨fun h => ?_, fun h => ?_⟩
          · have hlt8 : (fi + k) / 8 < (flips t fi A k).length := by rw [hfl']; omega
            have e8 : IntKind.i64.wrap (((fi + k : Nat) : Int).tdiv 8) = (((fi + k) / 8 : Nat) : Int) := by rw [show (8 : Int) = ((8 : Nat) : Int) from rfl, tdivN]; exact wrapI (by omega) (by omega)
            have em : ((fi + k : Nat) : Int).tmod 8 = (((fi + k) % 8 : Nat) : Int) := by rw [show (8 : Int) = ((8 : Nat) : Int) from rfl, tmodN]
            have eu8 : IntKind.u64.wrap (((fi + k) % 8 : Nat) : Int) = (((fi + k) % 8 : Nat) : Int) := wrapU (by omega) (by omega)
            have ebit : A.getLsbD (31 - k) = true := by rw [← bit_word A (31 - k)]; exact h
            have eget : (flips t fi A k).getD ((fi + k) / 8) 0 = (flips t fi A k)[(fi + k) / 8] := by rw [List.getD_eq_getElem?_getD, List.getElem?_eq_getElem hlt8]; rfl
            simp (config := {maxSteps := 4000000}) only [U_law05_PageTurned, efk, e8, em, eu8, islO_bytes hfl'.symm hlt8, ldL_bytes hfl'.symm hlt8, shr128 ((fi + k) % 8) (by omega), xor8, stL_bytes hfl'.symm hlt8, wrapI (n := (k : Int) + 1) (by omega) (by omega), reduceIte, reduceCtorEq, Nat.reduceEqDiff, Nat.reduceAdd, Int.reduceLT, Int.reduceLE, Int.reduceNeg, Int.reduceEq, Nat.reduceLT, Nat.reduceSub, Nat.reduceMul, Nat.reduceBEq, Nat.reduceLeDiff, Int.reduceBEq, Int.reduceBNe, Int.reduceToNat, List.map_cons, List.map_nil, Option.map_some, Option.map_none, List.length_nil, List.length_cons, ne_eq, implies_true, List.take_zero, List.take_succ_cons, List.take_nil, List.replicate_succ, List.replicate_zero, List.set_cons_zero, List.set_cons_succ, List.all_cons, List.all_nil, List.getElem?_cons_zero, List.getElem?_cons_succ, List.nil_append, List.cons_append, List.append_nil, List.append_assoc, List.length_append, List.getElem?_nil, beq_self_eq_true, List.drop_zero, List.drop_succ_cons, List.drop_nil, Option.getD_some, List.length_set, List.length_map, bK0, bK1, bK2, bK3, bW0, bW1, bW2, bW3, bW4, bW5, bW6, bW7, bW8, bW9, bW10, bW11, bW12, bW13, bW14, bW15, bW16, bW17, bW18, bW19, bW20, bW21, bW22, bW23, bW24, bW25, bW26, bW27, bW28, bW29, bW30, bW31, bW32, bW33, bW34, bW35, bW36, bW37, bW38, bW39, bW40, bW41, bW42, bW43, bW44, bW45, bW46, bW47, bW48, bW49, bW50, bW51, bW52, bW53]
            refine ⟨k + 1, ?_, by omega, by omega⟩
            rw [flips, if_pos ⟨by omega, ebit⟩, flipAt, eget]; rfl
          · have ebit : A.getLsbD (31 - k) = false := by rw [← bit_word A (31 - k)]; exact h
            refine ⟨k + 1, ?_, by omega, by omega⟩
            rw [flips, if_neg (by rw [ebit]; simp), wrapI (n := (k : Int) + 1) (by omega) (by omega)]; rfl
        · have din : decide (((fi + k : Nat) : Int) < (m : Int)) = false := by simp; omega
          simp (config := {maxSteps := 4000000}) only [U_law05_PageTurned, din, reduceIte, reduceCtorEq, Nat.reduceEqDiff, Nat.reduceAdd, Int.reduceLT, Int.reduceLE, Int.reduceNeg, Int.reduceEq, Nat.reduceLT, Nat.reduceSub, Nat.reduceMul, Nat.reduceBEq, Nat.reduceLeDiff, Int.reduceBEq, Int.reduceBNe, Int.reduceToNat, List.map_cons, List.map_nil, Option.map_some, Option.map_none, List.length_nil, List.length_cons, ne_eq, implies_true, List.take_zero, List.take_succ_cons, List.take_nil, List.replicate_succ, List.replicate_zero, List.set_cons_zero, List.set_cons_succ, List.all_cons, List.all_nil, List.getElem?_cons_zero, List.getElem?_cons_succ, List.nil_append, List.cons_append, List.append_nil, List.append_assoc, List.length_append, List.getElem?_nil, beq_self_eq_true, List.drop_zero, List.drop_succ_cons, List.drop_nil, Option.getD_some, List.length_set, List.length_map, bK0, bK1, bK2, bK3, bW0, bW1, bW2, bW3, bW4, bW5, bW6, bW7, bW8, bW9, bW10, bW11, bW12, bW13, bW14, bW15, bW16, bW17, bW18, bW19, bW20, bW21, bW22, bW23, bW24, bW25, bW26, bW27, bW28, bW29, bW30, bW31, bW32, bW33, bW34, bW35, bW36, bW37, bW38, bW39, bW40, bW41, bW42, bW43, bW44, bW45, bW46, bW47, bW48, bW49, bW50, bW51, bW52, bW53]
          refine ⟨k + 1, ?_, by omega, by omega⟩
          rw [flips, if_neg (by omega), wrapI (n := (k : Int) + 1) (by omega) (by omega)]; rfl
      · have : k = 32 := by simp at h; omega
        subst this
        simp (config := {maxSteps := 4000000}) only [U_law05_PageTurned, rowsO_bytes hfl'.symm, b2sV_rows, bytesOf_byteRows, reduceIte, reduceCtorEq, Nat.reduceEqDiff, Nat.reduceAdd, Int.reduceLT, Int.reduceLE, Int.reduceNeg, Int.reduceEq, Nat.reduceLT, Nat.reduceSub, Nat.reduceMul, Nat.reduceBEq, Nat.reduceLeDiff, Int.reduceBEq, Int.reduceBNe, Int.reduceToNat, List.map_cons, List.map_nil, Option.map_some, Option.map_none, List.length_nil, List.length_cons, ne_eq, implies_true, List.take_zero, List.take_succ_cons, List.take_nil, List.replicate_succ, List.replicate_zero, List.set_cons_zero, List.set_cons_succ, List.all_cons, List.all_nil, List.getElem?_cons_zero, List.getElem?_cons_succ, List.nil_append, List.cons_append, List.append_nil, List.append_assoc, List.length_append, List.getElem?_nil, beq_self_eq_true, List.drop_zero, List.drop_succ_cons, List.drop_nil, Option.getD_some, List.length_set, List.length_map, bK0, bK1, bK2, bK3, bW0, bW1, bW2, bW3, bW4, bW5, bW6, bW7, bW8, bW9, bW10, bW11, bW12, bW13, bW14, bW15, bW16, bW17, bW18, bW19, bW20, bW21, bW22, bW23, bW24, bW25, bW26, bW27, bW28, bW29, bW30, bW31, bW32, bW33, bW34, bW35, bW36, bW37, bW38, bW39, bW40, bW41, bW42, bW43, bW44, bW45, bW46, bW47, bW48, bW49, bW50, bW51, bW52, bW53]
        refine callI (read_spec (flips t fi A 32) (by omega)) ?_
        simp (config := {maxSteps := 4000000}) only [U_law05_PageTurned, rowP, rowsO_bytes hfl'.symm, b2sV_rows, bytesOf_byteRows, reduceIte, reduceCtorEq, Nat.reduceEqDiff, Nat.reduceAdd, Int.reduceLT, Int.reduceLE, Int.reduceNeg, Int.reduceEq, Nat.reduceLT, Nat.reduceSub, Nat.reduceMul, Nat.reduceBEq, Nat.reduceLeDiff, Int.reduceBEq, Int.reduceBNe, Int.reduceToNat, List.map_cons, List.map_nil, Option.map_some, Option.map_none, List.length_nil, List.length_cons, ne_eq, implies_true, List.take_zero, List.take_succ_cons, List.take_nil, List.replicate_succ, List.replicate_zero, List.set_cons_zero, List.set_cons_succ, List.all_cons, List.all_nil, List.getElem?_cons_zero, List.getElem?_cons_succ, List.nil_append, List.cons_append, List.append_nil, List.append_assoc, List.length_append, List.getElem?_nil, beq_self_eq_true, List.drop_zero, List.drop_succ_cons, List.drop_nil, Option.getD_some, List.length_set, List.length_map, bK0, bK1, bK2, bK3, bW0, bW1, bW2, bW3, bW4, bW5, bW6, bW7, bW8, bW9, bW10, bW11, bW12, bW13, bW14, bW15, bW16, bW17, bW18, bW19, bW20, bW21, bW22, bW23, bW24, bW25, bW26, bW27, bW28, bW29, bW30, bW31, bW32, bW33, bW34, bW35, bW36, bW37, bW38, bW39, bW40, bW41, bW42, bW43, bW44, bW45, bW46, bW47, bW48, bW49, bW50, bW51, bW52, bW53]
        by_cases hsame : flips t fi A 32 = t
        · have d1 : (flips t fi A 32 == t) = true := by simp [hsame]
          rw [hsame, hrw]
          have d1 : (t == t) = true := by simp
          simp (config := {maxSteps := 4000000}) only [U_law05_PageTurned, d1, reduceIte, reduceCtorEq, Nat.reduceEqDiff, Nat.reduceAdd, Int.reduceLT, Int.reduceLE, Int.reduceNeg, Int.reduceEq, Nat.reduceLT, Nat.reduceSub, Nat.reduceMul, Nat.reduceBEq, Nat.reduceLeDiff, Int.reduceBEq, Int.reduceBNe, Int.reduceToNat, List.map_cons, List.map_nil, Option.map_some, Option.map_none, List.length_nil, List.length_cons, ne_eq, implies_true, List.take_zero, List.take_succ_cons, List.take_nil, List.replicate_succ, List.replicate_zero, List.set_cons_zero, List.set_cons_succ, List.all_cons, List.all_nil, List.getElem?_cons_zero, List.getElem?_cons_succ, List.nil_append, List.cons_append, List.append_nil, List.append_assoc, List.length_append, List.getElem?_nil, beq_self_eq_true, List.drop_zero, List.drop_succ_cons, List.drop_nil, Option.getD_some, List.length_set, List.length_map, bK0, bK1, bK2, bK3, bW0, bW1, bW2, bW3, bW4, bW5, bW6, bW7, bW8, bW9, bW10, bW11, bW12, bW13, bW14, bW15, bW16, bW17, bW18, bW19, bW20, bW21, bW22, bW23, bW24, bW25, bW26, bW27, bW28, bW29, bW30, bW31, bW32, bW33, bW34, bW35, bW36, bW37, bW38, bW39, bW40, bW41, bW42, bW43, bW44, bW45, bW46, bW47, bW48, bW49, bW50, bW51, bW52, bW53]
          refine callI awake05_spec ?_
          simp (config := {maxSteps := 4000000}) only [U_law05_PageTurned, rowP, beq_self_eq_true, reduceIte, reduceCtorEq, Nat.reduceEqDiff, Nat.reduceAdd, Int.reduceLT, Int.reduceLE, Int.reduceNeg, Int.reduceEq, Nat.reduceLT, Nat.reduceSub, Nat.reduceMul, Nat.reduceBEq, Nat.reduceLeDiff, Int.reduceBEq, Int.reduceBNe, Int.reduceToNat, List.map_cons, List.map_nil, Option.map_some, Option.map_none, List.length_nil, List.length_cons, ne_eq, implies_true, List.take_zero, List.take_succ_cons, List.take_nil, List.replicate_succ, List.replicate_zero, List.set_cons_zero, List.set_cons_succ, List.all_cons, List.all_nil, List.getElem?_cons_zero, List.getElem?_cons_succ, List.nil_append, List.cons_append, List.append_nil, List.append_assoc, List.length_append, List.getElem?_nil, beq_self_eq_true, List.drop_zero, List.drop_succ_cons, List.drop_nil, Option.getD_some, List.length_set, List.length_map, bK0, bK1, bK2, bK3, bW0, bW1, bW2, bW3, bW4, bW5, bW6, bW7, bW8, bW9, bW10, bW11, bW12, bW13, bW14, bW15, bW16, bW17, bW18, bW19, bW20, bW21, bW22, bW23, bW24, bW25, bW26, bW27, bW28, bW29, bW30, bW31, bW32, bW33, bW34, bW35, bW36, bW37, bW38, bW39, bW40, bW41, bW42, bW43, bW44, bW45, bW46, bW47, bW48, bW49, bW50, bW51, bW52, bW53]
        · have d1 : (flips t fi A 32 == t) = false := by simp [hsame]
          have d2 : (openS (flips t fi A 32)).1 = [] ∧ (openS (flips t fi A 32)).2 = 6 := burst_open (bodyS p) t fi A ht hsame
          have d3 : readS (flips t fi A 32) = (zeroP, 6) := by rw [readS, if_pos (by rw [d2.2]; simp), d2.2]
          rw [d3]
          simp (config := {maxSteps := 4000000}) only [U_law05_PageTurned, d1, reduceIte, reduceCtorEq, Nat.reduceEqDiff, Nat.reduceAdd, Int.reduceLT, Int.reduceLE, Int.reduceNeg, Int.reduceEq, Nat.reduceLT, Nat.reduceSub, Nat.reduceMul, Nat.reduceBEq, Nat.reduceLeDiff, Int.reduceBEq, Int.reduceBNe, Int.reduceToNat, List.map_cons, List.map_nil, Option.map_some, Option.map_none, List.length_nil, List.length_cons, ne_eq, implies_true, List.take_zero, List.take_succ_cons, List.take_nil, List.replicate_succ, List.replicate_zero, List.set_cons_zero, List.set_cons_succ, List.all_cons, List.all_nil, List.getElem?_cons_zero, List.getElem?_cons_succ, List.nil_append, List.cons_append, List.append_nil, List.append_assoc, List.length_append, List.getElem?_nil, beq_self_eq_true, List.drop_zero, List.drop_succ_cons, List.drop_nil, Option.getD_some, List.length_set, List.length_map, bK0, bK1, bK2, bK3, bW0, bW1, bW2, bW3, bW4, bW5, bW6, bW7, bW8, bW9, bW10, bW11, bW12, bW13, bW14, bW15, bW16, bW17, bW18, bW19, bW20, bW21, bW22, bW23, bW24, bW25, bW26, bW27, bW28, bW29, bW30, bW31, bW32, bW33, bW34, bW35, bW36, bW37, bW38, bW39, bW40, bW41, bW42, bW43, bW44, bW45, bW46, bW47, bW48, bW49, bW50, bW51, bW52, bW53]
          refine callI awake05_spec ?_
          simp (config := {maxSteps := 4000000}) only [U_law05_PageTurned, zeroP, rowP, beq_self_eq_true, reduceIte, reduceCtorEq, Nat.reduceEqDiff, Nat.reduceAdd, Int.reduceLT, Int.reduceLE, Int.reduceNeg, Int.reduceEq, Nat.reduceLT, Nat.reduceSub, Nat.reduceMul, Nat.reduceBEq, Nat.reduceLeDiff, Int.reduceBEq, Int.reduceBNe, Int.reduceToNat, List.map_cons, List.map_nil, Option.map_some, Option.map_none, List.length_nil, List.length_cons, ne_eq, implies_true, List.take_zero, List.take_succ_cons, List.take_nil, List.replicate_succ, List.replicate_zero, List.set_cons_zero, List.set_cons_succ, List.all_cons, List.all_nil, List.getElem?_cons_zero, List.getElem?_cons_succ, List.nil_append, List.cons_append, List.append_nil, List.append_assoc, List.length_append, List.getElem?_nil, beq_self_eq_true, List.drop_zero, List.drop_succ_cons, List.drop_nil, Option.getD_some, List.length_set, List.length_map, bK0, bK1, bK2, bK3, bW0, bW1, bW2, bW3, bW4, bW5, bW6, bW7, bW8, bW9, bW10, bW11, bW12, bW13, bW14, bW15, bW16, bW17, bW18, bW19, bW20, bW21, bW22, bW23, bW24, bW25, bW26, bW27, bW28, bW29, bW30, bW31, bW32, bW33, bW34, bW35, bW36, bW37, bW38, bW39, bW40, bW41, bW42, bW43, bW44, bW45, bW46, bW47, bW48, bW49, bW50, bW51, bW52, bW53]

abbrev shP : Sh := .st [.int .i64, .int .i64, .int .i64, .int .i64, .str]
theorem fit_pg {cs : List PV} (h : shP.fit cs) : ∃ p : Pg, cs = rowP p ∧ p.bo.length ≤ 9223372036854775807 := by
  obtain ⟨_, _, rfl, ⟨x, rfl, _⟩, _, _, rfl, ⟨y, rfl, _⟩, _, _, rfl, ⟨z, rfl, _⟩, _, _, rfl, ⟨u, rfl, _⟩, _, _, rfl, ⟨s, rfl, hs⟩, rfl⟩ := h
  exact ⟨⟨x, y, z, u, s⟩, rfl, by simpa [maxLen] using hs⟩
theorem writes_fit (ps : List PV) (h : fitVs [shP] ps) : PCall Try.prog 3 ps (.bool true) := by
  obtain ⟨_, _, rfl, ⟨cs, rfl, hx⟩, rfl⟩ := h
  obtain ⟨p, rfl, hp⟩ := fit_pg hx
  exact writes_law p hp
theorem apart_fit (ps : List PV) (h : fitVs [shP, shP] ps) : PCall Try.prog 4 ps (.bool true) := by
  obtain ⟨_, _, rfl, ⟨cs, rfl, hx⟩, _, _, rfl, ⟨ds, rfl, hy⟩, rfl⟩ := h
  obtain ⟨p, rfl, hp⟩ := fit_pg hx
  obtain ⟨q, rfl, hq⟩ := fit_pg hy
  exact apart_law p q hp hq
theorem newer_fit (ps : List PV) (h : fitVs [shP, shP, .int .i64] ps) : PCall Try.prog 5 ps (.bool true) := by
  obtain ⟨_, _, rfl, ⟨cs, rfl, hx⟩, _, _, rfl, ⟨ds, rfl, hy⟩, _, _, rfl, ⟨k, hk, _⟩, rfl⟩ := h
  obtain ⟨p, rfl, hp⟩ := fit_pg hx
  obtain ⟨q, rfl, hq⟩ := fit_pg hy
  cases hk
  exact newer_law p q k hp hq
theorem porder_fit (ps : List PV) (h : fitVs [shP, shP, shP] ps) : PCall Try.prog 6 ps (.bool true) := by
  obtain ⟨_, _, rfl, ⟨cs, rfl, hx⟩, _, _, rfl, ⟨ds, rfl, hy⟩, _, _, rfl, ⟨es, rfl, hz⟩, rfl⟩ := h
  obtain ⟨p, rfl, hp⟩ := fit_pg hx
  obtain ⟨q, rfl, hq⟩ := fit_pg hy
  obtain ⟨r, rfl, hr⟩ := fit_pg hz
  exact porder_law p q r hp hq hr
theorem reads_fit (ps : List PV) (h : fitVs [.str] ps) : PCall Try.prog 7 ps (.bool true) := by
  obtain ⟨_, _, rfl, ⟨s, hs, hl⟩, rfl⟩ := h
  cases hs
  exact reads_law s (by simpa [maxLen] using hl)
theorem pback_fit (ps : List PV) (h : fitVs [shP, .str] ps) : PCall Try.prog 8 ps (.bool true) := by
  obtain ⟨_, _, rfl, ⟨cs, rfl, hx⟩, _, _, rfl, ⟨s, hs, hl⟩, rfl⟩ := h
  obtain ⟨p, rfl, hp⟩ := fit_pg hx
  cases hs
  exact back_law p s hp (by simpa [maxLen] using hl)
theorem turned_fit (ps : List PV) (h : fitVs [shP, .int .i64, .int .u32] ps) : PCall Try.prog 9 ps (.bool true) := by
  obtain ⟨_, _, rfl, ⟨cs, rfl, hx⟩, _, _, rfl, ⟨b, hb, wb⟩, _, _, rfl, ⟨c, hc, wc⟩, rfl⟩ := h
  obtain ⟨p, rfl, hp⟩ := fit_pg hx
  cases hb; cases hc
  have := bounds_i64 wb
  rw [u32_word wc]
  exact turned_law p b _ hp this.1 this.2
end Go.Proofs.Ytgkcoijhofcmjaa.Aw
