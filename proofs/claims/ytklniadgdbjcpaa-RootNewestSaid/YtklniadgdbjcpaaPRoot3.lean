/-
  What the functions of the package 'root' compute, and the document's: reading; finding.
-/
import Derived.Test.YtklniadgdbjcpaaPRoot2
import Derived.Test.YtklniadgdbjcpaaCode2
import Derived.Test.YtklniadgdbjcpaaAwFit
set_option linter.unusedSimpArgs false
set_option linter.unusedVariables false
namespace Go.Proofs.Ytklniadgdbjcpaa.Aw
open Go.RowKit

def topS (a b : Nat) : Int := if b = 0 then -1 else (a : Int)
theorem top_spec (a b : Nat) (h : a < 9223372036854775808) : PCall Try.prog 28 [.int .u64 a, .int .u64 b] (.int .i64 (topS a b)) := by
  refine pcall_go Try.func28 comp_root_top ?_
  by_cases hb : b = 0
  · have d : ((b : Int) == 0) = true := by simp [hb]
    simp (config := {maxSteps := 4000000}) only [U_root_top, d, reduceIte, reduceCtorEq, Nat.reduceEqDiff, Nat.reduceAdd, Int.reduceLT, Int.reduceLE, Int.reduceNeg, Int.reduceEq, Nat.reduceLT, Nat.reduceSub, Nat.reduceMul, Nat.reduceBEq, Nat.reduceLeDiff, Int.reduceBEq, Int.reduceBNe, Int.reduceToNat, ne_eq, implies_true, bA]
    simp [topS, hb]
  · have d : ((b : Int) == 0) = false := by simp [hb]
    have e : IntKind.i64.wrap (a : Int) = (a : Int) := wrapI (by omega) (by omega)
    simp (config := {maxSteps := 4000000}) only [U_root_top, d, e, reduceIte, reduceCtorEq, Nat.reduceEqDiff, Nat.reduceAdd, Int.reduceLT, Int.reduceLE, Int.reduceNeg, Int.reduceEq, Nat.reduceLT, Nat.reduceSub, Nat.reduceMul, Nat.reduceBEq, Nat.reduceLeDiff, Int.reduceBEq, Int.reduceBNe, Int.reduceToNat, ne_eq, implies_true, bA]
    simp [topS, hb]
/-- The first namespaces of some bytes. -/
def outS (s : List UInt8) (i : Nat) : List Sp := (List.range i).map fun j => spAt s (6 + 9 * j)
theorem outS_len (s : List UInt8) (i : Nat) : (outS s i).length = i := by simp [outS]
theorem outS_succ (s : List UInt8) (i : Nat) : outS s (i + 1) = outS s i ++ [spAt s (6 + 9 * i)] := by simp [outS, List.range_succ]
theorem outS_all (s : List UInt8) : outS s (manyOf s) = spacesOf s := rfl
/-- What bytes are like that are a record's. -/
theorem rec_shape {s : List UInt8} (h : mayR (genOf s) (spacesOf s) = true ∧ recS (genOf s) (spacesOf s) = s) :
    6 ≤ s.length ∧ leN ((s.drop 5).take 1) ≤ 8 ∧ s.length = 6 + 9 * leN ((s.drop 5).take 1) ∧ spacesOf s = outS s (leN ((s.drop 5).take 1)) := by
  obtain ⟨h1, h2⟩ := h
  have hl := recS_len (genOf s) (spacesOf s)
  rw [h2] at hl
  have h8 := (mayR_iff.1 h1).2.1
  have hn : leN ((s.drop 5).take 1) = (spacesOf s).length := by
    have e : s = leB 5 (genOf s).toNat ++ (leB 1 (spacesOf s).length ++ (spacesOf s).flatMap entS) := by
      conv => lhs; rw [← h2]
      simp [recS, hdrS]
    rw [e, List.drop_left' (leB_len _ _), ← e, List.take_left' (leB_len _ _), leN_of (by show (spacesOf s).length < 256; omega)]
  refine ⟨by omega, by omega, by omega, ?_⟩
  rw [hn]
  have : (spacesOf s).length = manyOf s := by simp [spacesOf]
  rw [this, outS_all]
theorem spaces_out {s : List UInt8} {n : Nat} (h8 : n ≤ 8) (hl : s.length = 6 + 9 * n) : spacesOf s = outS s n := by
  rw [← outS_all]; congr 1; rw [manyOf, hl]; omega
theorem read_no {s : List UInt8} (h : ¬ (mayR (genOf s) (spacesOf s) = true ∧ recS (genOf s) (spacesOf s) = s)) : readR s = (0, [], 3) := by rw [readR, if_neg h]
theorem read_yes {s : List UInt8} (h : mayR (genOf s) (spacesOf s) = true ∧ recS (genOf s) (spacesOf s) = s) : readR s = (genOf s, spacesOf s, 0) := by rw [readR, if_pos h]
theorem read_spec (s : List UInt8) (hs : s.length ≤ 1000000) : PCall Try.prog 15 [.str s] (.tup [.int .i64 (readR s).1, .slc ((readR s).2.1.map rowSp), .int .i64 (readR s).2.2]) := by
  refine pcall_go Try.func15 comp_root_Read ?_
  simp (config := {maxSteps := 4000000}) only [U_root_Read, reduceIte, reduceCtorEq, Nat.reduceEqDiff, Nat.reduceAdd, Int.reduceLT, Int.reduceLE, Int.reduceNeg, Int.reduceEq, Nat.reduceLT, Nat.reduceSub, Nat.reduceMul, Nat.reduceBEq, Nat.reduceLeDiff, Int.reduceBEq, Int.reduceBNe, Int.reduceToNat, ne_eq, implies_true, bA]
  refine callI head_spec ?_
  simp (config := {maxSteps := 4000000}) only [U_root_Read, reduceIte, reduceCtorEq, Nat.reduceEqDiff, Nat.reduceAdd, Int.reduceLT, Int.reduceLE, Int.reduceNeg, Int.reduceEq, Nat.reduceLT, Nat.reduceSub, Nat.reduceMul, Nat.reduceBEq, Nat.reduceLeDiff, Int.reduceBEq, Int.reduceBNe, Int.reduceToNat, ne_eq, implies_true, bA]
  refine callI (take_spec s [5, 1] (by omega) (by simp)) ?_
  by_cases h6 : s.length < 6
  · rw [take_hdr_no s h6, read_no (fun h => by have := (rec_shape h).1; omega)]
    simp (config := {maxSteps := 4000000}) only [U_root_Read, reduceIte, reduceCtorEq, Nat.reduceEqDiff, Nat.reduceAdd, Int.reduceLT, Int.reduceLE, Int.reduceNeg, Int.reduceEq, Nat.reduceLT, Nat.reduceSub, Nat.reduceMul, Nat.reduceBEq, Nat.reduceLeDiff, Int.reduceBEq, Int.reduceBNe, Int.reduceToNat, ne_eq, implies_true, bA]
  · rw [take_hdr s (by omega)]
    have hsh := rec_shape (s := s)
    have hso := fun n => spaces_out (s := s) (n := n)
    have hgl := leN_lt (s.take 5)
    rw [show (s.take 5).length = 5 by simp; omega] at hgl
    have hge : genOf s = (leN (s.take 5) : Int) := by rw [genOf, gS_in (by decide) (by decide) (by omega)]; simp
    generalize leN ((s.drop 5).take 1) = n1 at hsh hso
    generalize leN (s.take 5) = G at hgl hge
    have i0 : ∀ ob fb, islV ob fb 1 (.slc (rowsN .u64 [G, n1])) (.int .i64 0) = some (.fptr [.int .u64 (G : Int)]) := fun _ _ => rfl
    have i1 : ∀ ob fb, islV ob fb 1 (.slc (rowsN .u64 [G, n1])) (.int .i64 1) = some (.fptr [.int .u64 (n1 : Int)]) := fun _ _ => rfl
    by_cases h8 : n1 ≤ 8
    · have d1 : decide ((8 : Int) < (n1 : Int)) = false := by simp; omega
      simp (config := {maxSteps := 4000000}) only [U_root_Read, i0, i1, d1, reduceIte, reduceCtorEq, Nat.reduceEqDiff, Nat.reduceAdd, Int.reduceLT, Int.reduceLE, Int.reduceNeg, Int.reduceEq, Nat.reduceLT, Nat.reduceSub, Nat.reduceMul, Nat.reduceBEq, Nat.reduceLeDiff, Int.reduceBEq, Int.reduceBNe, Int.reduceToNat, ne_eq, implies_true, bA]
      refine loopF (fun i : Nat => ⟨ofL [(0, .str s), (5, .slc (rowsN .u64 [G, n1])), (6, .str (s.drop (6 + 9 * i))), (7, .osl 0 0 i), (30, .int .u64 n1), (31, .int .u64 i)], [.list 4 ((outS s i).map rowSp)]⟩) (fun i => i ≤ n1 ∧ 6 + 9 * i ≤ s.length) (fun i => n1 - i) 0 ?_ ⟨Nat.zero_le _, by omega⟩ ?_
      · simp (config := {maxSteps := 4000000}) only [U_root_Read, reduceIte, reduceCtorEq, Nat.reduceEqDiff, Nat.reduceAdd, Int.reduceLT, Int.reduceLE, Int.reduceNeg, Int.reduceEq, Nat.reduceLT, Nat.reduceSub, Nat.reduceMul, Nat.reduceBEq, Nat.reduceLeDiff, Int.reduceBEq, Int.reduceBNe, Int.reduceToNat, ne_eq, implies_true, bA]
        all_goals rfl
      · intro i ⟨hi, hil⟩
        by_cases hlt : i < n1
        · have d : decide ((i : Int) < (n1 : Int)) = true := by simpa using hlt
          have e1 : IntKind.u64.wrap ((i : Int) + 1) = ((i + 1 : Nat) : Int) := by rw [wrap64]; omega
          simp (config := {maxSteps := 4000000}) only [U_root_Read, d, reduceIte, reduceCtorEq, Nat.reduceEqDiff, Nat.reduceAdd, Int.reduceLT, Int.reduceLE, Int.reduceNeg, Int.reduceEq, Nat.reduceLT, Nat.reduceSub, Nat.reduceMul, Nat.reduceBEq, Nat.reduceLeDiff, Int.reduceBEq, Int.reduceBNe, Int.reduceToNat, ne_eq, implies_true, bA]
          refine callI each_spec ?_
          simp (config := {maxSteps := 4000000}) only [U_root_Read, reduceIte, reduceCtorEq, Nat.reduceEqDiff, Nat.reduceAdd, Int.reduceLT, Int.reduceLE, Int.reduceNeg, Int.reduceEq, Nat.reduceLT, Nat.reduceSub, Nat.reduceMul, Nat.reduceBEq, Nat.reduceLeDiff, Int.reduceBEq, Int.reduceBNe, Int.reduceToNat, ne_eq, implies_true, bA]
          refine callI (take_spec (s.drop (6 + 9 * i)) [2, 4, 2, 1] (by simp; omega) (by simp)) ?_
          by_cases h9 : s.length < 6 + 9 * i + 9
          · rw [take_ent_no _ (by simp; omega), read_no (fun h => by have := (hsh h).2.2.1; omega)]
            simp (config := {maxSteps := 4000000}) only [U_root_Read, reduceIte, reduceCtorEq, Nat.reduceEqDiff, Nat.reduceAdd, Int.reduceLT, Int.reduceLE, Int.reduceNeg, Int.reduceEq, Nat.reduceLT, Nat.reduceSub, Nat.reduceMul, Nat.reduceBEq, Nat.reduceLeDiff, Int.reduceBEq, Int.reduceBNe, Int.reduceToNat, ne_eq, implies_true, bA]
          · rw [take_ent _ (by simp; omega)]
            simp only [List.drop_drop]
            have v1 : gS s (6 + 9 * i) 2 = (leN ((s.drop (6 + 9 * i)).take 2) : Int) := gS_in (by decide) (by decide) (by omega)
            have v2 : gS s (6 + 9 * i + 2) 4 = (leN ((s.drop (6 + 9 * i + 2)).take 4) : Int) := gS_in (by decide) (by decide) (by omega)
            have v3 : gS s (6 + 9 * i + 6) 2 = (leN ((s.drop (6 + 9 * i + 6)).take 2) : Int) := gS_in (by decide) (by decide) (by omega)
            have v4 : gS s (6 + 9 * i + 8) 1 = (leN ((s.drop (6 + 9 * i + 8)).take 1) : Int) := gS_in (by decide) (by decide) (by omega)
            have t1 := leN_lt ((s.drop (6 + 9 * i)).take 2)
            have t2 := leN_lt ((s.drop (6 + 9 * i + 2)).take 4)
            have t3 := leN_lt ((s.drop (6 + 9 * i + 6)).take 2)
            have t4 := leN_lt ((s.drop (6 + 9 * i + 8)).take 1)
            rw [show ((s.drop (6 + 9 * i)).take 2).length = 2 by simp; omega] at t1
            rw [show ((s.drop (6 + 9 * i + 2)).take 4).length = 4 by simp; omega] at t2
            rw [show ((s.drop (6 + 9 * i + 6)).take 2).length = 2 by simp; omega] at t3
            rw [show ((s.drop (6 + 9 * i + 8)).take 1).length = 1 by simp; omega] at t4
            have hsucc := outS_succ s i
            have hsp : spAt s (6 + 9 * i) = ⟨gS s (6 + 9 * i) 2, gS s (6 + 9 * i + 2) 4, if gS s (6 + 9 * i + 8) 1 = 0 then -1 else gS s (6 + 9 * i + 6) 2, gS s (6 + 9 * i + 8) 1⟩ := rfl
            have hol := outS_len s i
            rw [v1, v2, v3, v4] at hsp
            generalize leN ((s.drop (6 + 9 * i)).take 2) = m1 at *
            generalize leN ((s.drop (6 + 9 * i + 2)).take 4) = m2 at *
            generalize leN ((s.drop (6 + 9 * i + 6)).take 2) = m3 at *
            generalize leN ((s.drop (6 + 9 * i + 8)).take 1) = m4 at *
            have htop : (if (m4 : Int) = 0 then (-1 : Int) else (m3 : Int)) = topS m3 m4 := by unfold topS; split <;> split <;> omega
            rw [htop] at hsp
            have j0 : ∀ ob fb, islV ob fb 1 (.slc (rowsN .u64 [m1, m2, m3, m4])) (.int .i64 0) = some (.fptr [.int .u64 (m1 : Int)]) := fun _ _ => rfl
            have j1 : ∀ ob fb, islV ob fb 1 (.slc (rowsN .u64 [m1, m2, m3, m4])) (.int .i64 1) = some (.fptr [.int .u64 (m2 : Int)]) := fun _ _ => rfl
            have j2 : ∀ ob fb, islV ob fb 1 (.slc (rowsN .u64 [m1, m2, m3, m4])) (.int .i64 2) = some (.fptr [.int .u64 (m3 : Int)]) := fun _ _ => rfl
            have j3 : ∀ ob fb, islV ob fb 1 (.slc (rowsN .u64 [m1, m2, m3, m4])) (.int .i64 3) = some (.fptr [.int .u64 (m4 : Int)]) := fun _ _ => rfl
            have c1 : IntKind.i64.wrap (m1 : Int) = (m1 : Int) := wrapI (by omega) (by omega)
            have c2 : IntKind.i64.wrap (m2 : Int) = (m2 : Int) := wrapI (by omega) (by omega)
            have c4 : IntKind.i64.wrap (m4 : Int) = (m4 : Int) := wrapI (by omega) (by omega)
            have ha : ∀ ob nw, appO (AObj.list 4 ((outS s i).map rowSp) :: ob) [] nw 4 (.osl 0 0 i) (some [[.int .i64 (m1 : Int), .int .i64 (m2 : Int), .int .i64 (topS m3 m4), .int .i64 (m4 : Int)]]) = some (.osl 0 0 (i + 1), AObj.list 4 ((outS s (i + 1)).map rowSp) :: ob) := fun ob nw => by
              have := app_map (ob := AObj.list 4 ((outS s i).map rowSp) :: ob) (fb := []) (nw := nw) (o := 0) (n := i) (e := 4) (g := rowSp) (l := outS s i) (m := [spAt s (6 + 9 * i)]) rfl rfl hol.symm (by omega) (by simp) rowSp_len
              rw [hsucc]; rw [hsp] at this ⊢
              exact this
            simp (config := {maxSteps := 4000000}) only [U_root_Read, j0, j1, j2, j3, c1, c2, c4, reduceIte, reduceCtorEq, Nat.reduceEqDiff, Nat.reduceAdd, Int.reduceLT, Int.reduceLE, Int.reduceNeg, Int.reduceEq, Nat.reduceLT, Nat.reduceSub, Nat.reduceMul, Nat.reduceBEq, Nat.reduceLeDiff, Int.reduceBEq, Int.reduceBNe, Int.reduceToNat, ne_eq, implies_true, bA]
            refine callI (top_spec m3 m4 (by omega)) ?_
            simp (config := {maxSteps := 4000000}) only [U_root_Read, j3, c4, ha, e1, reduceIte, reduceCtorEq, Nat.reduceEqDiff, Nat.reduceAdd, Int.reduceLT, Int.reduceLE, Int.reduceNeg, Int.reduceEq, Nat.reduceLT, Nat.reduceSub, Nat.reduceMul, Nat.reduceBEq, Nat.reduceLeDiff, Int.reduceBEq, Int.reduceBNe, Int.reduceToNat, ne_eq, implies_true, bA]
            refine ⟨i + 1, ?_, ⟨hlt, by omega⟩, by omega⟩
            rw [show 6 + 9 * (i + 1) = 6 + 9 * i + 9 by omega]
        · have d : decide ((i : Int) < (n1 : Int)) = false := by simpa using hlt
          have hin : i = n1 := by omega
          subst hin
          have c1 : IntKind.i64.wrap (G : Int) = (G : Int) := wrapI (by omega) (by omega)
          have hro : rowsO (some (AObj.list 4 ((outS s i).map rowSp))) 0 i = some ((outS s i).map rowSp) := rowsO_all (by simp [outS_len])
          simp (config := {maxSteps := 4000000}) only [U_root_Read, d, i0, c1, hro, reduceIte, reduceCtorEq, Nat.reduceEqDiff, Nat.reduceAdd, Int.reduceLT, Int.reduceLE, Int.reduceNeg, Int.reduceEq, Nat.reduceLT, Nat.reduceSub, Nat.reduceMul, Nat.reduceBEq, Nat.reduceLeDiff, Int.reduceBEq, Int.reduceBNe, Int.reduceToNat, ne_eq, implies_true, bA]
          refine callS (write_spec (G : Int) (outS s i) (by rw [outS_len]; omega)) rfl ?_
          cases hm : mayR (G : Int) (outS s i) with
          | false =>
            have hw : writeR (G : Int) (outS s i) = ([], 1) := by rw [writeR, if_neg (by rw [hm]; simp)]
            have hno : readR s = (0, [], 3) := read_no (fun h => by
              have := h.1
              rw [(hsh h).2.2.2, hge, hm] at this; cases this)
            rw [hw, hno]
            simp (config := {maxSteps := 4000000}) only [U_root_Read, reduceIte, reduceCtorEq, Nat.reduceEqDiff, Nat.reduceAdd, Int.reduceLT, Int.reduceLE, Int.reduceNeg, Int.reduceEq, Nat.reduceLT, Nat.reduceSub, Nat.reduceMul, Nat.reduceBEq, Nat.reduceLeDiff, Int.reduceBEq, Int.reduceBNe, Int.reduceToNat, ne_eq, implies_true, bA]
          | true =>
            have hw : writeR (G : Int) (outS s i) = (recS (G : Int) (outS s i), 0) := by rw [writeR, if_pos hm]
            rw [hw]
            by_cases hq : recS (G : Int) (outS s i) = s
            · have d3 : (recS (G : Int) (outS s i) == s) = true := by simpa using hq
              have hsl : s.length = 6 + 9 * i := by
                have := recS_len (G : Int) (outS s i)
                rw [hq, outS_len] at this; exact this
              have hso' := hso _ h8 hsl
              have hy : readR s = ((G : Int), outS s i, 0) := by
                rw [read_yes ⟨by rw [hge, hso']; exact hm, by rw [hge, hso']; exact hq⟩, hge, hso']
              rw [hy]
              have hsn : snap [AObj.list 4 ((outS s i).map rowSp)] [] (.osl 0 0 i) = some (.slc ((outS s i).map rowSp)) := by
                simp [snap, rowsOf, outS_len]
              simp (config := {maxSteps := 4000000}) only [U_root_Read, d3, i0, c1, hro, reduceIte, reduceCtorEq, Nat.reduceEqDiff, Nat.reduceAdd, Int.reduceLT, Int.reduceLE, Int.reduceNeg, Int.reduceEq, Nat.reduceLT, Nat.reduceSub, Nat.reduceMul, Nat.reduceBEq, Nat.reduceLeDiff, Int.reduceBEq, Int.reduceBNe, Int.reduceToNat, ne_eq, implies_true, bA]
            · have d3 : (recS (G : Int) (outS s i) == s) = false := by simpa using hq
              have hno : readR s = (0, [], 3) := read_no (fun h => by
                have h2 := h.2
                rw [(hsh h).2.2.2, hge] at h2; exact hq h2)
              rw [hno]
              simp (config := {maxSteps := 4000000}) only [U_root_Read, d3, reduceIte, reduceCtorEq, Nat.reduceEqDiff, Nat.reduceAdd, Int.reduceLT, Int.reduceLE, Int.reduceNeg, Int.reduceEq, Nat.reduceLT, Nat.reduceSub, Nat.reduceMul, Nat.reduceBEq, Nat.reduceLeDiff, Int.reduceBEq, Int.reduceBNe, Int.reduceToNat, ne_eq, implies_true, bA]
    · have d1 : decide ((8 : Int) < (n1 : Int)) = true := by simp; omega
      rw [read_no (fun h => by have := (hsh h).2.1; omega)]
      simp (config := {maxSteps := 4000000}) only [U_root_Read, i0, i1, d1, reduceIte, reduceCtorEq, Nat.reduceEqDiff, Nat.reduceAdd, Int.reduceLT, Int.reduceLE, Int.reduceNeg, Int.reduceEq, Nat.reduceLT, Nat.reduceSub, Nat.reduceMul, Nat.reduceBEq, Nat.reduceLeDiff, Int.reduceBEq, Int.reduceBNe, Int.reduceToNat, ne_eq, implies_true, bA]
end Go.Proofs.Ytklniadgdbjcpaa.Aw
