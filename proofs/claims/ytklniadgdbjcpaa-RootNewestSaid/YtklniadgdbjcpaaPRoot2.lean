/-
  What the functions of the package 'root' compute, and the document's: writing and reading.
-/
import Derived.Test.YtklniadgdbjcpaaPRoot
set_option linter.unusedSimpArgs false
set_option linter.unusedVariables false
namespace Go.Proofs.Ytklniadgdbjcpaa.Aw
open Go.RowKit

theorem binS_cat {a b : List UInt8} (h : a.length + b.length ≤ 9223372036854775807) : binS .add a b = some (.str (a ++ b)) := by rw [binS, if_pos h]
theorem wrapU_nat {n : Int} (h0 : 0 ≤ n) (h : n < 18446744073709551616) : IntKind.u64.wrap n = ((n.toNat : Nat) : Int) := by rw [wrap64]; omega
theorem head_spec : PCall Try.prog 21 [] (.slc (rowsZ .i64 [5, 1])) := by
  refine pcall_go Try.func21 comp_root_head ?_
  simp (config := {maxSteps := 4000000}) only [U_root_head, reduceIte, reduceCtorEq, Nat.reduceEqDiff, Nat.reduceAdd, Int.reduceLT, Int.reduceLE, Int.reduceNeg, Int.reduceEq, Nat.reduceLT, Nat.reduceSub, Nat.reduceMul, Nat.reduceBEq, Nat.reduceLeDiff, Int.reduceBEq, Int.reduceBNe, Int.reduceToNat, ne_eq, implies_true, bA]
  rfl
theorem each_spec : PCall Try.prog 22 [] (.slc (rowsZ .i64 [2, 4, 2, 1])) := by
  refine pcall_go Try.func22 comp_root_each ?_
  simp (config := {maxSteps := 4000000}) only [U_root_each, reduceIte, reduceCtorEq, Nat.reduceEqDiff, Nat.reduceAdd, Int.reduceLT, Int.reduceLE, Int.reduceNeg, Int.reduceEq, Nat.reduceLT, Nat.reduceSub, Nat.reduceMul, Nat.reduceBEq, Nat.reduceLeDiff, Int.reduceBEq, Int.reduceBNe, Int.reduceToNat, ne_eq, implies_true, bA]
  rfl
/-- The bytes up to a namespace. -/
def accS (g : Int) (l : List Sp) (i : Nat) : List UInt8 := hdrS g l.length ++ (l.take i).flatMap entS
theorem accS_0 (g : Int) (l : List Sp) : accS g l 0 = hdrS g l.length := by simp [accS]
theorem accS_all (g : Int) (l : List Sp) : accS g l l.length = recS g l := by simp [accS, recS]
theorem accS_succ (g : Int) (l : List Sp) (i : Nat) (h : i < l.length) : accS g l (i + 1) = accS g l i ++ entS l[i] := by rw [accS, flat_take l i h, accS, List.append_assoc]
theorem accS_len (g : Int) (l : List Sp) (i : Nat) : (accS g l i).length ≤ 6 + 9 * l.length := by
  rw [accS, List.length_append, hdrS_len]; have := flat_len_take l i; omega
theorem write_spec (g : Int) (l : List Sp) (hm : l.length ≤ 9223372036854775807) : PCall Try.prog 10 [.int .i64 g, .slc (l.map rowSp)] (.tup [.str (writeR g l).1, .int .i64 (writeR g l).2]) := by
  refine pcall_go Try.func10 comp_root_Write ?_
  simp (config := {maxSteps := 4000000}) only [U_root_Write, reduceIte, reduceCtorEq, Nat.reduceEqDiff, Nat.reduceAdd, Int.reduceLT, Int.reduceLE, Int.reduceNeg, Int.reduceEq, Nat.reduceLT, Nat.reduceSub, Nat.reduceMul, Nat.reduceBEq, Nat.reduceLeDiff, Int.reduceBEq, Int.reduceBNe, Int.reduceToNat, ne_eq, implies_true, bA]
  refine callI (may_spec g l hm) ?_
  cases h : mayR g l with
  | false =>
    have hw : writeR g l = ([], 1) := by rw [writeR, if_neg (by rw [h]; simp)]
    rw [hw]
    simp (config := {maxSteps := 4000000}) only [U_root_Write, reduceIte, reduceCtorEq, Nat.reduceEqDiff, Nat.reduceAdd, Int.reduceLT, Int.reduceLE, Int.reduceNeg, Int.reduceEq, Nat.reduceLT, Nat.reduceSub, Nat.reduceMul, Nat.reduceBEq, Nat.reduceLeDiff, Int.reduceBEq, Int.reduceBNe, Int.reduceToNat, ne_eq, implies_true, bA]
  | true =>
    have hw : writeR g l = (recS g l, 0) := by rw [writeR, if_pos h]
    rw [hw]
    obtain ⟨hg, hlen, hlk⟩ := mayR_iff.1 h
    have e1 : IntKind.u64.wrap g = ((g.toNat : Nat) : Int) := wrapU_nat (by omega) (by omega)
    have e2 : IntKind.u64.wrap (l.length : Int) = ((l.length : Nat) : Int) := wrapU (by omega) (by omega)
    simp (config := {maxSteps := 4000000}) only [U_root_Write, e1, e2, reduceIte, reduceCtorEq, Nat.reduceEqDiff, Nat.reduceAdd, Int.reduceLT, Int.reduceLE, Int.reduceNeg, Int.reduceEq, Nat.reduceLT, Nat.reduceSub, Nat.reduceMul, Nat.reduceBEq, Nat.reduceLeDiff, Int.reduceBEq, Int.reduceBNe, Int.reduceToNat, ne_eq, implies_true, bA]
    refine callI head_spec ?_
    simp (config := {maxSteps := 4000000}) only [U_root_Write, reduceIte, reduceCtorEq, Nat.reduceEqDiff, Nat.reduceAdd, Int.reduceLT, Int.reduceLE, Int.reduceNeg, Int.reduceEq, Nat.reduceLT, Nat.reduceSub, Nat.reduceMul, Nat.reduceBEq, Nat.reduceLeDiff, Int.reduceBEq, Int.reduceBNe, Int.reduceToNat, ne_eq, implies_true, bA]
    refine callI (row_spec [g.toNat, l.length] [5, 1] (by simp) (by simp) (by
      intro n hn
      simp only [List.mem_cons, List.not_mem_nil, or_false] at hn
      rcases hn with rfl | rfl <;> omega)) ?_
    rw [row_hdr g l.length hg hlen, ← accS_0 g l]
    simp (config := {maxSteps := 4000000}) only [U_root_Write, reduceIte, reduceCtorEq, Nat.reduceEqDiff, Nat.reduceAdd, Int.reduceLT, Int.reduceLE, Int.reduceNeg, Int.reduceEq, Nat.reduceLT, Nat.reduceSub, Nat.reduceMul, Nat.reduceBEq, Nat.reduceLeDiff, Int.reduceBEq, Int.reduceBNe, Int.reduceToNat, ne_eq, implies_true, bA]
    refine loopF (fun i : Nat => ⟨ofL [(6, .str (accS g l i)), (7, .int .i64 0), (26, .slc (l.map rowSp)), (27, .int .i64 l.length), (28, .int .i64 i)], []⟩) (fun i => i ≤ l.length) (fun i => l.length - i) 0 ?_ (Nat.zero_le _) ?_
    · simp (config := {maxSteps := 4000000}) only [U_root_Write, reduceIte, reduceCtorEq, Nat.reduceEqDiff, Nat.reduceAdd, Int.reduceLT, Int.reduceLE, Int.reduceNeg, Int.reduceEq, Nat.reduceLT, Nat.reduceSub, Nat.reduceMul, Nat.reduceBEq, Nat.reduceLeDiff, Int.reduceBEq, Int.reduceBNe, Int.reduceToNat, ne_eq, implies_true, bA]
      all_goals rfl
    · intro i hi
      by_cases hlt : i < l.length
      · have d : decide ((i : Int) < (l.length : Int)) = true := by simpa using hlt
        have e3 : IntKind.i64.wrap ((i : Int) + 1) = ((i + 1 : Nat) : Int) := by rw [wrapI (by omega) (by omega)]; omega
        have ho := (lkB_at.1 hlk).1 i hlt
        obtain ⟨⟨a1, a2⟩, ⟨b1, b2⟩, ⟨c1, c2⟩, dd⟩ := spaceB_iff.1 ho
        have u1 : IntKind.u64.wrap l[i].id = ((l[i].id.toNat : Nat) : Int) := wrapU_nat (by omega) (by omega)
        have u2 : IntKind.u64.wrap l[i].sz = ((l[i].sz.toNat : Nat) : Int) := wrapU_nat (by omega) (by omega)
        have u3 : IntKind.u64.wrap (max l[i].tp 0) = ((l[i].tp.toNat : Nat) : Int) := by rw [wrapU_nat (by omega) (by omega)]; omega
        have u4 : IntKind.u64.wrap l[i].hi = ((l[i].hi.toNat : Nat) : Int) := wrapU_nat (by omega) (by omega)
        have hal := accS_len g l i
        have hf : binS .add (accS g l i) (entS l[i]) = some (.str (accS g l i ++ entS l[i])) := binS_cat (by rw [entS_len]; omega)
        simp (config := {maxSteps := 4000000}) only [U_root_Write, d, islV_map (g := rowSp) hlt (rowSp_len _), rowSp, u1, u2, u3, u4, reduceIte, reduceCtorEq, Nat.reduceEqDiff, Nat.reduceAdd, Int.reduceLT, Int.reduceLE, Int.reduceNeg, Int.reduceEq, Nat.reduceLT, Nat.reduceSub, Nat.reduceMul, Nat.reduceBEq, Nat.reduceLeDiff, Int.reduceBEq, Int.reduceBNe, Int.reduceToNat, ne_eq, implies_true, bA]
        refine callI each_spec ?_
        simp (config := {maxSteps := 4000000}) only [U_root_Write, reduceIte, reduceCtorEq, Nat.reduceEqDiff, Nat.reduceAdd, Int.reduceLT, Int.reduceLE, Int.reduceNeg, Int.reduceEq, Nat.reduceLT, Nat.reduceSub, Nat.reduceMul, Nat.reduceBEq, Nat.reduceLeDiff, Int.reduceBEq, Int.reduceBNe, Int.reduceToNat, ne_eq, implies_true, bA]
        refine callI (row_spec [l[i].id.toNat, l[i].sz.toNat, l[i].tp.toNat, l[i].hi.toNat] [2, 4, 2, 1] (by simp) (by simp) (by
          intro n hn
          simp only [List.mem_cons, List.not_mem_nil, or_false] at hn
          rcases hn with rfl | rfl | rfl | rfl <;> omega)) ?_
        rw [row_ent l[i] ho]
        simp (config := {maxSteps := 4000000}) only [U_root_Write, hf, e3, reduceIte, reduceCtorEq, Nat.reduceEqDiff, Nat.reduceAdd, Int.reduceLT, Int.reduceLE, Int.reduceNeg, Int.reduceEq, Nat.reduceLT, Nat.reduceSub, Nat.reduceMul, Nat.reduceBEq, Nat.reduceLeDiff, Int.reduceBEq, Int.reduceBNe, Int.reduceToNat, ne_eq, implies_true, bA]
        refine ⟨i + 1, ?_, hlt, by omega⟩
        rw [accS_succ g l i hlt]
      · have d : decide ((i : Int) < (l.length : Int)) = false := by simpa using hlt
        have : i = l.length := by omega
        subst this
        simp (config := {maxSteps := 4000000}) only [U_root_Write, d, accS_all, reduceIte, reduceCtorEq, Nat.reduceEqDiff, Nat.reduceAdd, Int.reduceLT, Int.reduceLE, Int.reduceNeg, Int.reduceEq, Nat.reduceLT, Nat.reduceSub, Nat.reduceMul, Nat.reduceBEq, Nat.reduceLeDiff, Int.reduceBEq, Int.reduceBNe, Int.reduceToNat, ne_eq, implies_true, bA]
theorem rput_n (n : Int) (w : Nat) (h0 : 0 ≤ n) (h : n.toNat < 256 ^ w) (h1 : 1 ≤ w) (h8 : w ≤ 8) : PCall Try.prog 24 [.int .i64 n, .int .i64 w] (.str (leB w n.toNat)) := by
  refine pcall_go Try.func24 comp_ref12_put ?_
  have hp : 256 ^ w ≤ 256 ^ 8 := Nat.pow_le_pow_right (by decide) h8
  have e1 : IntKind.u64.wrap n = ((n.toNat : Nat) : Int) := wrapU_nat h0 (by omega)
  simp (config := {maxSteps := 4000000}) only [U_ref12_put, e1, reduceIte, reduceCtorEq, Nat.reduceEqDiff, Nat.reduceAdd, Int.reduceLT, Int.reduceLE, Int.reduceNeg, Int.reduceEq, Nat.reduceLT, Nat.reduceSub, Nat.reduceMul, Nat.reduceBEq, Nat.reduceLeDiff, Int.reduceBEq, Int.reduceBNe, Int.reduceToNat, ne_eq, implies_true, bA]
  refine callI (rput_spec n.toNat w (by omega)) ?_
  have hw : wid (w : Int) = true := wid_iff.2 ⟨by omega, by omega⟩
  have hr : putS n.toNat w = (leB w n.toNat, 0) := by rw [putS, hw, if_neg (by simp), Int.toNat_natCast, if_pos h]
  rw [hr]
  simp (config := {maxSteps := 4000000}) only [U_ref12_put, reduceIte, reduceCtorEq, Nat.reduceEqDiff, Nat.reduceAdd, Int.reduceLT, Int.reduceLE, Int.reduceNeg, Int.reduceEq, Nat.reduceLT, Nat.reduceSub, Nat.reduceMul, Nat.reduceBEq, Nat.reduceLeDiff, Int.reduceBEq, Int.reduceBNe, Int.reduceToNat, ne_eq, implies_true, bA]
theorem rget_n (s : List UInt8) (a w : Nat) (hs : s.length ≤ 1000000) (ha : a ≤ 1000000) (h1 : 1 ≤ w) (h6 : w ≤ 6) : PCall Try.prog 29 [.str s, .int .i64 a, .int .i64 w] (.int .i64 (gS s a w)) := by
  refine pcall_go Try.func29 comp_ref12_get ?_
  simp (config := {maxSteps := 4000000}) only [U_ref12_get, reduceIte, reduceCtorEq, Nat.reduceEqDiff, Nat.reduceAdd, Int.reduceLT, Int.reduceLE, Int.reduceNeg, Int.reduceEq, Nat.reduceLT, Nat.reduceSub, Nat.reduceMul, Nat.reduceBEq, Nat.reduceLeDiff, Int.reduceBEq, Int.reduceBNe, Int.reduceToNat, ne_eq, implies_true, bA]
  refine callI (rget_spec s a w (by omega) (by omega) (by omega)) ?_
  have hlt : (getS s a w).1 < 256 ^ 6 := by
    unfold getS
    split
    · simp
    · split
      · simp
      · have hl := leN_lt ((s.drop (a : Int).toNat).take (w : Int).toNat)
        have : ((s.drop (a : Int).toNat).take (w : Int).toNat).length ≤ w := by simp; omega
        have hp : (256 : Nat) ^ ((s.drop (a : Int).toNat).take (w : Int).toNat).length ≤ 256 ^ 6 := Nat.pow_le_pow_right (by decide) (by omega)
        exact Nat.lt_of_lt_of_le hl hp
  have e1 : IntKind.i64.wrap ((getS s a w).1 : Int) = gS s a w := by rw [wrapI (by omega) (by omega)]; rfl
  simp (config := {maxSteps := 4000000}) only [U_ref12_get, e1, reduceIte, reduceCtorEq, Nat.reduceEqDiff, Nat.reduceAdd, Int.reduceLT, Int.reduceLE, Int.reduceNeg, Int.reduceEq, Nat.reduceLT, Nat.reduceSub, Nat.reduceMul, Nat.reduceBEq, Nat.reduceLeDiff, Int.reduceBEq, Int.reduceBNe, Int.reduceToNat, ne_eq, implies_true, bA]
theorem rwrite_spec (g : Int) (l : List Sp) (hm : l.length ≤ 9223372036854775807) : PCall Try.prog 11 [.int .i64 g, .slc (l.map rowSp)] (.tup [.str (writeR g l).1, .int .i64 (writeR g l).2]) := by
  refine pcall_go Try.func11 comp_ref12_Write ?_
  simp (config := {maxSteps := 4000000}) only [U_ref12_Write, reduceIte, reduceCtorEq, Nat.reduceEqDiff, Nat.reduceAdd, Int.reduceLT, Int.reduceLE, Int.reduceNeg, Int.reduceEq, Nat.reduceLT, Nat.reduceSub, Nat.reduceMul, Nat.reduceBEq, Nat.reduceLeDiff, Int.reduceBEq, Int.reduceBNe, Int.reduceToNat, ne_eq, implies_true, bA]
  refine callI (rmay_spec g l hm) ?_
  cases h : mayR g l with
  | false =>
    have hw : writeR g l = ([], 1) := by rw [writeR, if_neg (by rw [h]; simp)]
    rw [hw]
    simp (config := {maxSteps := 4000000}) only [U_ref12_Write, reduceIte, reduceCtorEq, Nat.reduceEqDiff, Nat.reduceAdd, Int.reduceLT, Int.reduceLE, Int.reduceNeg, Int.reduceEq, Nat.reduceLT, Nat.reduceSub, Nat.reduceMul, Nat.reduceBEq, Nat.reduceLeDiff, Int.reduceBEq, Int.reduceBNe, Int.reduceToNat, ne_eq, implies_true, bA]
  | true =>
    have hw : writeR g l = (recS g l, 0) := by rw [writeR, if_pos h]
    rw [hw]
    obtain ⟨hg, hlen, hlk⟩ := mayR_iff.1 h
    simp (config := {maxSteps := 4000000}) only [U_ref12_Write, reduceIte, reduceCtorEq, Nat.reduceEqDiff, Nat.reduceAdd, Int.reduceLT, Int.reduceLE, Int.reduceNeg, Int.reduceEq, Nat.reduceLT, Nat.reduceSub, Nat.reduceMul, Nat.reduceBEq, Nat.reduceLeDiff, Int.reduceBEq, Int.reduceBNe, Int.reduceToNat, ne_eq, implies_true, bA]
    refine callI (rput_n g 5 (by omega) (by show g.toNat < 1099511627776; omega) (by omega) (by omega)) ?_
    simp (config := {maxSteps := 4000000}) only [U_ref12_Write, reduceIte, reduceCtorEq, Nat.reduceEqDiff, Nat.reduceAdd, Int.reduceLT, Int.reduceLE, Int.reduceNeg, Int.reduceEq, Nat.reduceLT, Nat.reduceSub, Nat.reduceMul, Nat.reduceBEq, Nat.reduceLeDiff, Int.reduceBEq, Int.reduceBNe, Int.reduceToNat, ne_eq, implies_true, bA]
    refine callI (rput_n (l.length : Int) 1 (by omega) (by show l.length < 256; omega) (by omega) (by omega)) ?_
    have l1 : (leB 5 g.toNat).length = 5 := leB_len _ _
    have l2 : (leB 1 l.length).length = 1 := leB_len _ _
    have f0 : binS .add (leB 5 g.toNat) (leB 1 l.length) = some (.str (accS g l 0)) := by rw [accS_0, hdrS]; exact binS_cat (by omega)
    rw [Int.toNat_natCast]
    simp (config := {maxSteps := 4000000}) only [U_ref12_Write, f0, reduceIte, reduceCtorEq, Nat.reduceEqDiff, Nat.reduceAdd, Int.reduceLT, Int.reduceLE, Int.reduceNeg, Int.reduceEq, Nat.reduceLT, Nat.reduceSub, Nat.reduceMul, Nat.reduceBEq, Nat.reduceLeDiff, Int.reduceBEq, Int.reduceBNe, Int.reduceToNat, ne_eq, implies_true, bA]
    refine loopF (fun i : Nat => ⟨ofL [(1, .slc (l.map rowSp)), (6, .str (accS g l i)), (7, .int .i64 i)], []⟩) (fun i => i ≤ l.length) (fun i => l.length - i) 0 ?_ (Nat.zero_le _) ?_
    · simp (config := {maxSteps := 4000000}) only [U_ref12_Write, reduceIte, reduceCtorEq, Nat.reduceEqDiff, Nat.reduceAdd, Int.reduceLT, Int.reduceLE, Int.reduceNeg, Int.reduceEq, Nat.reduceLT, Nat.reduceSub, Nat.reduceMul, Nat.reduceBEq, Nat.reduceLeDiff, Int.reduceBEq, Int.reduceBNe, Int.reduceToNat, ne_eq, implies_true, bA]
      all_goals rfl
    · intro i hi
      by_cases hlt : i < l.length
      · have d : decide ((i : Int) < (l.length : Int)) = true := by simpa using hlt
        have e3 : IntKind.i64.wrap ((i : Int) + 1) = ((i + 1 : Nat) : Int) := by rw [wrapI (by omega) (by omega)]; omega
        have ho := (lkB_at.1 hlk).1 i hlt
        obtain ⟨⟨a1, a2⟩, ⟨b1, b2⟩, ⟨c1, c2⟩, dd⟩ := spaceB_iff.1 ho
        have hal := accS_len g l i
        have hsucc := accS_succ g l i hlt
        have y1 : (leB 2 l[i].id.toNat).length = 2 := leB_len _ _
        have y2 : (leB 4 l[i].sz.toNat).length = 4 := leB_len _ _
        have y3 : (leB 2 l[i].tp.toNat).length = 2 := leB_len _ _
        have y4 : (leB 1 l[i].hi.toNat).length = 1 := leB_len _ _
        have f1 : binS .add (accS g l i) (leB 2 l[i].id.toNat) = some (.str (accS g l i ++ leB 2 l[i].id.toNat)) := binS_cat (by omega)
        have f2 : binS .add (accS g l i ++ leB 2 l[i].id.toNat) (leB 4 l[i].sz.toNat) = some (.str (accS g l i ++ (leB 2 l[i].id.toNat ++ leB 4 l[i].sz.toNat))) := by rw [binS_cat (by simp [y1, y2]; omega), List.append_assoc]
        have f3 : binS .add (accS g l i ++ (leB 2 l[i].id.toNat ++ leB 4 l[i].sz.toNat)) (leB 2 l[i].tp.toNat) = some (.str (accS g l i ++ (leB 2 l[i].id.toNat ++ (leB 4 l[i].sz.toNat ++ leB 2 l[i].tp.toNat)))) := by rw [binS_cat (by simp [y1, y2, y3]; omega)]; simp [List.append_assoc]
        have f4 : binS .add (accS g l i ++ (leB 2 l[i].id.toNat ++ (leB 4 l[i].sz.toNat ++ leB 2 l[i].tp.toNat))) (leB 1 l[i].hi.toNat) = some (.str (accS g l (i + 1))) := by
          rw [binS_cat (by simp [y1, y2, y3, y4]; omega), hsucc]; simp [entS, List.append_assoc]
        have fin : ∀ t : Int, t.toNat = l[i].tp.toNat → 0 ≤ t → t ≤ 65535 → PCall Try.prog 24 [.int .i64 t, .int .i64 (2 : Nat)] (.str (leB 2 l[i].tp.toNat)) := fun t h1 h2 h3 => by
          rw [← h1]; exact rput_n t 2 h2 (by show t.toNat < 65536; omega) (by omega) (by omega)
        by_cases ht : l[i].tp < 0
        · have d1 := decide_eq_true ht
          simp (config := {maxSteps := 4000000}) only [U_ref12_Write, d, islV_map (g := rowSp) hlt (rowSp_len _), rowSp, d1, reduceIte, reduceCtorEq, Nat.reduceEqDiff, Nat.reduceAdd, Int.reduceLT, Int.reduceLE, Int.reduceNeg, Int.reduceEq, Nat.reduceLT, Nat.reduceSub, Nat.reduceMul, Nat.reduceBEq, Nat.reduceLeDiff, Int.reduceBEq, Int.reduceBNe, Int.reduceToNat, ne_eq, implies_true, bA]
          refine callI (rput_n l[i].id 2 (by omega) (by show l[i].id.toNat < 65536; omega) (by omega) (by omega)) ?_
          simp (config := {maxSteps := 4000000}) only [U_ref12_Write, islV_map (g := rowSp) hlt (rowSp_len _), rowSp, f1, reduceIte, reduceCtorEq, Nat.reduceEqDiff, Nat.reduceAdd, Int.reduceLT, Int.reduceLE, Int.reduceNeg, Int.reduceEq, Nat.reduceLT, Nat.reduceSub, Nat.reduceMul, Nat.reduceBEq, Nat.reduceLeDiff, Int.reduceBEq, Int.reduceBNe, Int.reduceToNat, ne_eq, implies_true, bA]
          refine callI (rput_n l[i].sz 4 (by omega) (by show l[i].sz.toNat < 4294967296; omega) (by omega) (by omega)) ?_
          simp (config := {maxSteps := 4000000}) only [U_ref12_Write, islV_map (g := rowSp) hlt (rowSp_len _), rowSp, f2, reduceIte, reduceCtorEq, Nat.reduceEqDiff, Nat.reduceAdd, Int.reduceLT, Int.reduceLE, Int.reduceNeg, Int.reduceEq, Nat.reduceLT, Nat.reduceSub, Nat.reduceMul, Nat.reduceBEq, Nat.reduceLeDiff, Int.reduceBEq, Int.reduceBNe, Int.reduceToNat, ne_eq, implies_true, bA]
          refine callI (fin 0 (by omega) (by omega) (by omega)) ?_
          simp (config := {maxSteps := 4000000}) only [U_ref12_Write, islV_map (g := rowSp) hlt (rowSp_len _), rowSp, f3, reduceIte, reduceCtorEq, Nat.reduceEqDiff, Nat.reduceAdd, Int.reduceLT, Int.reduceLE, Int.reduceNeg, Int.reduceEq, Nat.reduceLT, Nat.reduceSub, Nat.reduceMul, Nat.reduceBEq, Nat.reduceLeDiff, Int.reduceBEq, Int.reduceBNe, Int.reduceToNat, ne_eq, implies_true, bA]
          refine callI (rput_n l[i].hi 1 (by omega) (by show l[i].hi.toNat < 256; omega) (by omega) (by omega)) ?_
          simp (config := {maxSteps := 4000000}) only [U_ref12_Write, f4, e3, reduceIte, reduceCtorEq, Nat.reduceEqDiff, Nat.reduceAdd, Int.reduceLT, Int.reduceLE, Int.reduceNeg, Int.reduceEq, Nat.reduceLT, Nat.reduceSub, Nat.reduceMul, Nat.reduceBEq, Nat.reduceLeDiff, Int.reduceBEq, Int.reduceBNe, Int.reduceToNat, ne_eq, implies_true, bA]
          exact ⟨i + 1, rfl, hlt, by omega⟩
        · have d1 := decide_eq_false ht
          simp (config := {maxSteps := 4000000}) only [U_ref12_Write, d, islV_map (g := rowSp) hlt (rowSp_len _), rowSp, d1, reduceIte, reduceCtorEq, Nat.reduceEqDiff, Nat.reduceAdd, Int.reduceLT, Int.reduceLE, Int.reduceNeg, Int.reduceEq, Nat.reduceLT, Nat.reduceSub, Nat.reduceMul, Nat.reduceBEq, Nat.reduceLeDiff, Int.reduceBEq, Int.reduceBNe, Int.reduceToNat, ne_eq, implies_true, bA]
          refine callI (rput_n l[i].id 2 (by omega) (by show l[i].id.toNat < 65536; omega) (by omega) (by omega)) ?_
          simp (config := {maxSteps := 4000000}) only [U_ref12_Write, islV_map (g := rowSp) hlt (rowSp_len _), rowSp, f1, reduceIte, reduceCtorEq, Nat.reduceEqDiff, Nat.reduceAdd, Int.reduceLT, Int.reduceLE, Int.reduceNeg, Int.reduceEq, Nat.reduceLT, Nat.reduceSub, Nat.reduceMul, Nat.reduceBEq, Nat.reduceLeDiff, Int.reduceBEq, Int.reduceBNe, Int.reduceToNat, ne_eq, implies_true, bA]
          refine callI (rput_n l[i].sz 4 (by omega) (by show l[i].sz.toNat < 4294967296; omega) (by omega) (by omega)) ?_
          simp (config := {maxSteps := 4000000}) only [U_ref12_Write, islV_map (g := rowSp) hlt (rowSp_len _), rowSp, f2, reduceIte, reduceCtorEq, Nat.reduceEqDiff, Nat.reduceAdd, Int.reduceLT, Int.reduceLE, Int.reduceNeg, Int.reduceEq, Nat.reduceLT, Nat.reduceSub, Nat.reduceMul, Nat.reduceBEq, Nat.reduceLeDiff, Int.reduceBEq, Int.reduceBNe, Int.reduceToNat, ne_eq, implies_true, bA]
          refine callI (fin l[i].tp rfl (by omega) (by omega)) ?_
          simp (config := {maxSteps := 4000000}) only [U_ref12_Write, islV_map (g := rowSp) hlt (rowSp_len _), rowSp, f3, reduceIte, reduceCtorEq, Nat.reduceEqDiff, Nat.reduceAdd, Int.reduceLT, Int.reduceLE, Int.reduceNeg, Int.reduceEq, Nat.reduceLT, Nat.reduceSub, Nat.reduceMul, Nat.reduceBEq, Nat.reduceLeDiff, Int.reduceBEq, Int.reduceBNe, Int.reduceToNat, ne_eq, implies_true, bA]
          refine callI (rput_n l[i].hi 1 (by omega) (by show l[i].hi.toNat < 256; omega) (by omega) (by omega)) ?_
          simp (config := {maxSteps := 4000000}) only [U_ref12_Write, f4, e3, reduceIte, reduceCtorEq, Nat.reduceEqDiff, Nat.reduceAdd, Int.reduceLT, Int.reduceLE, Int.reduceNeg, Int.reduceEq, Nat.reduceLT, Nat.reduceSub, Nat.reduceMul, Nat.reduceBEq, Nat.reduceLeDiff, Int.reduceBEq, Int.reduceBNe, Int.reduceToNat, ne_eq, implies_true, bA]
          exact ⟨i + 1, rfl, hlt, by omega⟩
      · have d : decide ((i : Int) < (l.length : Int)) = false := by simpa using hlt
        have : i = l.length := by omega
        subst this
        simp (config := {maxSteps := 4000000}) only [U_ref12_Write, d, accS_all, reduceIte, reduceCtorEq, Nat.reduceEqDiff, Nat.reduceAdd, Int.reduceLT, Int.reduceLE, Int.reduceNeg, Int.reduceEq, Nat.reduceLT, Nat.reduceSub, Nat.reduceMul, Nat.reduceBEq, Nat.reduceLeDiff, Int.reduceBEq, Int.reduceBNe, Int.reduceToNat, ne_eq, implies_true, bA]
end Go.Proofs.Ytklniadgdbjcpaa.Aw
