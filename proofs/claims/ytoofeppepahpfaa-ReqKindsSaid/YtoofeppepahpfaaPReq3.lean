/-
  What the functions of the package 'req' compute, and the document's: writing answers, the document's writing, and reading requests.
-/
import Derived.Test.YtoofeppepahpfaaPReq2
set_option linter.unusedSimpArgs false
set_option linter.unusedVariables false
namespace Go.Proofs.Ytoofeppepahpfaa.Aw
open Go.RowKit

theorem row_ans (a : Rp) (h : mayA a = true) : rowS [a.er.toNat, a.sz.toNat, a.us.toNat, a.da.length, a.ids.length] [1, 4, 4, 2, 1] = (headA a, 0) := by
  obtain ⟨⟨a1, a2⟩, ⟨b1, b2⟩, ⟨c1, c2⟩, d, e, _⟩ := mayA_iff.1 h
  have bw : badW [1, 4, 4, 2, 1] = false := by decide
  have k1 : a.er.toNat < 256 ^ (1 : Int).toNat := by show a.er.toNat < 256; omega
  have k2 : a.sz.toNat < 256 ^ (4 : Int).toNat := by show a.sz.toNat < 4294967296; omega
  have k3 : a.us.toNat < 256 ^ (4 : Int).toNat := by show a.us.toNat < 4294967296; omega
  have k4 : a.da.length < 256 ^ (2 : Int).toNat := by show a.da.length < 65536; omega
  have k5 : a.ids.length < 256 ^ (1 : Int).toNat := by show a.ids.length < 256; omega
  rw [rowS_ok rfl bw, goR_one k1, goR_one k2, goR_one k3, goR_one k4, goR_one k5, goR_nil]
  simp [headA, List.append_assoc]
/-- The bytes up to a number. -/
def accA (a : Rp) (i : Nat) : List UInt8 := headA a ++ (a.da ++ (a.ids.take i).flatMap e2)
theorem accA_0 (a : Rp) : accA a 0 = headA a ++ a.da := by simp [accA]
theorem accA_all (a : Rp) : accA a a.ids.length = bodyA a := by simp [accA, bodyA]
theorem accA_succ (a : Rp) (i : Nat) (h : i < a.ids.length) : accA a (i + 1) = accA a i ++ e2 a.ids[i] := by
  rw [accA, flat2_take _ _ h, accA]; simp [List.append_assoc]
theorem accA_len (a : Rp) (i : Nat) (h : i ≤ a.ids.length) : (accA a i).length = 12 + a.da.length + 2 * i := by
  rw [accA, List.length_append, List.length_append, headA_len, flat2_len, List.length_take]; omega
theorem put2 {x : Int} (h : idB x = true) : putS x.toNat 2 = (e2 x, 0) := by
  have hx := idB_iff.1 h
  have hw : wid 2 = true := by decide
  rw [putS, hw, if_neg (by simp), if_pos (by show x.toNat < 65536; omega)]; rfl
theorem answer_spec (a : Rp) (hb : a.da.length ≤ 9223372036854775807) (hi8 : a.ids.length ≤ 1000) : PCall Try.prog 14 [pA a] (.tup [.str (writeA a).1, .int .i64 (writeA a).2]) := by
  refine pcall_go Try.func14 comp_req_Answer ?_
  have hno : mayA a = false → writeA a = ([], 1) := fun h => by rw [writeA, if_neg (by rw [h]; simp)]
  by_cases h1 : a.er < 0
  · have d1 := decide_eq_true h1
    rw [hno (by rw [← Bool.not_eq_true, mayA_iff]; omega)]
    simp (config := {maxSteps := 4000000}) only [U_req_Answer, rowA, d1, reduceIte, reduceCtorEq, Nat.reduceEqDiff, Nat.reduceAdd, Int.reduceLT, Int.reduceLE, Int.reduceNeg, Int.reduceEq, Nat.reduceLT, Nat.reduceSub, Nat.reduceMul, Nat.reduceBEq, Nat.reduceLeDiff, Int.reduceBEq, Int.reduceBNe, Int.reduceToNat, ne_eq, implies_true, bA]
  · have d1 := decide_eq_false h1
    by_cases h2 : 255 < a.er
    · have d2 := decide_eq_true h2
      rw [hno (by rw [← Bool.not_eq_true, mayA_iff]; omega)]
      simp (config := {maxSteps := 4000000}) only [U_req_Answer, rowA, d1, d2, reduceIte, reduceCtorEq, Nat.reduceEqDiff, Nat.reduceAdd, Int.reduceLT, Int.reduceLE, Int.reduceNeg, Int.reduceEq, Nat.reduceLT, Nat.reduceSub, Nat.reduceMul, Nat.reduceBEq, Nat.reduceLeDiff, Int.reduceBEq, Int.reduceBNe, Int.reduceToNat, ne_eq, implies_true, bA]
    · have d2 := decide_eq_false h2
      simp (config := {maxSteps := 4000000}) only [U_req_Answer, rowA, d1, d2, reduceIte, reduceCtorEq, Nat.reduceEqDiff, Nat.reduceAdd, Int.reduceLT, Int.reduceLE, Int.reduceNeg, Int.reduceEq, Nat.reduceLT, Nat.reduceSub, Nat.reduceMul, Nat.reduceBEq, Nat.reduceLeDiff, Int.reduceBEq, Int.reduceBNe, Int.reduceToNat, ne_eq, implies_true, bA]
      refine callI (small_spec [a.sz, a.us] (by simp)) ?_
      rw [all2]
      cases hi : (inS a.sz 4294967295 && inS a.us 4294967295) with
      | false =>
        rw [hno (by rw [← Bool.not_eq_true, mayA_iff]; rintro ⟨_, c, d, _⟩; rw [inS_iff.2 c, inS_iff.2 d] at hi; cases hi)]
        simp (config := {maxSteps := 4000000}) only [U_req_Answer, rowA, reduceIte, reduceCtorEq, Nat.reduceEqDiff, Nat.reduceAdd, Int.reduceLT, Int.reduceLE, Int.reduceNeg, Int.reduceEq, Nat.reduceLT, Nat.reduceSub, Nat.reduceMul, Nat.reduceBEq, Nat.reduceLeDiff, Int.reduceBEq, Int.reduceBNe, Int.reduceToNat, ne_eq, implies_true, bA]
      | true =>
        by_cases h3 : 512 < a.da.length
        · have d3 : decide ((512 : Int) < (a.da.length : Int)) = true := by simp; omega
          rw [hno (by rw [← Bool.not_eq_true, mayA_iff]; omega)]
          simp (config := {maxSteps := 4000000}) only [U_req_Answer, rowA, d3, reduceIte, reduceCtorEq, Nat.reduceEqDiff, Nat.reduceAdd, Int.reduceLT, Int.reduceLE, Int.reduceNeg, Int.reduceEq, Nat.reduceLT, Nat.reduceSub, Nat.reduceMul, Nat.reduceBEq, Nat.reduceLeDiff, Int.reduceBEq, Int.reduceBNe, Int.reduceToNat, ne_eq, implies_true, bA]
        · have d3 : decide ((512 : Int) < (a.da.length : Int)) = false := by simp; omega
          simp (config := {maxSteps := 4000000}) only [U_req_Answer, rowA, d3, reduceIte, reduceCtorEq, Nat.reduceEqDiff, Nat.reduceAdd, Int.reduceLT, Int.reduceLE, Int.reduceNeg, Int.reduceEq, Nat.reduceLT, Nat.reduceSub, Nat.reduceMul, Nat.reduceBEq, Nat.reduceLeDiff, Int.reduceBEq, Int.reduceBNe, Int.reduceToNat, ne_eq, implies_true, bA]
          refine callI (ids_spec a.ids hi8) ?_
          cases hid : idsB a.ids with
          | false =>
            rw [hno (by rw [mayA, hid]; simp)]
            simp (config := {maxSteps := 4000000}) only [U_req_Answer, rowA, reduceIte, reduceCtorEq, Nat.reduceEqDiff, Nat.reduceAdd, Int.reduceLT, Int.reduceLE, Int.reduceNeg, Int.reduceEq, Nat.reduceLT, Nat.reduceSub, Nat.reduceMul, Nat.reduceBEq, Nat.reduceLeDiff, Int.reduceBEq, Int.reduceBNe, Int.reduceToNat, ne_eq, implies_true, bA]
          | true =>
            simp only [Bool.and_eq_true] at hi
            have hm : mayA a = true := by
              simp only [mayA, Bool.and_eq_true, decide_eq_true_eq]
              exact ⟨inS_iff.2 (by omega), hi.1, hi.2, by omega, hid⟩
            obtain ⟨_, ⟨s1, s2⟩, ⟨u1, u2⟩, _, h8, hk⟩ := mayA_iff.1 hm
            simp (config := {maxSteps := 4000000}) only [U_req_Answer, rowA, reduceIte, reduceCtorEq, Nat.reduceEqDiff, Nat.reduceAdd, Int.reduceLT, Int.reduceLE, Int.reduceNeg, Int.reduceEq, Nat.reduceLT, Nat.reduceSub, Nat.reduceMul, Nat.reduceBEq, Nat.reduceLeDiff, Int.reduceBEq, Int.reduceBNe, Int.reduceToNat, ne_eq, implies_true, bA]
            refine callI (numbers_spec [a.er, a.sz, a.us, (a.da.length : Int), (a.ids.length : Int)] (by simp) (by
              intro x hx
              simp only [List.mem_cons, List.not_mem_nil, or_false] at hx
              rcases hx with rfl | rfl | rfl | rfl | rfl <;> omega)) ?_
            simp (config := {maxSteps := 4000000}) only [U_req_Answer, rowA, reduceIte, reduceCtorEq, Nat.reduceEqDiff, Nat.reduceAdd, Int.reduceLT, Int.reduceLE, Int.reduceNeg, Int.reduceEq, Nat.reduceLT, Nat.reduceSub, Nat.reduceMul, Nat.reduceBEq, Nat.reduceLeDiff, Int.reduceBEq, Int.reduceBNe, Int.reduceToNat, ne_eq, implies_true, bA]
            refine callI back_spec ?_
            simp (config := {maxSteps := 4000000}) only [U_req_Answer, rowA, reduceIte, reduceCtorEq, Nat.reduceEqDiff, Nat.reduceAdd, Int.reduceLT, Int.reduceLE, Int.reduceNeg, Int.reduceEq, Nat.reduceLT, Nat.reduceSub, Nat.reduceMul, Nat.reduceBEq, Nat.reduceLeDiff, Int.reduceBEq, Int.reduceBNe, Int.reduceToNat, ne_eq, implies_true, bA]
            refine callI (row_spec [a.er.toNat, a.sz.toNat, a.us.toNat, a.da.length, a.ids.length] [1, 4, 4, 2, 1] (by simp) (by simp) (by
              intro x hx
              simp only [List.mem_cons, List.not_mem_nil, or_false] at hx
              rcases hx with rfl | rfl | rfl | rfl | rfl <;> omega)) ?_
            rw [row_ans a hm]
            have hl := headA_len a
            have f1 : binS .add (headA a) a.da = some (.str (accA a 0)) := by rw [binS, if_pos (by omega), accA_0]
            simp (config := {maxSteps := 4000000}) only [U_req_Answer, rowA, f1, reduceIte, reduceCtorEq, Nat.reduceEqDiff, Nat.reduceAdd, Int.reduceLT, Int.reduceLE, Int.reduceNeg, Int.reduceEq, Nat.reduceLT, Nat.reduceSub, Nat.reduceMul, Nat.reduceBEq, Nat.reduceLeDiff, Int.reduceBEq, Int.reduceBNe, Int.reduceToNat, ne_eq, implies_true, bA]
            refine loopF (fun i : Nat => ⟨ofL [(4, .str (accA a i)), (66, .slc (rowsZ .i64 a.ids)), (67, .int .i64 a.ids.length), (68, .int .i64 i)], [.box (rowA a)]⟩) (fun i => i ≤ a.ids.length) (fun i => a.ids.length - i) 0 ?_ (Nat.zero_le _) ?_
            · simp (config := {maxSteps := 4000000}) only [U_req_Answer, rowA, reduceIte, reduceCtorEq, Nat.reduceEqDiff, Nat.reduceAdd, Int.reduceLT, Int.reduceLE, Int.reduceNeg, Int.reduceEq, Nat.reduceLT, Nat.reduceSub, Nat.reduceMul, Nat.reduceBEq, Nat.reduceLeDiff, Int.reduceBEq, Int.reduceBNe, Int.reduceToNat, ne_eq, implies_true, bA]
              all_goals rfl
            · intro i hle
              by_cases h : i < a.ids.length
              · have d : decide ((i : Int) < (a.ids.length : Int)) = true := by simpa using h
                have e1 : IntKind.i64.wrap ((i : Int) + 1) = ((i + 1 : Nat) : Int) := by rw [wrapI (by omega) (by omega)]; omega
                have hx := lkB_one hk _ (List.getElem_mem h)
                have hx2 := idB_iff.1 hx
                have e3 : IntKind.u64.wrap a.ids[i] = ((a.ids[i].toNat : Nat) : Int) := wrapU_nat (by omega) (by omega)
                have hal := accA_len a i hle
                have f2 : binS .add (accA a i) (e2 a.ids[i]) = some (.str (accA a (i + 1))) := by rw [binS, if_pos (by rw [e2_len]; omega), accA_succ a i h]
                simp (config := {maxSteps := 4000000}) only [U_req_Answer, rowA, d, islV_Z h, e3, reduceIte, reduceCtorEq, Nat.reduceEqDiff, Nat.reduceAdd, Int.reduceLT, Int.reduceLE, Int.reduceNeg, Int.reduceEq, Nat.reduceLT, Nat.reduceSub, Nat.reduceMul, Nat.reduceBEq, Nat.reduceLeDiff, Int.reduceBEq, Int.reduceBNe, Int.reduceToNat, ne_eq, implies_true, bA]
                refine callI (put_spec a.ids[i].toNat 2 (by omega)) ?_
                rw [put2 hx]
                simp (config := {maxSteps := 4000000}) only [U_req_Answer, rowA, f2, e1, reduceIte, reduceCtorEq, Nat.reduceEqDiff, Nat.reduceAdd, Int.reduceLT, Int.reduceLE, Int.reduceNeg, Int.reduceEq, Nat.reduceLT, Nat.reduceSub, Nat.reduceMul, Nat.reduceBEq, Nat.reduceLeDiff, Int.reduceBEq, Int.reduceBNe, Int.reduceToNat, ne_eq, implies_true, bA]
                exact ⟨i + 1, rfl, h, by omega⟩
              · have d : decide ((i : Int) < (a.ids.length : Int)) = false := by simpa using h
                have : i = a.ids.length := by omega
                subst this
                rw [accA_all]
                have hwr : writeA a = (sealS (bodyA a), 0) := by rw [writeA, if_pos hm]
                rw [hwr]
                simp (config := {maxSteps := 4000000}) only [U_req_Answer, rowA, d, reduceIte, reduceCtorEq, Nat.reduceEqDiff, Nat.reduceAdd, Int.reduceLT, Int.reduceLE, Int.reduceNeg, Int.reduceEq, Nat.reduceLT, Nat.reduceSub, Nat.reduceMul, Nat.reduceBEq, Nat.reduceLeDiff, Int.reduceBEq, Int.reduceBNe, Int.reduceToNat, ne_eq, implies_true, bA]
                refine callI (seal_spec (bodyA a) (by rw [bodyA_len]; omega)) ?_
                simp (config := {maxSteps := 4000000}) only [U_req_Answer, reduceIte, reduceCtorEq, Nat.reduceEqDiff, Nat.reduceAdd, Int.reduceLT, Int.reduceLE, Int.reduceNeg, Int.reduceEq, Nat.reduceLT, Nat.reduceSub, Nat.reduceMul, Nat.reduceBEq, Nat.reduceLeDiff, Int.reduceBEq, Int.reduceBNe, Int.reduceToNat, ne_eq, implies_true, bA]
theorem rput_spec16 (n : Int) (w : Nat) (h0 : 0 ≤ n) (h : n.toNat < 256 ^ w) (h1 : 1 ≤ w) (h8 : w ≤ 8) : PCall Try.prog 30 [.int .i64 n, .int .i64 w] (.str (leB w n.toNat)) := by
  refine pcall_go Try.func30 comp_ref16_put ?_
  have hp : 256 ^ w ≤ 256 ^ 8 := Nat.pow_le_pow_right (by decide) h8
  have e1 : IntKind.u64.wrap n = ((n.toNat : Nat) : Int) := wrapU_nat h0 (by omega)
  simp (config := {maxSteps := 4000000}) only [U_ref16_put, e1, reduceIte, reduceCtorEq, Nat.reduceEqDiff, Nat.reduceAdd, Int.reduceLT, Int.reduceLE, Int.reduceNeg, Int.reduceEq, Nat.reduceLT, Nat.reduceSub, Nat.reduceMul, Nat.reduceBEq, Nat.reduceLeDiff, Int.reduceBEq, Int.reduceBNe, Int.reduceToNat, ne_eq, implies_true, bA]
  refine callI (rput_spec n.toNat w (by omega)) ?_
  have hw : wid (w : Int) = true := wid_iff.2 ⟨by omega, by omega⟩
  have hr : putS n.toNat w = (leB w n.toNat, 0) := by rw [putS, hw, if_neg (by simp), Int.toNat_natCast, if_pos h]
  rw [hr]
  simp (config := {maxSteps := 4000000}) only [U_ref16_put, reduceIte, reduceCtorEq, Nat.reduceEqDiff, Nat.reduceAdd, Int.reduceLT, Int.reduceLE, Int.reduceNeg, Int.reduceEq, Nat.reduceLT, Nat.reduceSub, Nat.reduceMul, Nat.reduceBEq, Nat.reduceLeDiff, Int.reduceBEq, Int.reduceBNe, Int.reduceToNat, ne_eq, implies_true, bA]
theorem rget_spec16 (s : List UInt8) (a w : Nat) (hs : s.length ≤ 1000000) (h1 : 1 ≤ w) (h6 : w ≤ 6) (ha : a ≤ 2000000) : PCall Try.prog 38 [.str s, .int .i64 a, .int .i64 w] (.int .i64 (gS s a w)) := by
  refine pcall_go Try.func38 comp_ref16_get ?_
  simp (config := {maxSteps := 4000000}) only [U_ref16_get, reduceIte, reduceCtorEq, Nat.reduceEqDiff, Nat.reduceAdd, Int.reduceLT, Int.reduceLE, Int.reduceNeg, Int.reduceEq, Nat.reduceLT, Nat.reduceSub, Nat.reduceMul, Nat.reduceBEq, Nat.reduceLeDiff, Int.reduceBEq, Int.reduceBNe, Int.reduceToNat, ne_eq, implies_true, bA]
  refine callI (rget_spec s a w (by omega) (by omega) (by omega)) ?_
  have hb : (getS s a w).1 < 256 ^ 6 := by
    have hp : (256 : Nat) ^ w ≤ 256 ^ 6 := Nat.pow_le_pow_right (by decide) h6
    unfold getS
    split
    · exact Nat.pow_pos (by decide)
    · split
      · exact Nat.pow_pos (by decide)
      · have hlt := leN_lt ((s.drop (a : Int).toNat).take (w : Int).toNat)
        have hl : ((s.drop (a : Int).toNat).take (w : Int).toNat).length ≤ w := by simp; omega
        exact Nat.lt_of_lt_of_le hlt (Nat.le_trans (Nat.pow_le_pow_right (by decide) hl) hp)
  have e1 : IntKind.i64.wrap ((getS s a w).1 : Int) = gS s a w := by
    rw [wrapI (by omega) (by have : (256 : Nat) ^ 6 = 281474976710656 := by decide
                             omega)]; rfl
  simp (config := {maxSteps := 4000000}) only [U_ref16_get, e1, reduceIte, reduceCtorEq, Nat.reduceEqDiff, Nat.reduceAdd, Int.reduceLT, Int.reduceLE, Int.reduceNeg, Int.reduceEq, Nat.reduceLT, Nat.reduceSub, Nat.reduceMul, Nat.reduceBEq, Nat.reduceLeDiff, Int.reduceBEq, Int.reduceBNe, Int.reduceToNat, ne_eq, implies_true, bA]
theorem rwrite_spec (q : Rq) (hb : q.da.length ≤ 9223372036854775807) : PCall Try.prog 13 [pR q] (.tup [.str (writeR q).1, .int .i64 (writeR q).2]) := by
  refine pcall_go Try.func13 comp_ref16_Write ?_
  simp (config := {maxSteps := 4000000}) only [U_ref16_Write, rowR, reduceIte, reduceCtorEq, Nat.reduceEqDiff, Nat.reduceAdd, Int.reduceLT, Int.reduceLE, Int.reduceNeg, Int.reduceEq, Nat.reduceLT, Nat.reduceSub, Nat.reduceMul, Nat.reduceBEq, Nat.reduceLeDiff, Int.reduceBEq, Int.reduceBNe, Int.reduceToNat, ne_eq, implies_true, bA]
  refine callI (rmay_spec q hb) ?_
  cases h : mayR q with
  | false =>
    have hwr : writeR q = ([], 1) := by rw [writeR, if_neg (by rw [h]; simp)]
    rw [hwr]
    simp (config := {maxSteps := 4000000}) only [U_ref16_Write, reduceIte, reduceCtorEq, Nat.reduceEqDiff, Nat.reduceAdd, Int.reduceLT, Int.reduceLE, Int.reduceNeg, Int.reduceEq, Nat.reduceLT, Nat.reduceSub, Nat.reduceMul, Nat.reduceBEq, Nat.reduceLeDiff, Int.reduceBEq, Int.reduceBNe, Int.reduceToNat, ne_eq, implies_true, bA]
  | true =>
    obtain ⟨a, _, c, d, e, f⟩ := mayR_iff.1 h
    have ho := named_op a
    have l0 : (leB 1 q.op.toNat).length = 1 := leB_len _ _
    have l1 : (leB 4 q.id.toNat).length = 4 := leB_len _ _
    have l2 : (leB 4 q.fr.toNat).length = 4 := leB_len _ _
    have l3 : (leB 4 q.n.toNat).length = 4 := leB_len _ _
    have l4 : (leB 2 q.da.length).length = 2 := leB_len _ _
    have hbody : bodyR q = leB 1 q.op.toNat ++ (leB 4 q.id.toNat ++ (leB 4 q.fr.toNat ++ (leB 4 q.n.toNat ++ (leB 2 q.da.length ++ q.da)))) := by simp [bodyR, headR, List.append_assoc]
    have hwr : writeR q = (sealS (bodyR q), 0) := by rw [writeR, if_pos h]
    have hbl := bodyR_len q
    have hsl := rseal_spec (bodyR q) (by rw [hbl]; omega)
    rw [hwr]
    generalize bodyR q = B at *
    simp (config := {maxSteps := 4000000}) only [U_ref16_Write, rowR, reduceIte, reduceCtorEq, Nat.reduceEqDiff, Nat.reduceAdd, Int.reduceLT, Int.reduceLE, Int.reduceNeg, Int.reduceEq, Nat.reduceLT, Nat.reduceSub, Nat.reduceMul, Nat.reduceBEq, Nat.reduceLeDiff, Int.reduceBEq, Int.reduceBNe, Int.reduceToNat, ne_eq, implies_true, bA]
    refine callI (rput_spec16 q.op 1 (by omega) (by show q.op.toNat < 256; omega) (by omega) (by omega)) ?_
    generalize leB 1 q.op.toNat = x0 at *
    simp (config := {maxSteps := 4000000}) only [U_ref16_Write, rowR, reduceIte, reduceCtorEq, Nat.reduceEqDiff, Nat.reduceAdd, Int.reduceLT, Int.reduceLE, Int.reduceNeg, Int.reduceEq, Nat.reduceLT, Nat.reduceSub, Nat.reduceMul, Nat.reduceBEq, Nat.reduceLeDiff, Int.reduceBEq, Int.reduceBNe, Int.reduceToNat, ne_eq, implies_true, bA]
    refine callI (rput_spec16 q.id 4 (by omega) (by show q.id.toNat < 4294967296; omega) (by omega) (by omega)) ?_
    generalize leB 4 q.id.toNat = x1 at *
    have f1 : binS .add (x0) x1 = some (.str (x0 ++ x1)) := by rw [binS_cat (by simp [l0, l1])]; try simp only [List.append_assoc]
    simp (config := {maxSteps := 4000000}) only [U_ref16_Write, rowR, f1, reduceIte, reduceCtorEq, Nat.reduceEqDiff, Nat.reduceAdd, Int.reduceLT, Int.reduceLE, Int.reduceNeg, Int.reduceEq, Nat.reduceLT, Nat.reduceSub, Nat.reduceMul, Nat.reduceBEq, Nat.reduceLeDiff, Int.reduceBEq, Int.reduceBNe, Int.reduceToNat, ne_eq, implies_true, bA]
    refine callI (rput_spec16 q.fr 4 (by omega) (by show q.fr.toNat < 4294967296; omega) (by omega) (by omega)) ?_
    generalize leB 4 q.fr.toNat = x2 at *
    have f2 : binS .add (x0 ++ x1) x2 = some (.str (x0 ++ (x1 ++ x2))) := by rw [binS_cat (by simp [l0, l1, l2])]; try simp only [List.append_assoc]
    simp (config := {maxSteps := 4000000}) only [U_ref16_Write, rowR, f2, reduceIte, reduceCtorEq, Nat.reduceEqDiff, Nat.reduceAdd, Int.reduceLT, Int.reduceLE, Int.reduceNeg, Int.reduceEq, Nat.reduceLT, Nat.reduceSub, Nat.reduceMul, Nat.reduceBEq, Nat.reduceLeDiff, Int.reduceBEq, Int.reduceBNe, Int.reduceToNat, ne_eq, implies_true, bA]
    refine callI (rput_spec16 q.n 4 (by omega) (by show q.n.toNat < 4294967296; omega) (by omega) (by omega)) ?_
    generalize leB 4 q.n.toNat = x3 at *
    have f3 : binS .add (x0 ++ (x1 ++ x2)) x3 = some (.str (x0 ++ (x1 ++ (x2 ++ x3)))) := by rw [binS_cat (by simp [l0, l1, l2, l3])]; try simp only [List.append_assoc]
    simp (config := {maxSteps := 4000000}) only [U_ref16_Write, rowR, f3, reduceIte, reduceCtorEq, Nat.reduceEqDiff, Nat.reduceAdd, Int.reduceLT, Int.reduceLE, Int.reduceNeg, Int.reduceEq, Nat.reduceLT, Nat.reduceSub, Nat.reduceMul, Nat.reduceBEq, Nat.reduceLeDiff, Int.reduceBEq, Int.reduceBNe, Int.reduceToNat, ne_eq, implies_true, bA]
    refine callI (rput_spec16 (q.da.length : Int) 2 (by omega) (by show q.da.length < 65536; omega) (by omega) (by omega)) ?_
    rw [Int.toNat_natCast]
    generalize leB 2 q.da.length = x4 at *
    have f4 : binS .add (x0 ++ (x1 ++ (x2 ++ x3))) x4 = some (.str (x0 ++ (x1 ++ (x2 ++ (x3 ++ x4))))) := by rw [binS_cat (by simp [l0, l1, l2, l3, l4])]; try simp only [List.append_assoc]
    simp (config := {maxSteps := 4000000}) only [U_ref16_Write, rowR, f4, reduceIte, reduceCtorEq, Nat.reduceEqDiff, Nat.reduceAdd, Int.reduceLT, Int.reduceLE, Int.reduceNeg, Int.reduceEq, Nat.reduceLT, Nat.reduceSub, Nat.reduceMul, Nat.reduceBEq, Nat.reduceLeDiff, Int.reduceBEq, Int.reduceBNe, Int.reduceToNat, ne_eq, implies_true, bA]
    have f5 : binS .add (x0 ++ (x1 ++ (x2 ++ (x3 ++ x4)))) q.da = some (.str B) := by rw [binS_cat (by simp [l0, l1, l2, l3, l4]; omega), hbody]; simp only [List.append_assoc]
    simp (config := {maxSteps := 4000000}) only [U_ref16_Write, rowR, f5, reduceIte, reduceCtorEq, Nat.reduceEqDiff, Nat.reduceAdd, Int.reduceLT, Int.reduceLE, Int.reduceNeg, Int.reduceEq, Nat.reduceLT, Nat.reduceSub, Nat.reduceMul, Nat.reduceBEq, Nat.reduceLeDiff, Int.reduceBEq, Int.reduceBNe, Int.reduceToNat, ne_eq, implies_true, bA]
    refine callI hsl ?_
    simp (config := {maxSteps := 4000000}) only [U_ref16_Write, reduceIte, reduceCtorEq, Nat.reduceEqDiff, Nat.reduceAdd, Int.reduceLT, Int.reduceLE, Int.reduceNeg, Int.reduceEq, Nat.reduceLT, Nat.reduceSub, Nat.reduceMul, Nat.reduceBEq, Nat.reduceLeDiff, Int.reduceBEq, Int.reduceBNe, Int.reduceToNat, ne_eq, implies_true, bA]
theorem ranswer_spec (a : Rp) (hb : a.da.length ≤ 9223372036854775807) (hi8 : a.ids.length ≤ 1000) : PCall Try.prog 15 [pA a] (.tup [.str (writeA a).1, .int .i64 (writeA a).2]) := by
  refine pcall_go Try.func15 comp_ref16_Answer ?_
  simp (config := {maxSteps := 4000000}) only [U_ref16_Answer, rowA, reduceIte, reduceCtorEq, Nat.reduceEqDiff, Nat.reduceAdd, Int.reduceLT, Int.reduceLE, Int.reduceNeg, Int.reduceEq, Nat.reduceLT, Nat.reduceSub, Nat.reduceMul, Nat.reduceBEq, Nat.reduceLeDiff, Int.reduceBEq, Int.reduceBNe, Int.reduceToNat, ne_eq, implies_true, bA]
  refine callI (rmayA_spec a hb hi8) ?_
  cases h : mayA a with
  | false =>
    have hwr : writeA a = ([], 1) := by rw [writeA, if_neg (by rw [h]; simp)]
    rw [hwr]
    simp (config := {maxSteps := 4000000}) only [U_ref16_Answer, reduceIte, reduceCtorEq, Nat.reduceEqDiff, Nat.reduceAdd, Int.reduceLT, Int.reduceLE, Int.reduceNeg, Int.reduceEq, Nat.reduceLT, Nat.reduceSub, Nat.reduceMul, Nat.reduceBEq, Nat.reduceLeDiff, Int.reduceBEq, Int.reduceBNe, Int.reduceToNat, ne_eq, implies_true, bA]
  | true =>
    obtain ⟨⟨a1, a2⟩, ⟨b1, b2⟩, ⟨c1, c2⟩, d, h8, hk⟩ := mayA_iff.1 h
    have l0 : (leB 1 a.er.toNat).length = 1 := leB_len _ _
    have l1 : (leB 4 a.sz.toNat).length = 4 := leB_len _ _
    have l2 : (leB 4 a.us.toNat).length = 4 := leB_len _ _
    have l3 : (leB 2 a.da.length).length = 2 := leB_len _ _
    have l4 : (leB 1 a.ids.length).length = 1 := leB_len _ _
    have hacc : accA a 0 = leB 1 a.er.toNat ++ (leB 4 a.sz.toNat ++ (leB 4 a.us.toNat ++ (leB 2 a.da.length ++ (leB 1 a.ids.length ++ a.da)))) := by rw [accA_0]; simp [headA, List.append_assoc]
    have hwr : writeA a = (sealS (bodyA a), 0) := by rw [writeA, if_pos h]
    have hbl := bodyA_len a
    have hsl := rseal_spec (bodyA a) (by rw [hbl]; omega)
    have hal := accA_len a
    have hsu := accA_succ a
    have hall := accA_all a
    rw [hwr]
    generalize bodyA a = B at *
    generalize accA a = acc at *
    simp (config := {maxSteps := 4000000}) only [U_ref16_Answer, rowA, reduceIte, reduceCtorEq, Nat.reduceEqDiff, Nat.reduceAdd, Int.reduceLT, Int.reduceLE, Int.reduceNeg, Int.reduceEq, Nat.reduceLT, Nat.reduceSub, Nat.reduceMul, Nat.reduceBEq, Nat.reduceLeDiff, Int.reduceBEq, Int.reduceBNe, Int.reduceToNat, ne_eq, implies_true, bA]
    refine callI (rput_spec16 a.er 1 (by omega) (by show a.er.toNat < 256; omega) (by omega) (by omega)) ?_
    generalize leB 1 a.er.toNat = x0 at *
    simp (config := {maxSteps := 4000000}) only [U_ref16_Answer, rowA, reduceIte, reduceCtorEq, Nat.reduceEqDiff, Nat.reduceAdd, Int.reduceLT, Int.reduceLE, Int.reduceNeg, Int.reduceEq, Nat.reduceLT, Nat.reduceSub, Nat.reduceMul, Nat.reduceBEq, Nat.reduceLeDiff, Int.reduceBEq, Int.reduceBNe, Int.reduceToNat, ne_eq, implies_true, bA]
    refine callI (rput_spec16 a.sz 4 (by omega) (by show a.sz.toNat < 4294967296; omega) (by omega) (by omega)) ?_
    generalize leB 4 a.sz.toNat = x1 at *
    have f1 : binS .add (x0) x1 = some (.str (x0 ++ x1)) := by rw [binS_cat (by simp [l0, l1])]; try simp only [List.append_assoc]
    simp (config := {maxSteps := 4000000}) only [U_ref16_Answer, rowA, f1, reduceIte, reduceCtorEq, Nat.reduceEqDiff, Nat.reduceAdd, Int.reduceLT, Int.reduceLE, Int.reduceNeg, Int.reduceEq, Nat.reduceLT, Nat.reduceSub, Nat.reduceMul, Nat.reduceBEq, Nat.reduceLeDiff, Int.reduceBEq, Int.reduceBNe, Int.reduceToNat, ne_eq, implies_true, bA]
    refine callI (rput_spec16 a.us 4 (by omega) (by show a.us.toNat < 4294967296; omega) (by omega) (by omega)) ?_
    generalize leB 4 a.us.toNat = x2 at *
    have f2 : binS .add (x0 ++ x1) x2 = some (.str (x0 ++ (x1 ++ x2))) := by rw [binS_cat (by simp [l0, l1, l2])]; try simp only [List.append_assoc]
    simp (config := {maxSteps := 4000000}) only [U_ref16_Answer, rowA, f2, reduceIte, reduceCtorEq, Nat.reduceEqDiff, Nat.reduceAdd, Int.reduceLT, Int.reduceLE, Int.reduceNeg, Int.reduceEq, Nat.reduceLT, Nat.reduceSub, Nat.reduceMul, Nat.reduceBEq, Nat.reduceLeDiff, Int.reduceBEq, Int.reduceBNe, Int.reduceToNat, ne_eq, implies_true, bA]
    refine callI (rput_spec16 (a.da.length : Int) 2 (by omega) (by show a.da.length < 65536; omega) (by omega) (by omega)) ?_
    rw [Int.toNat_natCast]
    generalize leB 2 a.da.length = x3 at *
    have f3 : binS .add (x0 ++ (x1 ++ x2)) x3 = some (.str (x0 ++ (x1 ++ (x2 ++ x3)))) := by rw [binS_cat (by simp [l0, l1, l2, l3])]; try simp only [List.append_assoc]
    simp (config := {maxSteps := 4000000}) only [U_ref16_Answer, rowA, f3, reduceIte, reduceCtorEq, Nat.reduceEqDiff, Nat.reduceAdd, Int.reduceLT, Int.reduceLE, Int.reduceNeg, Int.reduceEq, Nat.reduceLT, Nat.reduceSub, Nat.reduceMul, Nat.reduceBEq, Nat.reduceLeDiff, Int.reduceBEq, Int.reduceBNe, Int.reduceToNat, ne_eq, implies_true, bA]
    refine callI (rput_spec16 (a.ids.length : Int) 1 (by omega) (by show a.ids.length < 256; omega) (by omega) (by omega)) ?_
    rw [Int.toNat_natCast]
    generalize leB 1 a.ids.length = x4 at *
    have f4 : binS .add (x0 ++ (x1 ++ (x2 ++ x3))) x4 = some (.str (x0 ++ (x1 ++ (x2 ++ (x3 ++ x4))))) := by rw [binS_cat (by simp [l0, l1, l2, l3, l4])]; try simp only [List.append_assoc]
    simp (config := {maxSteps := 4000000}) only [U_ref16_Answer, rowA, f4, reduceIte, reduceCtorEq, Nat.reduceEqDiff, Nat.reduceAdd, Int.reduceLT, Int.reduceLE, Int.reduceNeg, Int.reduceEq, Nat.reduceLT, Nat.reduceSub, Nat.reduceMul, Nat.reduceBEq, Nat.reduceLeDiff, Int.reduceBEq, Int.reduceBNe, Int.reduceToNat, ne_eq, implies_true, bA]
    have f5 : binS .add (x0 ++ (x1 ++ (x2 ++ (x3 ++ x4)))) a.da = some (.str (acc 0)) := by rw [binS_cat (by simp [l0, l1, l2, l3, l4]; omega), hacc]; simp only [List.append_assoc]
    simp (config := {maxSteps := 4000000}) only [U_ref16_Answer, rowA, f5, reduceIte, reduceCtorEq, Nat.reduceEqDiff, Nat.reduceAdd, Int.reduceLT, Int.reduceLE, Int.reduceNeg, Int.reduceEq, Nat.reduceLT, Nat.reduceSub, Nat.reduceMul, Nat.reduceBEq, Nat.reduceLeDiff, Int.reduceBEq, Int.reduceBNe, Int.reduceToNat, ne_eq, implies_true, bA]
    refine loopF (fun i : Nat => ⟨ofL [(1, .ref 0 0), (4, .str (acc i)), (5, .int .i64 i)], [.box (rowA a)]⟩) (fun i => i ≤ a.ids.length) (fun i => a.ids.length - i) 0 ?_ (Nat.zero_le _) ?_
    · simp (config := {maxSteps := 4000000}) only [U_ref16_Answer, rowA, reduceIte, reduceCtorEq, Nat.reduceEqDiff, Nat.reduceAdd, Int.reduceLT, Int.reduceLE, Int.reduceNeg, Int.reduceEq, Nat.reduceLT, Nat.reduceSub, Nat.reduceMul, Nat.reduceBEq, Nat.reduceLeDiff, Int.reduceBEq, Int.reduceBNe, Int.reduceToNat, ne_eq, implies_true, bA]
      all_goals rfl
    · intro i hle
      by_cases h : i < a.ids.length
      · have d : decide ((i : Int) < (a.ids.length : Int)) = true := by simpa using h
        have e1 : IntKind.i64.wrap ((i : Int) + 1) = ((i + 1 : Nat) : Int) := by rw [wrapI (by omega) (by omega)]; omega
        have hx2 := idB_iff.1 (lkB_one hk _ (List.getElem_mem h))
        have f2 : binS .add (acc i) (leB 2 a.ids[i].toNat) = some (.str (acc (i + 1))) := by rw [binS_cat (by rw [hal i hle, leB_len]; omega), hsu i h]; rfl
        simp (config := {maxSteps := 4000000}) only [U_ref16_Answer, rowA, d, islV_Z h, reduceIte, reduceCtorEq, Nat.reduceEqDiff, Nat.reduceAdd, Int.reduceLT, Int.reduceLE, Int.reduceNeg, Int.reduceEq, Nat.reduceLT, Nat.reduceSub, Nat.reduceMul, Nat.reduceBEq, Nat.reduceLeDiff, Int.reduceBEq, Int.reduceBNe, Int.reduceToNat, ne_eq, implies_true, bA]
        refine callI (rput_spec16 a.ids[i] 2 (by omega) (by show a.ids[i].toNat < 65536; omega) (by omega) (by omega)) ?_
        simp (config := {maxSteps := 4000000}) only [U_ref16_Answer, rowA, f2, e1, reduceIte, reduceCtorEq, Nat.reduceEqDiff, Nat.reduceAdd, Int.reduceLT, Int.reduceLE, Int.reduceNeg, Int.reduceEq, Nat.reduceLT, Nat.reduceSub, Nat.reduceMul, Nat.reduceBEq, Nat.reduceLeDiff, Int.reduceBEq, Int.reduceBNe, Int.reduceToNat, ne_eq, implies_true, bA]
        exact ⟨i + 1, rfl, h, by omega⟩
      · have d : decide ((i : Int) < (a.ids.length : Int)) = false := by simpa using h
        have : i = a.ids.length := by omega
        subst this
        rw [hall]
        simp (config := {maxSteps := 4000000}) only [U_ref16_Answer, rowA, d, reduceIte, reduceCtorEq, Nat.reduceEqDiff, Nat.reduceAdd, Int.reduceLT, Int.reduceLE, Int.reduceNeg, Int.reduceEq, Nat.reduceLT, Nat.reduceSub, Nat.reduceMul, Nat.reduceBEq, Nat.reduceLeDiff, Int.reduceBEq, Int.reduceBNe, Int.reduceToNat, ne_eq, implies_true, bA]
        refine callI hsl ?_
        simp (config := {maxSteps := 4000000}) only [U_ref16_Answer, reduceIte, reduceCtorEq, Nat.reduceEqDiff, Nat.reduceAdd, Int.reduceLT, Int.reduceLE, Int.reduceNeg, Int.reduceEq, Nat.reduceLT, Nat.reduceSub, Nat.reduceMul, Nat.reduceBEq, Nat.reduceLeDiff, Int.reduceBEq, Int.reduceBNe, Int.reduceToNat, ne_eq, implies_true, bA]
/- reading requests -/
theorem gS_take {t : List UInt8} {a w : Nat} (h1 : 1 ≤ w) (h8 : w ≤ 8) (h : a + w ≤ t.length) : ((leN ((t.drop a).take w) : Nat) : Int) = gS t a w := (gS_in h1 h8 h).symm
theorem take_req (t : List UInt8) (h : 15 ≤ t.length) : takeS t [1, 4, 4, 4, 2] = ([leN ((t.drop 0).take 1), leN ((t.drop 1).take 4), leN ((t.drop 5).take 4), leN ((t.drop 9).take 4), leN ((t.drop 13).take 2)], t.drop 15, 0) := by
  have b1 : badW [1, 4, 4, 4, 2] = false := by decide
  rw [takeS_ok b1, goOn_one (by show ¬ t.length < 1; omega), goOn_one (by simp; omega), goOn_one (by simp; omega), goOn_one (by simp; omega), goOn_one (by simp; omega), goOn_nil]
  simp [List.drop_drop]
theorem take_req_no (t : List UInt8) (h : t.length < 15) : takeS t [1, 4, 4, 4, 2] = ([], [], 5) := takeS_short (by decide) (by simpa using h)
theorem numT (t : List UInt8) (a w : Nat) (h : a + w ≤ t.length) : leN ((t.drop a).take w) < 256 ^ w := by
  have hl : ((t.drop a).take w).length = w := by simp; omega
  have := leN_lt ((t.drop a).take w)
  rwa [hl] at this
theorem read_spec (s : List UInt8) (hs : s.length ≤ 1000000) : PCall Try.prog 17 [.str s] (.tup [pR (readR s).1, .int .i64 (readR s).2]) := by
  refine pcall_go Try.func17 comp_req_Read ?_
  simp (config := {maxSteps := 4000000}) only [U_req_Read, reduceIte, reduceCtorEq, Nat.reduceEqDiff, Nat.reduceAdd, Int.reduceLT, Int.reduceLE, Int.reduceNeg, Int.reduceEq, Nat.reduceLT, Nat.reduceSub, Nat.reduceMul, Nat.reduceBEq, Nat.reduceLeDiff, Int.reduceBEq, Int.reduceBNe, Int.reduceToNat, ne_eq, implies_true, bA]
  refine callI (open_spec s hs) ?_
  by_cases h0 : (openS s).2 = 0
  · have d0 : ((openS s).2 != 0) = false := by simpa using h0
    have hol := open_len s
    have hyes := readR_yes h0
    have hno := readR_no h0
    have hshort := readR_short h0
    have hz := open_zero h0
    generalize (openS s).1 = t at hol hyes hno hshort hz
    simp (config := {maxSteps := 4000000}) only [U_req_Read, d0, reduceIte, reduceCtorEq, Nat.reduceEqDiff, Nat.reduceAdd, Int.reduceLT, Int.reduceLE, Int.reduceNeg, Int.reduceEq, Nat.reduceLT, Nat.reduceSub, Nat.reduceMul, Nat.reduceBEq, Nat.reduceLeDiff, Int.reduceBEq, Int.reduceBNe, Int.reduceToNat, ne_eq, implies_true, bA]
    refine callI head_spec ?_
    simp (config := {maxSteps := 4000000}) only [U_req_Read, reduceIte, reduceCtorEq, Nat.reduceEqDiff, Nat.reduceAdd, Int.reduceLT, Int.reduceLE, Int.reduceNeg, Int.reduceEq, Nat.reduceLT, Nat.reduceSub, Nat.reduceMul, Nat.reduceBEq, Nat.reduceLeDiff, Int.reduceBEq, Int.reduceBNe, Int.reduceToNat, ne_eq, implies_true, bA]
    refine callI (take_spec t [1, 4, 4, 4, 2] (by omega) (by simp)) ?_
    by_cases h15 : t.length < 15
    · rw [hshort h15, take_req_no t h15]
      simp (config := {maxSteps := 4000000}) only [U_req_Read, reduceIte, reduceCtorEq, Nat.reduceEqDiff, Nat.reduceAdd, Int.reduceLT, Int.reduceLE, Int.reduceNeg, Int.reduceEq, Nat.reduceLT, Nat.reduceSub, Nat.reduceMul, Nat.reduceBEq, Nat.reduceLeDiff, Int.reduceBEq, Int.reduceBNe, Int.reduceToNat, ne_eq, implies_true, bA]
      rfl
    · rw [take_req t (by omega)]
      have n1 := gS_take (t := t) (a := 0) (w := 1) (by decide) (by decide) (by omega)
      have n2 := gS_take (t := t) (a := 1) (w := 4) (by decide) (by decide) (by omega)
      have n3 := gS_take (t := t) (a := 5) (w := 4) (by decide) (by decide) (by omega)
      have n4 := gS_take (t := t) (a := 9) (w := 4) (by decide) (by decide) (by omega)
      have b1 := numT t 0 1 (by omega)
      have b2 := numT t 1 4 (by omega)
      have b3 := numT t 5 4 (by omega)
      have b4 := numT t 9 4 (by omega)
      have hro : reqOf t = ⟨gS t 0 1, gS t 1 4, gS t 5 4, gS t 9 4, t.drop 15⟩ := rfl
      rw [← n1, ← n2, ← n3, ← n4] at hro
      clear n1 n2 n3 n4
      generalize leN ((t.drop 0).take 1) = m1 at *
      generalize leN ((t.drop 1).take 4) = m2 at *
      generalize leN ((t.drop 5).take 4) = m3 at *
      generalize leN ((t.drop 9).take 4) = m4 at *
      generalize leN ((t.drop 13).take 2) = m5 at *
      have i0 : ∀ ob fb, islV ob fb 1 (.slc (rowsN .u64 [m1, m2, m3, m4, m5])) (.int .i64 0) = some (.fptr [.int .u64 (m1 : Int)]) := fun _ _ => rfl
      have i1 : ∀ ob fb, islV ob fb 1 (.slc (rowsN .u64 [m1, m2, m3, m4, m5])) (.int .i64 1) = some (.fptr [.int .u64 (m2 : Int)]) := fun _ _ => rfl
      have i2 : ∀ ob fb, islV ob fb 1 (.slc (rowsN .u64 [m1, m2, m3, m4, m5])) (.int .i64 2) = some (.fptr [.int .u64 (m3 : Int)]) := fun _ _ => rfl
      have i3 : ∀ ob fb, islV ob fb 1 (.slc (rowsN .u64 [m1, m2, m3, m4, m5])) (.int .i64 3) = some (.fptr [.int .u64 (m4 : Int)]) := fun _ _ => rfl
      have c1 : IntKind.i64.wrap (m1 : Int) = (m1 : Int) := wrapI (by omega) (by omega)
      have c2 : IntKind.i64.wrap (m2 : Int) = (m2 : Int) := wrapI (by omega) (by omega)
      have c3 : IntKind.i64.wrap (m3 : Int) = (m3 : Int) := wrapI (by omega) (by omega)
      have c4 : IntKind.i64.wrap (m4 : Int) = (m4 : Int) := wrapI (by omega) (by omega)
      simp (config := {maxSteps := 4000000}) only [U_req_Read, i0, i1, i2, i3, c1, c2, c3, c4, reduceIte, reduceCtorEq, Nat.reduceEqDiff, Nat.reduceAdd, Int.reduceLT, Int.reduceLE, Int.reduceNeg, Int.reduceEq, Nat.reduceLT, Nat.reduceSub, Nat.reduceMul, Nat.reduceBEq, Nat.reduceLeDiff, Int.reduceBEq, Int.reduceBNe, Int.reduceToNat, ne_eq, implies_true, bA]
      have hws := write_spec (reqOf t) (by rw [hro]; simp; omega)
      have hpo : pR (reqOf t) = .agg [.int .i64 (m1 : Int), .int .i64 (m2 : Int), .int .i64 (m3 : Int), .int .i64 (m4 : Int), .str (t.drop 15)] := by rw [hro]; rfl
      rw [hpo] at hws
      refine callI hws ?_
      cases hm : mayR (reqOf t) with
      | true =>
        have hw : writeR (reqOf t) = (sealS (bodyR (reqOf t)), 0) := by rw [writeR, if_pos hm]
        rw [hw]
        by_cases hb : bodyR (reqOf t) = t
        · have d3 : (sealS (bodyR (reqOf t)) == s) = true := by rw [hb, hz]; simp
          rw [hyes h15 hm hb, hpo]
          simp (config := {maxSteps := 4000000}) only [U_req_Read, d3, reduceIte, reduceCtorEq, Nat.reduceEqDiff, Nat.reduceAdd, Int.reduceLT, Int.reduceLE, Int.reduceNeg, Int.reduceEq, Nat.reduceLT, Nat.reduceSub, Nat.reduceMul, Nat.reduceBEq, Nat.reduceLeDiff, Int.reduceBEq, Int.reduceBNe, Int.reduceToNat, ne_eq, implies_true, bA]
        · have d3 : (sealS (bodyR (reqOf t)) == s) = false := by
            rw [beq_eq_false_iff_ne]; intro h; rw [← hz] at h; exact hb (seal_inj h)
          rw [hno h15 (fun h => hb h.2)]
          simp (config := {maxSteps := 4000000}) only [U_req_Read, d3, reduceIte, reduceCtorEq, Nat.reduceEqDiff, Nat.reduceAdd, Int.reduceLT, Int.reduceLE, Int.reduceNeg, Int.reduceEq, Nat.reduceLT, Nat.reduceSub, Nat.reduceMul, Nat.reduceBEq, Nat.reduceLeDiff, Int.reduceBEq, Int.reduceBNe, Int.reduceToNat, ne_eq, implies_true, bA]
          rfl
      | false =>
        have hw : writeR (reqOf t) = ([], 1) := by rw [writeR, if_neg (by rw [hm]; simp)]
        rw [hw, hno h15 (fun h => by rw [hm] at h; exact absurd h.1 (by simp))]
        simp (config := {maxSteps := 4000000}) only [U_req_Read, reduceIte, reduceCtorEq, Nat.reduceEqDiff, Nat.reduceAdd, Int.reduceLT, Int.reduceLE, Int.reduceNeg, Int.reduceEq, Nat.reduceLT, Nat.reduceSub, Nat.reduceMul, Nat.reduceBEq, Nat.reduceLeDiff, Int.reduceBEq, Int.reduceBNe, Int.reduceToNat, ne_eq, implies_true, bA]
        rfl
  · have d0 : ((openS s).2 != 0) = true := by simpa using h0
    rw [readR_err h0]
    simp (config := {maxSteps := 4000000}) only [U_req_Read, d0, reduceIte, reduceCtorEq, Nat.reduceEqDiff, Nat.reduceAdd, Int.reduceLT, Int.reduceLE, Int.reduceNeg, Int.reduceEq, Nat.reduceLT, Nat.reduceSub, Nat.reduceMul, Nat.reduceBEq, Nat.reduceLeDiff, Int.reduceBEq, Int.reduceBNe, Int.reduceToNat, ne_eq, implies_true, bA]
    rfl
theorem rread_spec (s : List UInt8) (hs : s.length ≤ 1000000) : PCall Try.prog 18 [.str s] (.tup [pR (readR s).1, .int .i64 (readR s).2]) := by
  refine pcall_go Try.func18 comp_ref16_Read ?_
  simp (config := {maxSteps := 4000000}) only [U_ref16_Read, reduceIte, reduceCtorEq, Nat.reduceEqDiff, Nat.reduceAdd, Int.reduceLT, Int.reduceLE, Int.reduceNeg, Int.reduceEq, Nat.reduceLT, Nat.reduceSub, Nat.reduceMul, Nat.reduceBEq, Nat.reduceLeDiff, Int.reduceBEq, Int.reduceBNe, Int.reduceToNat, ne_eq, implies_true, bA]
  refine callI (ropen_spec s hs) ?_
  by_cases h0 : (openS s).2 = 0
  · have d0 : ((openS s).2 != 0) = false := by simpa using h0
    have hol := open_len s
    have hyes := readR_yes h0
    have hno := readR_no h0
    have hshort := readR_short h0
    have hz := open_zero h0
    generalize (openS s).1 = t at hol hyes hno hshort hz
    by_cases h15 : t.length < 15
    · have d1 : decide ((t.length : Int) < 15) = true := by simp; omega
      rw [hshort h15]
      simp (config := {maxSteps := 4000000}) only [U_ref16_Read, d0, d1, reduceIte, reduceCtorEq, Nat.reduceEqDiff, Nat.reduceAdd, Int.reduceLT, Int.reduceLE, Int.reduceNeg, Int.reduceEq, Nat.reduceLT, Nat.reduceSub, Nat.reduceMul, Nat.reduceBEq, Nat.reduceLeDiff, Int.reduceBEq, Int.reduceBNe, Int.reduceToNat, ne_eq, implies_true, bA]
      rfl
    · have d1 : decide ((t.length : Int) < 15) = false := by simp; omega
      have g2 : sstrV (.str t) (some (some 15)) (some none) = some (.str (t.drop 15)) := sstrV_from (i := 15) (by omega)
      simp (config := {maxSteps := 4000000}) only [U_ref16_Read, d0, d1, reduceIte, reduceCtorEq, Nat.reduceEqDiff, Nat.reduceAdd, Int.reduceLT, Int.reduceLE, Int.reduceNeg, Int.reduceEq, Nat.reduceLT, Nat.reduceSub, Nat.reduceMul, Nat.reduceBEq, Nat.reduceLeDiff, Int.reduceBEq, Int.reduceBNe, Int.reduceToNat, ne_eq, implies_true, bA]
      refine callI (rget_spec16 t 0 1 (by omega) (by omega) (by omega) (by omega)) ?_
      simp (config := {maxSteps := 4000000}) only [U_ref16_Read, reduceIte, reduceCtorEq, Nat.reduceEqDiff, Nat.reduceAdd, Int.reduceLT, Int.reduceLE, Int.reduceNeg, Int.reduceEq, Nat.reduceLT, Nat.reduceSub, Nat.reduceMul, Nat.reduceBEq, Nat.reduceLeDiff, Int.reduceBEq, Int.reduceBNe, Int.reduceToNat, ne_eq, implies_true, bA]
      refine callI (rget_spec16 t 1 4 (by omega) (by omega) (by omega) (by omega)) ?_
      simp (config := {maxSteps := 4000000}) only [U_ref16_Read, reduceIte, reduceCtorEq, Nat.reduceEqDiff, Nat.reduceAdd, Int.reduceLT, Int.reduceLE, Int.reduceNeg, Int.reduceEq, Nat.reduceLT, Nat.reduceSub, Nat.reduceMul, Nat.reduceBEq, Nat.reduceLeDiff, Int.reduceBEq, Int.reduceBNe, Int.reduceToNat, ne_eq, implies_true, bA]
      refine callI (rget_spec16 t 5 4 (by omega) (by omega) (by omega) (by omega)) ?_
      simp (config := {maxSteps := 4000000}) only [U_ref16_Read, reduceIte, reduceCtorEq, Nat.reduceEqDiff, Nat.reduceAdd, Int.reduceLT, Int.reduceLE, Int.reduceNeg, Int.reduceEq, Nat.reduceLT, Nat.reduceSub, Nat.reduceMul, Nat.reduceBEq, Nat.reduceLeDiff, Int.reduceBEq, Int.reduceBNe, Int.reduceToNat, ne_eq, implies_true, bA]
      refine callI (rget_spec16 t 9 4 (by omega) (by omega) (by omega) (by omega)) ?_
      simp (config := {maxSteps := 4000000}) only [U_ref16_Read, g2, reduceIte, reduceCtorEq, Nat.reduceEqDiff, Nat.reduceAdd, Int.reduceLT, Int.reduceLE, Int.reduceNeg, Int.reduceEq, Nat.reduceLT, Nat.reduceSub, Nat.reduceMul, Nat.reduceBEq, Nat.reduceLeDiff, Int.reduceBEq, Int.reduceBNe, Int.reduceToNat, ne_eq, implies_true, bA]
      refine callI (rwrite_spec (reqOf t) (by simp [reqOf]; omega)) ?_
      have hpo : pR (reqOf t) = .agg [.int .i64 (gS t 0 1), .int .i64 (gS t 1 4), .int .i64 (gS t 5 4), .int .i64 (gS t 9 4), .str (t.drop 15)] := rfl
      cases hm : mayR (reqOf t) with
      | true =>
        have hw : writeR (reqOf t) = (sealS (bodyR (reqOf t)), 0) := by rw [writeR, if_pos hm]
        rw [hw]
        by_cases hb : bodyR (reqOf t) = t
        · have d3 : (sealS (bodyR (reqOf t)) == s) = true := by rw [hb, hz]; simp
          rw [hyes h15 hm hb, hpo]
          simp (config := {maxSteps := 4000000}) only [U_ref16_Read, d3, reduceIte, reduceCtorEq, Nat.reduceEqDiff, Nat.reduceAdd, Int.reduceLT, Int.reduceLE, Int.reduceNeg, Int.reduceEq, Nat.reduceLT, Nat.reduceSub, Nat.reduceMul, Nat.reduceBEq, Nat.reduceLeDiff, Int.reduceBEq, Int.reduceBNe, Int.reduceToNat, ne_eq, implies_true, bA]
        · have d3 : (sealS (bodyR (reqOf t)) == s) = false := by
            rw [beq_eq_false_iff_ne]; intro h; rw [← hz] at h; exact hb (seal_inj h)
          rw [hno h15 (fun h => hb h.2)]
          simp (config := {maxSteps := 4000000}) only [U_ref16_Read, d3, reduceIte, reduceCtorEq, Nat.reduceEqDiff, Nat.reduceAdd, Int.reduceLT, Int.reduceLE, Int.reduceNeg, Int.reduceEq, Nat.reduceLT, Nat.reduceSub, Nat.reduceMul, Nat.reduceBEq, Nat.reduceLeDiff, Int.reduceBEq, Int.reduceBNe, Int.reduceToNat, ne_eq, implies_true, bA]
          rfl
      | false =>
        have hw : writeR (reqOf t) = ([], 1) := by rw [writeR, if_neg (by rw [hm]; simp)]
        rw [hw, hno h15 (fun h => by rw [hm] at h; exact absurd h.1 (by simp))]
        simp (config := {maxSteps := 4000000}) only [U_ref16_Read, reduceIte, reduceCtorEq, Nat.reduceEqDiff, Nat.reduceAdd, Int.reduceLT, Int.reduceLE, Int.reduceNeg, Int.reduceEq, Nat.reduceLT, Nat.reduceSub, Nat.reduceMul, Nat.reduceBEq, Nat.reduceLeDiff, Int.reduceBEq, Int.reduceBNe, Int.reduceToNat, ne_eq, implies_true, bA]
        rfl
  · have d0 : ((openS s).2 != 0) = true := by simpa using h0
    rw [readR_err h0]
    simp (config := {maxSteps := 4000000}) only [U_ref16_Read, d0, reduceIte, reduceCtorEq, Nat.reduceEqDiff, Nat.reduceAdd, Int.reduceLT, Int.reduceLE, Int.reduceNeg, Int.reduceEq, Nat.reduceLT, Nat.reduceSub, Nat.reduceMul, Nat.reduceBEq, Nat.reduceLeDiff, Int.reduceBEq, Int.reduceBNe, Int.reduceToNat, ne_eq, implies_true, bA]
    rfl
end Go.Proofs.Ytoofeppepahpfaa.Aw
