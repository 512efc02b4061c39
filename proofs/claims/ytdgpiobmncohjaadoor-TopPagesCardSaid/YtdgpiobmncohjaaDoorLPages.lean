/-
  Pages that are put one behind the other, as a contract: the statement returns true.
-/
import Derived.Test.YtdgpiobmncohjaaDoorLTorn
import Derived.Test.YtdgpiobmncohjaaDoorCodeG
set_option linter.unusedSimpArgs false
set_option linter.unusedVariables false
namespace Go.Proofs.YtdgpiobmncohjaaDoor.Aw
open Go.RowKit

abbrev lP (K : List Pg) : AObj := .list 5 (K.map rowP)
def sealP (p : Pg) : List UInt8 := sealS (bodyS p)
def bkP (b : Nat) (K : List Pg) : List Bk := blK.set b ⟨K.map sealP, 0, false⟩
theorem blK_get {b : Nat} (h : b < 16) : blK[b]? = some zeroK := by rw [blK, List.getElem?_replicate, if_pos h]
theorem bkP_nil {b : Nat} (h : b < 16) : bkP b [] = blK := by
  apply List.ext_getElem?
  intro i
  rw [bkP, List.getElem?_set]
  by_cases he : b = i
  · subst he
    rw [if_pos rfl, if_pos (by simpa [blK] using h), blK_get h]; rfl
  · rw [if_neg he]
theorem bkP_get {b : Nat} (h : b < 16) (K : List Pg) : (bkP b K)[b]? = some ⟨K.map sealP, 0, false⟩ := by
  rw [bkP, List.getElem?_set_self (by simpa [blK] using h)]
theorem bkP_snoc (b : Nat) (K : List Pg) (p : Pg) : (bkP b K).set b ⟨K.map sealP ++ [sealP p], 0, false⟩ = bkP b (K ++ [p]) := by simp [bkP, List.set_set]
theorem tmodP {x : Int} {n : Nat} (h : x = (n : Int)) : x.tmod 16 = ((n % 16 : Nat) : Int) := by
  subst h
  rw [Int.tmod_eq_emod_of_nonneg (by omega)]; omega
theorem cM_1 (n : Int) : cM [⟨1 + n, 2, 0, []⟩, ⟨2 + n, 3, 0, []⟩] (n + 1) = ⟨1 + n, 2, 0, []⟩ := by
  have : (1 + n == n + 1) = true := by simp; omega
  simp [cM, List.find?, this]
theorem cM_2 (n : Int) : cM [⟨1 + n, 2, 0, []⟩, ⟨2 + n, 3, 0, []⟩] (n + 1 + 1) = ⟨2 + n, 3, 0, []⟩ := by
  have h1 : (1 + n == n + 1 + 1) = false := by simp; omega
  have h2 : (2 + n == n + 1 + 1) = true := by simp; omega
  simp [cM, List.find?, h1, h2]
theorem cM_3 (n k : Int) (h : n + 2 < k) : cM [⟨1 + n, 2, 0, []⟩, ⟨2 + n, 3, 0, []⟩] k = zeroM := by
  have h1 : (1 + n == k) = false := by simp; omega
  have h2 : (2 + n == k) = false := by simp; omega
  simp [cM, List.find?, h1, h2]
theorem NandS.putL {ob : List AObj} {N : Nat} {bl : List Bk} {ops : Int} {P : List Mis} {down : Bool} (h : NandS ob N bl ops P down) {i z : Nat} {rows : List (List PV)} {a : AObj} (hi : ob[i]? = some (.list z rows)) (h1 : z ≠ 1 ∨ isI rows = true) (h4 : z ≠ 4) : NandS (ob.set i a) N bl ops P down := by
  obtain ⟨B, E, pl, pk, h2, h3⟩ := h
  refine ⟨B, E, pl, pk, ⟨?_, ?_, h2.len, fun f hf => ?_, ?_, h2.inj, h2.ops0, h2.ops1, h2.pl1⟩, h3⟩
  · rw [List.getElem?_set_ne (ne_kind h2.hN hi).symm]; exact h2.hN
  · rw [List.getElem?_set_ne (ne_kind h2.hB hi).symm]; exact h2.hB
  · rcases h2.pgs f hf with y | ⟨y1, y2⟩
    · exact .inl y
    · refine .inr ⟨y1, ?_⟩
      rw [List.getElem?_set_ne]; · exact y2
      rintro rfl
      rw [y2] at hi; injection hi with hi; injection hi with hz hr
      rcases h1 with h1 | h1
      · omega
      · rw [← hr, isI_S] at h1; cases h1
  · rcases h2.plan with y | ⟨y1, y2⟩
    · exact .inl y
    · refine .inr ⟨y1, ?_⟩
      rw [List.getElem?_set_ne]; · exact y2
      rintro rfl
      rw [y2] at hi; injection hi with hi; injection hi with hz hr
      omega
theorem tmod16 (a : Int) : ∃ q, a.tmod 16 = q ∧ -15 ≤ q ∧ q ≤ 15 := by
  refine ⟨_, rfl, ?_, ?_⟩
  · have := Int.lt_tmod_of_pos a (b := 16) (by omega); omega
  · have := Int.tmod_lt_of_pos a (b := 16) (by omega); omega
theorem blk_in (block : Int) : ∃ b : Nat, b < 16 ∧ (IntKind.i64.wrap (block.tmod 16 + 16)).tmod 16 = (b : Int) := by
  obtain ⟨q, hq, h1, h2⟩ := tmod16 block
  rw [hq, wrapI (by omega) (by omega)]
  obtain ⟨k, hk⟩ : ∃ k : Nat, q + 16 = (k : Int) := ⟨(q + 16).toNat, by omega⟩
  exact ⟨k % 16, by omega, tmodP hk⟩
theorem pages_law (l : List Pg) (block : Int) (hl : l.length ≤ 9223372036854775807) (hb : ∀ p ∈ l, p.bo.length ≤ 9223372036854775807) :
    PCall Tryd.prog 4 [.slc (l.map rowP), .int .i64 block] (.bool true) := by
  refine pcall_dr Tryd.func4 comp_top_TopPages ?_
  simp (config := {maxSteps := 4000000}) only [U_top_TopPages, reduceIte, reduceCtorEq, Nat.reduceEqDiff, Nat.reduceAdd, Int.reduceLT, Int.reduceLE, Int.reduceNeg, Int.reduceEq, Nat.reduceLT, Nat.reduceSub, Nat.reduceMul, Nat.reduceBEq, Nat.reduceLeDiff, Int.reduceBEq, Int.reduceBNe, Int.reduceToNat, ne_eq, implies_true, bA]
  refine callI plain_spec ?_
  simp (config := {maxSteps := 4000000}) only [U_top_TopPages, reduceIte, reduceCtorEq, Nat.reduceEqDiff, Nat.reduceAdd, Int.reduceLT, Int.reduceLE, Int.reduceNeg, Int.reduceEq, Nat.reduceLT, Nat.reduceSub, Nat.reduceMul, Nat.reduceBEq, Nat.reduceLeDiff, Int.reduceBEq, Int.reduceBNe, Int.reduceToNat, ne_eq, implies_true, bA]
  refine callM (New_i []) ?_
  rintro r o1 ⟨N, rfl, h1, -⟩
  obtain ⟨b, hb16, hbb⟩ := blk_in block
  simp (config := {maxSteps := 4000000}) only [U_top_TopPages, hbb, reduceIte, reduceCtorEq, Nat.reduceEqDiff, Nat.reduceAdd, Int.reduceLT, Int.reduceLE, Int.reduceNeg, Int.reduceEq, Nat.reduceLT, Nat.reduceSub, Nat.reduceMul, Nat.reduceBEq, Nat.reduceLeDiff, Int.reduceBEq, Int.reduceBNe, Int.reduceToNat, ne_eq, implies_true, bA]
  refine callI fine_spec ?_
  simp (config := {maxSteps := 4000000}) only [U_top_TopPages, hbb, reduceIte, reduceCtorEq, Nat.reduceEqDiff, Nat.reduceAdd, Int.reduceLT, Int.reduceLE, Int.reduceNeg, Int.reduceEq, Nat.reduceLT, Nat.reduceSub, Nat.reduceMul, Nat.reduceBEq, Nat.reduceLeDiff, Int.reduceBEq, Int.reduceBNe, Int.reduceToNat, ne_eq, implies_true, bA]
  have hk0 : (o1 ++ [lP []])[o1.length]? = some (lP []) := by simp
  obtain ⟨kk, hkk⟩ : ∃ kk, o1.length = kk := ⟨_, rfl⟩
  rw [hkk] at hk0
  rw [hkk]
  have h1' := h1.app [lP []]
  obtain ⟨O1, hO1⟩ : ∃ O1, o1 ++ [lP []] = O1 := ⟨_, rfl⟩
  rw [hO1] at hk0 h1'
  try rw [hO1]
  refine loopF (fun s : Nat × List AObj × List Pg => ⟨ofL [(0, .slc (l.map rowP)), (1, .int .i64 (b : Int)), (5, .ref N 0), (7, .osl kk 0 s.2.2.length), (8, .int .i64 (s.1 : Int))], s.2.1⟩)
    (fun s => s.1 ≤ l.length ∧ s.2.2.length ≤ 7 ∧ (∀ p ∈ s.2.2, mayB p = true) ∧ NandS s.2.1 N (bkP b s.2.2) (s.2.2.length : Int) [] false ∧ s.2.1[kk]? = some (lP s.2.2))
    (fun s => l.length - s.1) (0, O1, []) ?_ ⟨Nat.zero_le _, by simp, by simp, by rw [bkP_nil hb16]; exact h1', hk0⟩ ?_
  · simp (config := {maxSteps := 4000000}) only [U_top_TopPages, reduceIte, reduceCtorEq, Nat.reduceEqDiff, Nat.reduceAdd, Int.reduceLT, Int.reduceLE, Int.reduceNeg, Int.reduceEq, Nat.reduceLT, Nat.reduceSub, Nat.reduceMul, Nat.reduceBEq, Nat.reduceLeDiff, Int.reduceBEq, Int.reduceBNe, Int.reduceToNat, ne_eq, implies_true, bA]
    rw [← hO1]; rfl
  · rintro ⟨i, OB, K⟩ ⟨hi, hK7, hKm, hN, hk⟩
    simp only at hi hK7 hKm hN hk ⊢
    have hr : rowsO (some (lP K)) 0 K.length = some (K.map rowP) := rowsO_all (by simp)
    by_cases hlt : i < l.length
    · have d : decide ((i : Int) < (l.length : Int)) = true := by simpa using hlt
      by_cases h7 : K.length < 7
      · have d7 : decide ((K.length : Int) < 7) = true := by simp; try omega
        obtain ⟨p, hp⟩ : ∃ p, l[i] = p := ⟨_, rfl⟩
        have hpb := hb p (by rw [← hp]; exact List.getElem_mem hlt)
        have i1 : ∀ OB : List AObj, islV OB [] 5 (.slc (l.map rowP)) (.int .i64 (i : Int)) = some (.fptr (rowP p)) := fun OB => by
          rw [islV_slc (k := .i64) (by simpa using hlt) (by simp [rowP])]; simp [hp]
        have w1 : IntKind.i64.wrap ((i : Int) + 1) = ((i + 1 : Nat) : Int) := by rw [wrapI (by omega) (by omega)]; omega
        simp (config := {maxSteps := 4000000}) only [U_top_TopPages, d, d7, i1, rowP, hk, hr, reduceIte, reduceCtorEq, Nat.reduceEqDiff, Nat.reduceAdd, Int.reduceLT, Int.reduceLE, Int.reduceNeg, Int.reduceEq, Nat.reduceLT, Nat.reduceSub, Nat.reduceMul, Nat.reduceBEq, Nat.reduceLeDiff, Int.reduceBEq, Int.reduceBNe, Int.reduceToNat, ne_eq, implies_true, bA]
        refine callI (write_spec p hpb) ?_
        cases hmp : mayB p with
        | false =>
          rw [writeS_no hmp]
          simp (config := {maxSteps := 4000000}) only [U_top_TopPages, w1, rowP, reduceIte, reduceCtorEq, Nat.reduceEqDiff, Nat.reduceAdd, Int.reduceLT, Int.reduceLE, Int.reduceNeg, Int.reduceEq, Nat.reduceLT, Nat.reduceSub, Nat.reduceMul, Nat.reduceBEq, Nat.reduceLeDiff, Int.reduceBEq, Int.reduceBNe, Int.reduceToNat, ne_eq, implies_true, bA]
          refine ⟨(i + 1, OB, K), rfl, ⟨hlt, hK7, hKm, hN, hk⟩, by show l.length - (i + 1) < l.length - i; omega⟩
        | true =>
          have hlS := write_len p
          rw [writeS_yes hmp] at hlS ⊢
          simp only at hlS
          have e1 : IntKind.i64.wrap (8 * (b : Int)) = ((8 * b : Nat) : Int) := by rw [wrapI (by omega) (by omega)]; omega
          have e2 : IntKind.i64.wrap (((8 * b : Nat) : Int) + (K.length : Int)) = ((8 * b + K.length : Nat) : Int) := by rw [wrapI (by omega) (by omega)]; omega
          simp (config := {maxSteps := 4000000}) only [U_top_TopPages, e1, e2, rowP, hk, hr, reduceIte, reduceCtorEq, Nat.reduceEqDiff, Nat.reduceAdd, Int.reduceLT, Int.reduceLE, Int.reduceNeg, Int.reduceEq, Nat.reduceLT, Nat.reduceSub, Nat.reduceMul, Nat.reduceBEq, Nat.reduceLeDiff, Int.reduceBEq, Int.reduceBNe, Int.reduceToNat, ne_eq, implies_true, bA]
          refine callM (Program_i (b := b) (k := K.length) hN (by omega) (bkP_get hb16 _) (by omega) rfl (by simp) hlS (by rw [cM_nil]; simp [zeroM]) rfl) ?_
          rintro r O2 ⟨h2, K2, w2⟩
          rw [cM_nil] at h2 w2
          have := w2.zero; subst this
          rw [pageT_0] at h2
          simp only [zeroM, decide_false, show ((0 : Int) = 2) = False by simp, show ((0 : Int) = 1) = False by simp] at h2
          have h2' : NandS O2 N (bkP b (K ++ [p])) (((K ++ [p]).length : Nat) : Int) [] false := by
            rw [← bkP_snoc]; simpa [sealP] using h2
          clear h2
          have i2 : ∀ OB : List AObj, islV OB [] 5 (.slc (l.map rowP)) (.int .i64 (i : Int)) = some (.fptr (rowP p)) := i1
          have hk2 := K2.1 _ _ _ (.inl (by omega)) (by omega) hk
          have ap : ∀ fb nw, fb.contains kk = false → appO O2 fb nw 5 (.osl kk 0 K.length) (some [[.int .i64 p.kd, .int .i64 p.sp, .int .i64 p.ky, .int .i64 p.sq, .str p.bo]]) = some (.osl kk 0 (K.length + 1), O2.set kk (lP (K ++ [p]))) := fun fb nw hf => by
            rw [appO_osl hf hk2 (by simp) (by simp; omega) (by simp [rowsOk]) (by simp)]; simp [lP, rowP]
          have lk := lt_ofN hk2
          have qk : (kk == O2.length) = false := by simp; omega
          simp (config := {maxSteps := 4000000}) only [U_top_TopPages, i2, w1, rowP, ap, qk, reduceIte, reduceCtorEq, Nat.reduceEqDiff, Nat.reduceAdd, Int.reduceLT, Int.reduceLE, Int.reduceNeg, Int.reduceEq, Nat.reduceLT, Nat.reduceSub, Nat.reduceMul, Nat.reduceBEq, Nat.reduceLeDiff, Int.reduceBEq, Int.reduceBNe, Int.reduceToNat, ne_eq, implies_true, bA]
          refine ⟨(i + 1, O2.set kk (lP (K ++ [p])), K ++ [p]), by simp, ⟨hlt, by simp only [List.length_append, List.length_singleton]; omega, fun q hq => ?_, h2'.putL hk2 (.inl (by omega)) (by omega), set_get hk2⟩, by simp only; omega⟩
          rcases List.mem_append.1 hq with hq | hq
          · exact hKm q hq
          · simp at hq; rw [hq]; exact hmp
      · have d7 : decide ((K.length : Int) < 7) = false := by simp; omega
        simp (config := {maxSteps := 4000000}) only [U_top_TopPages, d, d7, hk, hr, reduceIte, reduceCtorEq, Nat.reduceEqDiff, Nat.reduceAdd, Int.reduceLT, Int.reduceLE, Int.reduceNeg, Int.reduceEq, Nat.reduceLT, Nat.reduceSub, Nat.reduceMul, Nat.reduceBEq, Nat.reduceLeDiff, Int.reduceBEq, Int.reduceBNe, Int.reduceToNat, ne_eq, implies_true, bA]
        have hrm : [[PV.int .i64 1, .int .i64 2, .int .i64 0, .str []], [PV.int .i64 2, .int .i64 3, .int .i64 0, .str []]] = [(⟨1, 2, 0, []⟩ : Mis), ⟨2, 3, 0, []⟩].map rowM := rfl
        rw [hrm]
        refine callM (Plan_i hN [⟨1, 2, 0, []⟩, ⟨2, 3, 0, []⟩] (by simp) (by simp)) ?_
        rintro r o3 ⟨h3, K3⟩
        have hP : [(⟨1, 2, 0, []⟩ : Mis), ⟨2, 3, 0, []⟩].map (shM (K.length : Int)) = [⟨1 + (K.length : Int), 2, 0, []⟩, ⟨2 + (K.length : Int), 3, 0, []⟩] := rfl
        rw [hP] at h3
        have hk3 := K3.1 _ _ _ (.inl (by omega)) (by omega) hk
        have e1 : IntKind.i64.wrap (8 * (b : Int)) = ((8 * b : Nat) : Int) := by rw [wrapI (by omega) (by omega)]; omega
        have e2 : IntKind.i64.wrap (((8 * b : Nat) : Int) + (K.length : Int)) = ((8 * b + K.length : Nat) : Int) := by rw [wrapI (by omega) (by omega)]; omega
        have t1 : (IntKind.i64.wrap ((b : Int) + 1)).tmod 16 = (((b + 1) % 16 : Nat) : Int) := by rw [wrapI (by omega) (by omega)]; exact tmodP (by omega)
        simp (config := {maxSteps := 4000000}) only [U_top_TopPages, e1, e2, t1, hk3, hr, reduceIte, reduceCtorEq, Nat.reduceEqDiff, Nat.reduceAdd, Int.reduceLT, Int.reduceLE, Int.reduceNeg, Int.reduceEq, Nat.reduceLT, Nat.reduceSub, Nat.reduceMul, Nat.reduceBEq, Nat.reduceLeDiff, Int.reduceBEq, Int.reduceBNe, Int.reduceToNat, ne_eq, implies_true, bA]
        refine callM (Program_i (b := b) (k := K.length) h3 (by omega) (bkP_get hb16 K) (by omega) rfl (by simp) (by simp) (by rw [cM_1]; simp) rfl) ?_
        rintro r o4 ⟨h4, K4, w4⟩
        rw [cM_1] at h4 w4
        have w4' : WrapAt o4 41 r := w4
        obtain ⟨tx, htx⟩ : ∃ tx, pageT ⟨1 + (K.length : Int), 2, 0, []⟩ [120] = tx := ⟨_, rfl⟩
        rw [htx] at h4
        have hd2 : decide ((2 : Int) = 2) = true := by simp
        have hd1 : decide ((2 : Int) = 1) = false := by simp
        rw [hd2, hd1] at h4
        have hk4 := K4.1 _ _ _ (.inl (by omega)) (by omega) hk3
        refine callR (code_r w4') ?_
        simp (config := {maxSteps := 4000000}) only [U_top_TopPages, t1, reduceIte, reduceCtorEq, Nat.reduceEqDiff, Nat.reduceAdd, Int.reduceLT, Int.reduceLE, Int.reduceNeg, Int.reduceEq, Nat.reduceLT, Nat.reduceSub, Nat.reduceMul, Nat.reduceBEq, Nat.reduceLeDiff, Int.reduceBEq, Int.reduceBNe, Int.reduceToNat, ne_eq, implies_true, bA]
        obtain ⟨c, hc⟩ : ∃ c, (b + 1) % 16 = c := ⟨_, rfl⟩
        have hc16 : c < 16 := by omega
        have hcb : b ≠ c := by omega
        rw [hc]
        have g4 : ((bkP b K).set b ⟨K.map sealP ++ [tx], 0, true⟩)[c]? = some zeroK := by
          rw [List.getElem?_set_ne hcb, bkP, List.getElem?_set_ne hcb, blK_get hc16]
        refine callM (Erase_i (b := c) h4 (by omega) g4 rfl (by simp [zeroK]) (by simp [zeroK]) (by rw [cM_2]; simp)) ?_
        rintro r o5 ⟨h5, K5, w5⟩
        rw [cM_2] at h5 w5
        have w5' : WrapAt o5 41 r := by simpa using w5
        rw [if_pos rfl] at h5
        have hk5 := K5.1 _ _ _ (.inl (by omega)) (by omega) hk4
        refine callR (code_r w5') ?_
        simp (config := {maxSteps := 4000000}) only [U_top_TopPages, reduceIte, reduceCtorEq, Nat.reduceEqDiff, Nat.reduceAdd, Int.reduceLT, Int.reduceLE, Int.reduceNeg, Int.reduceEq, Nat.reduceLT, Nat.reduceSub, Nat.reduceMul, Nat.reduceBEq, Nat.reduceLeDiff, Int.reduceBEq, Int.reduceBNe, Int.reduceToNat, ne_eq, implies_true, bA]
        obtain ⟨BL, hBL⟩ : ∃ BL, ((bkP b K).set b ⟨K.map sealP ++ [tx], 0, true⟩).set c ⟨zeroK.pg, zeroK.wn, true⟩ = BL := ⟨_, rfl⟩
        rw [hBL] at h5
        have gb : BL[b]? = some ⟨K.map sealP ++ [tx], 0, true⟩ := by
          rw [← hBL, List.getElem?_set_ne (fun e => hcb e.symm), List.getElem?_set_self (by simpa [bkP, blK] using hb16)]
        have gc : BL[c]? = some ⟨zeroK.pg, zeroK.wn, true⟩ := by
          rw [← hBL, List.getElem?_set_self (by simpa [bkP, blK] using hc16)]
        obtain ⟨t, ht⟩ : ∃ t, (b + 2) % 16 = t := ⟨_, rfl⟩
        have ht16 : t < 16 := by omega
        have htb : b ≠ t := by omega
        have htc : c ≠ t := by omega
        have gt : BL[t]? = some zeroK := by
          rw [← hBL, List.getElem?_set_ne htc, List.getElem?_set_ne htb, bkP, List.getElem?_set_ne htb, blK_get ht16]
        refine loopF (fun s : Nat × List AObj => ⟨ofL [(1, .int .i64 (b : Int)), (5, .ref N 0), (7, .osl kk 0 K.length), (11, .int .i64 (c : Int)), (12, .int .i64 (s.1 : Int))], s.2⟩)
          (fun s => s.1 ≤ K.length ∧ NandS s.2 N BL ((K.length : Int) + 1 + 1) [⟨1 + (K.length : Int), 2, 0, []⟩, ⟨2 + (K.length : Int), 3, 0, []⟩] false ∧ s.2[kk]? = some (lP K))
          (fun s => K.length - s.1) (0, o5) ?_ ⟨Nat.zero_le _, h5, hk5⟩ ?_
        · simp (config := {maxSteps := 4000000}) only [U_top_TopPages, reduceIte, reduceCtorEq, Nat.reduceEqDiff, Nat.reduceAdd, Int.reduceLT, Int.reduceLE, Int.reduceNeg, Int.reduceEq, Nat.reduceLT, Nat.reduceSub, Nat.reduceMul, Nat.reduceBEq, Nat.reduceLeDiff, Int.reduceBEq, Int.reduceBNe, Int.reduceToNat, ne_eq, implies_true, bA]
          all_goals rfl
        · clear h5 hk5 h4 hk4 h3 hk3 K5 K4 K3 w5 w4 w5' w4'
          rintro ⟨j, X⟩ ⟨hj, hX, hkX⟩
          simp only at hj hX hkX ⊢
          have w1 : IntKind.i64.wrap ((j : Int) + 1) = ((j + 1 : Nat) : Int) := by rw [wrapI (by omega) (by omega)]; omega
          have e3 : IntKind.i64.wrap (((8 * b : Nat) : Int) + (j : Int)) = ((8 * b + j : Nat) : Int) := by rw [wrapI (by omega) (by omega)]; omega
          by_cases hjl : j < K.length
          · have dj : decide ((j : Int) < (K.length : Int)) = true := by simpa using hjl
            simp (config := {maxSteps := 4000000}) only [U_top_TopPages, dj, e1, e3, hkX, hr, reduceIte, reduceCtorEq, Nat.reduceEqDiff, Nat.reduceAdd, Int.reduceLT, Int.reduceLE, Int.reduceNeg, Int.reduceEq, Nat.reduceLT, Nat.reduceSub, Nat.reduceMul, Nat.reduceBEq, Nat.reduceLeDiff, Int.reduceBEq, Int.reduceBNe, Int.reduceToNat, ne_eq, implies_true, bA]
            refine callM (Read_i (b := b) (k := j) hX gb (by omega) rfl) ?_
            rintro r X2 ⟨r2, rfl, hX2, KX2, hw⟩
            have hw' : WrapAt X2 0 r2 := by
              rwa [if_pos (by simp; omega)] at hw
            have := hw'.zero; subst this
            have hkX2 := KX2.1 _ _ _ (.inl (by omega)) (by omega) hkX
            obtain ⟨q, hq⟩ : ∃ q, K[j] = q := ⟨_, rfl⟩
            have hqm : mayB q = true := hKm q (by rw [← hq]; exact List.getElem_mem hjl)
            have hgd : (K.map sealP ++ [tx]).getD j [] = sealP q := by
              rw [List.getD_eq_getElem?_getD, List.getElem?_append_left (by simpa using hjl), List.getElem?_map, List.getElem?_eq_getElem hjl, hq]; rfl
            simp only [hgd]
            have hlq := write_len q
            rw [writeS_yes hqm] at hlq
            simp only at hlq
            simp (config := {maxSteps := 4000000}) only [U_top_TopPages, reduceIte, reduceCtorEq, Nat.reduceEqDiff, Nat.reduceAdd, Int.reduceLT, Int.reduceLE, Int.reduceNeg, Int.reduceEq, Nat.reduceLT, Nat.reduceSub, Nat.reduceMul, Nat.reduceBEq, Nat.reduceLeDiff, Int.reduceBEq, Int.reduceBNe, Int.reduceToNat, ne_eq, implies_true, bA]
            refine callI (read_spec (sealP q) (by rw [sealP]; omega)) ?_
            have hrq : readS (sealP q) = (q, 0) := read_write q hqm
            rw [hrq]
            have i3 : islO (some (lP K)) 5 kk 0 K.length (.int .i64 (j : Int)) = some (.lref kk j 0 K.length) := by
              rw [islO_at (by simp) (by simpa using hjl)]; simp
            have i4 : ldL (some (lP K)) j 0 K.length 5 = some (rowP q) := by
              rw [ldL_at (by simp) (by simpa using hjl) (by simp [rowP])]; simp [rowP, hq]
            have y0 : ∀ l : List AObj, (X2 ++ l)[X2.length]? = l[0]? := fun l => by rw [List.getElem?_append_right (Nat.le_refl _)]; simp
            have z0 : ∀ (l : List AObj) a, (X2 ++ l).set X2.length a = X2 ++ l.set 0 a := fun l a => by rw [List.set_append_right _ _ (Nat.le_refl _)]; simp
            have yk : ∀ l : List AObj, (X2 ++ l)[kk]? = some (lP K) := fun l => apN hkX2 l
            simp (config := {maxSteps := 4000000}) only [U_top_TopPages, y0, z0, yk, i3, i4, rowP, beq_self_eq_true, bne_self_eq_false, w1, reduceIte, reduceCtorEq, Nat.reduceEqDiff, Nat.reduceAdd, Int.reduceLT, Int.reduceLE, Int.reduceNeg, Int.reduceEq, Nat.reduceLT, Nat.reduceSub, Nat.reduceMul, Nat.reduceBEq, Nat.reduceLeDiff, Int.reduceBEq, Int.reduceBNe, Int.reduceToNat, ne_eq, implies_true, bA]
            refine ⟨(j + 1, _), rfl, ⟨hjl, hX2.app _, yk _⟩, by simp only; omega⟩
          · have dj : decide ((j : Int) < (K.length : Int)) = false := by simpa using hjl
            have t2 : (IntKind.i64.wrap ((b : Int) + 2)).tmod 16 = (t : Int) := by rw [wrapI (by omega) (by omega), ← ht]; exact tmodP (by omega)
            have e4 : IntKind.i64.wrap (8 * (t : Int)) = ((8 * t : Nat) : Int) := by rw [wrapI (by omega) (by omega)]; omega
            obtain ⟨p0, hp0⟩ : ∃ p : Pg, (⟨4, 0, 0, 0, []⟩ : Pg) = p := ⟨_, rfl⟩
            have hpP : PV.agg [.int .i64 4, .int .i64 0, .int .i64 0, .int .i64 0, .str []] = pP p0 := by rw [← hp0]; rfl
            have hm0 : mayB p0 = true := by rw [← hp0]; decide
            have hl0 := write_len p0
            rw [writeS_yes hm0] at hl0
            simp only at hl0
            simp (config := {maxSteps := 4000000}) only [U_top_TopPages, dj, t2, hkX, hr, reduceIte, reduceCtorEq, Nat.reduceEqDiff, Nat.reduceAdd, Int.reduceLT, Int.reduceLE, Int.reduceNeg, Int.reduceEq, Nat.reduceLT, Nat.reduceSub, Nat.reduceMul, Nat.reduceBEq, Nat.reduceLeDiff, Int.reduceBEq, Int.reduceBNe, Int.reduceToNat, ne_eq, implies_true, bA]
            rw [hpP]
            refine callI (write_spec p0 (by rw [← hp0]; decide)) ?_
            rw [writeS_yes hm0]
            simp (config := {maxSteps := 4000000}) only [U_top_TopPages, e4, reduceIte, reduceCtorEq, Nat.reduceEqDiff, Nat.reduceAdd, Int.reduceLT, Int.reduceLE, Int.reduceNeg, Int.reduceEq, Nat.reduceLT, Nat.reduceSub, Nat.reduceMul, Nat.reduceBEq, Nat.reduceLeDiff, Int.reduceBEq, Int.reduceBNe, Int.reduceToNat, ne_eq, implies_true, bA]
            refine callM (Program_i (b := t) (k := 0) hX (by omega) gt (by omega) rfl rfl hl0 (by rw [cM_3 _ _ (by omega)]; simp [zeroM]) rfl) ?_
            rintro r o6 ⟨h6, K6, w6⟩
            rw [cM_3 _ _ (by omega)] at h6 w6
            have := w6.zero; subst this
            rw [pageT_0] at h6
            simp only [zeroM, zeroK, decide_false, List.nil_append, show ((0 : Int) = 2) = False by simp, show ((0 : Int) = 1) = False by simp] at h6
            simp (config := {maxSteps := 4000000}) only [U_top_TopPages, reduceIte, reduceCtorEq, Nat.reduceEqDiff, Nat.reduceAdd, Int.reduceLT, Int.reduceLE, Int.reduceNeg, Int.reduceEq, Nat.reduceLT, Nat.reduceSub, Nat.reduceMul, Nat.reduceBEq, Nat.reduceLeDiff, Int.reduceBEq, Int.reduceBNe, Int.reduceToNat, ne_eq, implies_true, bA]
            refine callM (Erase_i (b := t) h6 (by omega) (List.getElem?_set_self (by have := (List.getElem?_eq_some_iff.1 gt).1; exact this)) rfl (by simp) (by simp) (by rw [cM_3 _ _ (by omega)]; simp [zeroM])) ?_
            rintro r o7 ⟨h7', K7, w7⟩
            rw [cM_3 _ _ (by omega)] at h7' w7
            have w7' : WrapAt o7 0 r := by simpa [zeroM] using w7
            have := w7'.zero; subst this
            simp only [zeroM, show ((0 : Int) = 3) = False by simp, if_false, List.set_set] at h7'
            have gt' : (BL.set t ⟨[], 0 + 1, false⟩)[t]? = some ⟨[], 0 + 1, false⟩ := List.getElem?_set_self (by have := (List.getElem?_eq_some_iff.1 gt).1; exact this)
            simp (config := {maxSteps := 4000000}) only [U_top_TopPages, e4, reduceIte, reduceCtorEq, Nat.reduceEqDiff, Nat.reduceAdd, Int.reduceLT, Int.reduceLE, Int.reduceNeg, Int.reduceEq, Nat.reduceLT, Nat.reduceSub, Nat.reduceMul, Nat.reduceBEq, Nat.reduceLeDiff, Int.reduceBEq, Int.reduceBNe, Int.reduceToNat, ne_eq, implies_true, bA]
            refine callM (Read_i (b := t) (k := 0) h7' gt' (by omega) rfl) ?_
            rintro r o8 ⟨r2, rfl, h8, K8, w8⟩
            have w8' : WrapAt o8 42 r2 := by simpa using w8
            simp (config := {maxSteps := 4000000}) only [U_top_TopPages, reduceIte, reduceCtorEq, Nat.reduceEqDiff, Nat.reduceAdd, Int.reduceLT, Int.reduceLE, Int.reduceNeg, Int.reduceEq, Nat.reduceLT, Nat.reduceSub, Nat.reduceMul, Nat.reduceBEq, Nat.reduceLeDiff, Int.reduceBEq, Int.reduceBNe, Int.reduceToNat, ne_eq, implies_true, bA]
            refine callR (code_r w8') ?_
            simp (config := {maxSteps := 4000000}) only [U_top_TopPages, reduceIte, reduceCtorEq, Nat.reduceEqDiff, Nat.reduceAdd, Int.reduceLT, Int.reduceLE, Int.reduceNeg, Int.reduceEq, Nat.reduceLT, Nat.reduceSub, Nat.reduceMul, Nat.reduceBEq, Nat.reduceLeDiff, Int.reduceBEq, Int.reduceBNe, Int.reduceToNat, ne_eq, implies_true, bA]
            refine callR (Bad_r h8 (b := b) (by rw [List.getElem?_set_ne (fun e => htb e.symm)]; exact gb)) ?_
            simp (config := {maxSteps := 4000000}) only [U_top_TopPages, reduceIte, reduceCtorEq, Nat.reduceEqDiff, Nat.reduceAdd, Int.reduceLT, Int.reduceLE, Int.reduceNeg, Int.reduceEq, Nat.reduceLT, Nat.reduceSub, Nat.reduceMul, Nat.reduceBEq, Nat.reduceLeDiff, Int.reduceBEq, Int.reduceBNe, Int.reduceToNat, ne_eq, implies_true, bA]
            refine callR (Bad_r h8 (b := c) (by rw [List.getElem?_set_ne (fun e => htc e.symm)]; exact gc)) ?_
            simp (config := {maxSteps := 4000000}) only [U_top_TopPages, reduceIte, reduceCtorEq, Nat.reduceEqDiff, Nat.reduceAdd, Int.reduceLT, Int.reduceLE, Int.reduceNeg, Int.reduceEq, Nat.reduceLT, Nat.reduceSub, Nat.reduceMul, Nat.reduceBEq, Nat.reduceLeDiff, Int.reduceBEq, Int.reduceBNe, Int.reduceToNat, ne_eq, implies_true, bA]
            refine callR (Bad_r h8 (b := t) gt') ?_
            simp (config := {maxSteps := 4000000}) only [U_top_TopPages, reduceIte, reduceCtorEq, Nat.reduceEqDiff, Nat.reduceAdd, Int.reduceLT, Int.reduceLE, Int.reduceNeg, Int.reduceEq, Nat.reduceLT, Nat.reduceSub, Nat.reduceMul, Nat.reduceBEq, Nat.reduceLeDiff, Int.reduceBEq, Int.reduceBNe, Int.reduceToNat, ne_eq, implies_true, bA]
    · have d : decide ((i : Int) < (l.length : Int)) = false := by simpa using hlt
      simp (config := {maxSteps := 4000000}) only [U_top_TopPages, d, reduceIte, reduceCtorEq, Nat.reduceEqDiff, Nat.reduceAdd, Int.reduceLT, Int.reduceLE, Int.reduceNeg, Int.reduceEq, Nat.reduceLT, Nat.reduceSub, Nat.reduceMul, Nat.reduceBEq, Nat.reduceLeDiff, Int.reduceBEq, Int.reduceBNe, Int.reduceToNat, ne_eq, implies_true, bA]
      have hrm : [[PV.int .i64 1, .int .i64 2, .int .i64 0, .str []], [PV.int .i64 2, .int .i64 3, .int .i64 0, .str []]] = [(⟨1, 2, 0, []⟩ : Mis), ⟨2, 3, 0, []⟩].map rowM := rfl
      rw [hrm]
      refine callM (Plan_i hN [⟨1, 2, 0, []⟩, ⟨2, 3, 0, []⟩] (by simp) (by simp)) ?_
      rintro r o3 ⟨h3, K3⟩
      have hP : [(⟨1, 2, 0, []⟩ : Mis), ⟨2, 3, 0, []⟩].map (shM (K.length : Int)) = [⟨1 + (K.length : Int), 2, 0, []⟩, ⟨2 + (K.length : Int), 3, 0, []⟩] := rfl
      rw [hP] at h3
      have hk3 := K3.1 _ _ _ (.inl (by omega)) (by omega) hk
      have e1 : IntKind.i64.wrap (8 * (b : Int)) = ((8 * b : Nat) : Int) := by rw [wrapI (by omega) (by omega)]; omega
      have e2 : IntKind.i64.wrap (((8 * b : Nat) : Int) + (K.length : Int)) = ((8 * b + K.length : Nat) : Int) := by rw [wrapI (by omega) (by omega)]; omega
      have t1 : (IntKind.i64.wrap ((b : Int) + 1)).tmod 16 = (((b + 1) % 16 : Nat) : Int) := by rw [wrapI (by omega) (by omega)]; exact tmodP (by omega)
      simp (config := {maxSteps := 4000000}) only [U_top_TopPages, e1, e2, t1, hk3, hr, reduceIte, reduceCtorEq, Nat.reduceEqDiff, Nat.reduceAdd, Int.reduceLT, Int.reduceLE, Int.reduceNeg, Int.reduceEq, Nat.reduceLT, Nat.reduceSub, Nat.reduceMul, Nat.reduceBEq, Nat.reduceLeDiff, Int.reduceBEq, Int.reduceBNe, Int.reduceToNat, ne_eq, implies_true, bA]
      refine callM (Program_i (b := b) (k := K.length) h3 (by omega) (bkP_get hb16 K) (by omega) rfl (by simp) (by simp) (by rw [cM_1]; simp) rfl) ?_
      rintro r o4 ⟨h4, K4, w4⟩
      rw [cM_1] at h4 w4
      have w4' : WrapAt o4 41 r := w4
      obtain ⟨tx, htx⟩ : ∃ tx, pageT ⟨1 + (K.length : Int), 2, 0, []⟩ [120] = tx := ⟨_, rfl⟩
      rw [htx] at h4
      have hd2 : decide ((2 : Int) = 2) = true := by simp
      have hd1 : decide ((2 : Int) = 1) = false := by simp
      rw [hd2, hd1] at h4
      have hk4 := K4.1 _ _ _ (.inl (by omega)) (by omega) hk3
      refine callR (code_r w4') ?_
      simp (config := {maxSteps := 4000000}) only [U_top_TopPages, t1, reduceIte, reduceCtorEq, Nat.reduceEqDiff, Nat.reduceAdd, Int.reduceLT, Int.reduceLE, Int.reduceNeg, Int.reduceEq, Nat.reduceLT, Nat.reduceSub, Nat.reduceMul, Nat.reduceBEq, Nat.reduceLeDiff, Int.reduceBEq, Int.reduceBNe, Int.reduceToNat, ne_eq, implies_true, bA]
      obtain ⟨c, hc⟩ : ∃ c, (b + 1) % 16 = c := ⟨_, rfl⟩
      have hc16 : c < 16 := by omega
      have hcb : b ≠ c := by omega
      rw [hc]
      have g4 : ((bkP b K).set b ⟨K.map sealP ++ [tx], 0, true⟩)[c]? = some zeroK := by
        rw [List.getElem?_set_ne hcb, bkP, List.getElem?_set_ne hcb, blK_get hc16]
      refine callM (Erase_i (b := c) h4 (by omega) g4 rfl (by simp [zeroK]) (by simp [zeroK]) (by rw [cM_2]; simp)) ?_
      rintro r o5 ⟨h5, K5, w5⟩
      rw [cM_2] at h5 w5
      have w5' : WrapAt o5 41 r := by simpa using w5
      rw [if_pos rfl] at h5
      have hk5 := K5.1 _ _ _ (.inl (by omega)) (by omega) hk4
      refine callR (code_r w5') ?_
      simp (config := {maxSteps := 4000000}) only [U_top_TopPages, reduceIte, reduceCtorEq, Nat.reduceEqDiff, Nat.reduceAdd, Int.reduceLT, Int.reduceLE, Int.reduceNeg, Int.reduceEq, Nat.reduceLT, Nat.reduceSub, Nat.reduceMul, Nat.reduceBEq, Nat.reduceLeDiff, Int.reduceBEq, Int.reduceBNe, Int.reduceToNat, ne_eq, implies_true, bA]
      obtain ⟨BL, hBL⟩ : ∃ BL, ((bkP b K).set b ⟨K.map sealP ++ [tx], 0, true⟩).set c ⟨zeroK.pg, zeroK.wn, true⟩ = BL := ⟨_, rfl⟩
      rw [hBL] at h5
      have gb : BL[b]? = some ⟨K.map sealP ++ [tx], 0, true⟩ := by
        rw [← hBL, List.getElem?_set_ne (fun e => hcb e.symm), List.getElem?_set_self (by simpa [bkP, blK] using hb16)]
      have gc : BL[c]? = some ⟨zeroK.pg, zeroK.wn, true⟩ := by
        rw [← hBL, List.getElem?_set_self (by simpa [bkP, blK] using hc16)]
      obtain ⟨t, ht⟩ : ∃ t, (b + 2) % 16 = t := ⟨_, rfl⟩
      have ht16 : t < 16 := by omega
      have htb : b ≠ t := by omega
      have htc : c ≠ t := by omega
      have gt : BL[t]? = some zeroK := by
        rw [← hBL, List.getElem?_set_ne htc, List.getElem?_set_ne htb, bkP, List.getElem?_set_ne htb, blK_get ht16]
      refine loopF (fun s : Nat × List AObj => ⟨ofL [(1, .int .i64 (b : Int)), (5, .ref N 0), (7, .osl kk 0 K.length), (11, .int .i64 (c : Int)), (12, .int .i64 (s.1 : Int))], s.2⟩)
        (fun s => s.1 ≤ K.length ∧ NandS s.2 N BL ((K.length : Int) + 1 + 1) [⟨1 + (K.length : Int), 2, 0, []⟩, ⟨2 + (K.length : Int), 3, 0, []⟩] false ∧ s.2[kk]? = some (lP K))
        (fun s => K.length - s.1) (0, o5) ?_ ⟨Nat.zero_le _, h5, hk5⟩ ?_
      · simp (config := {maxSteps := 4000000}) only [U_top_TopPages, reduceIte, reduceCtorEq, Nat.reduceEqDiff, Nat.reduceAdd, Int.reduceLT, Int.reduceLE, Int.reduceNeg, Int.reduceEq, Nat.reduceLT, Nat.reduceSub, Nat.reduceMul, Nat.reduceBEq, Nat.reduceLeDiff, Int.reduceBEq, Int.reduceBNe, Int.reduceToNat, ne_eq, implies_true, bA]
        all_goals rfl
      · clear h5 hk5 h4 hk4 h3 hk3 K5 K4 K3 w5 w4 w5' w4'
        rintro ⟨j, X⟩ ⟨hj, hX, hkX⟩
        simp only at hj hX hkX ⊢
        have w1 : IntKind.i64.wrap ((j : Int) + 1) = ((j + 1 : Nat) : Int) := by rw [wrapI (by omega) (by omega)]; omega
        have e3 : IntKind.i64.wrap (((8 * b : Nat) : Int) + (j : Int)) = ((8 * b + j : Nat) : Int) := by rw [wrapI (by omega) (by omega)]; omega
        by_cases hjl : j < K.length
        · have dj : decide ((j : Int) < (K.length : Int)) = true := by simpa using hjl
          simp (config := {maxSteps := 4000000}) only [U_top_TopPages, dj, e1, e3, hkX, hr, reduceIte, reduceCtorEq, Nat.reduceEqDiff, Nat.reduceAdd, Int.reduceLT, Int.reduceLE, Int.reduceNeg, Int.reduceEq, Nat.reduceLT, Nat.reduceSub, Nat.reduceMul, Nat.reduceBEq, Nat.reduceLeDiff, Int.reduceBEq, Int.reduceBNe, Int.reduceToNat, ne_eq, implies_true, bA]
          refine callM (Read_i (b := b) (k := j) hX gb (by omega) rfl) ?_
          rintro r X2 ⟨r2, rfl, hX2, KX2, hw⟩
          have hw' : WrapAt X2 0 r2 := by
            rwa [if_pos (by simp; omega)] at hw
          have := hw'.zero; subst this
          have hkX2 := KX2.1 _ _ _ (.inl (by omega)) (by omega) hkX
          obtain ⟨q, hq⟩ : ∃ q, K[j] = q := ⟨_, rfl⟩
          have hqm : mayB q = true := hKm q (by rw [← hq]; exact List.getElem_mem hjl)
          have hgd : (K.map sealP ++ [tx]).getD j [] = sealP q := by
            rw [List.getD_eq_getElem?_getD, List.getElem?_append_left (by simpa using hjl), List.getElem?_map, List.getElem?_eq_getElem hjl, hq]; rfl
          simp only [hgd]
          have hlq := write_len q
          rw [writeS_yes hqm] at hlq
          simp only at hlq
          simp (config := {maxSteps := 4000000}) only [U_top_TopPages, reduceIte, reduceCtorEq, Nat.reduceEqDiff, Nat.reduceAdd, Int.reduceLT, Int.reduceLE, Int.reduceNeg, Int.reduceEq, Nat.reduceLT, Nat.reduceSub, Nat.reduceMul, Nat.reduceBEq, Nat.reduceLeDiff, Int.reduceBEq, Int.reduceBNe, Int.reduceToNat, ne_eq, implies_true, bA]
          refine callI (read_spec (sealP q) (by rw [sealP]; omega)) ?_
          have hrq : readS (sealP q) = (q, 0) := read_write q hqm
          rw [hrq]
          have i3 : islO (some (lP K)) 5 kk 0 K.length (.int .i64 (j : Int)) = some (.lref kk j 0 K.length) := by
            rw [islO_at (by simp) (by simpa using hjl)]; simp
          have i4 : ldL (some (lP K)) j 0 K.length 5 = some (rowP q) := by
            rw [ldL_at (by simp) (by simpa using hjl) (by simp [rowP])]; simp [rowP, hq]
          have y0 : ∀ l : List AObj, (X2 ++ l)[X2.length]? = l[0]? := fun l => by rw [List.getElem?_append_right (Nat.le_refl _)]; simp
          have z0 : ∀ (l : List AObj) a, (X2 ++ l).set X2.length a = X2 ++ l.set 0 a := fun l a => by rw [List.set_append_right _ _ (Nat.le_refl _)]; simp
          have yk : ∀ l : List AObj, (X2 ++ l)[kk]? = some (lP K) := fun l => apN hkX2 l
          simp (config := {maxSteps := 4000000}) only [U_top_TopPages, y0, z0, yk, i3, i4, rowP, beq_self_eq_true, bne_self_eq_false, w1, reduceIte, reduceCtorEq, Nat.reduceEqDiff, Nat.reduceAdd, Int.reduceLT, Int.reduceLE, Int.reduceNeg, Int.reduceEq, Nat.reduceLT, Nat.reduceSub, Nat.reduceMul, Nat.reduceBEq, Nat.reduceLeDiff, Int.reduceBEq, Int.reduceBNe, Int.reduceToNat, ne_eq, implies_true, bA]
          refine ⟨(j + 1, _), rfl, ⟨hjl, hX2.app _, yk _⟩, by simp only; omega⟩
        · have dj : decide ((j : Int) < (K.length : Int)) = false := by simpa using hjl
          have t2 : (IntKind.i64.wrap ((b : Int) + 2)).tmod 16 = (t : Int) := by rw [wrapI (by omega) (by omega), ← ht]; exact tmodP (by omega)
          have e4 : IntKind.i64.wrap (8 * (t : Int)) = ((8 * t : Nat) : Int) := by rw [wrapI (by omega) (by omega)]; omega
          obtain ⟨p0, hp0⟩ : ∃ p : Pg, (⟨4, 0, 0, 0, []⟩ : Pg) = p := ⟨_, rfl⟩
          have hpP : PV.agg [.int .i64 4, .int .i64 0, .int .i64 0, .int .i64 0, .str []] = pP p0 := by rw [← hp0]; rfl
          have hm0 : mayB p0 = true := by rw [← hp0]; decide
          have hl0 := write_len p0
          rw [writeS_yes hm0] at hl0
          simp only at hl0
          simp (config := {maxSteps := 4000000}) only [U_top_TopPages, dj, t2, hkX, hr, reduceIte, reduceCtorEq, Nat.reduceEqDiff, Nat.reduceAdd, Int.reduceLT, Int.reduceLE, Int.reduceNeg, Int.reduceEq, Nat.reduceLT, Nat.reduceSub, Nat.reduceMul, Nat.reduceBEq, Nat.reduceLeDiff, Int.reduceBEq, Int.reduceBNe, Int.reduceToNat, ne_eq, implies_true, bA]
          rw [hpP]
          refine callI (write_spec p0 (by rw [← hp0]; decide)) ?_
          rw [writeS_yes hm0]
          simp (config := {maxSteps := 4000000}) only [U_top_TopPages, e4, reduceIte, reduceCtorEq, Nat.reduceEqDiff, Nat.reduceAdd, Int.reduceLT, Int.reduceLE, Int.reduceNeg, Int.reduceEq, Nat.reduceLT, Nat.reduceSub, Nat.reduceMul, Nat.reduceBEq, Nat.reduceLeDiff, Int.reduceBEq, Int.reduceBNe, Int.reduceToNat, ne_eq, implies_true, bA]
          refine callM (Program_i (b := t) (k := 0) hX (by omega) gt (by omega) rfl rfl hl0 (by rw [cM_3 _ _ (by omega)]; simp [zeroM]) rfl) ?_
          rintro r o6 ⟨h6, K6, w6⟩
          rw [cM_3 _ _ (by omega)] at h6 w6
          have := w6.zero; subst this
          rw [pageT_0] at h6
          simp only [zeroM, zeroK, decide_false, List.nil_append, show ((0 : Int) = 2) = False by simp, show ((0 : Int) = 1) = False by simp] at h6
          simp (config := {maxSteps := 4000000}) only [U_top_TopPages, reduceIte, reduceCtorEq, Nat.reduceEqDiff, Nat.reduceAdd, Int.reduceLT, Int.reduceLE, Int.reduceNeg, Int.reduceEq, Nat.reduceLT, Nat.reduceSub, Nat.reduceMul, Nat.reduceBEq, Nat.reduceLeDiff, Int.reduceBEq, Int.reduceBNe, Int.reduceToNat, ne_eq, implies_true, bA]
          refine callM (Erase_i (b := t) h6 (by omega) (List.getElem?_set_self (by have := (List.getElem?_eq_some_iff.1 gt).1; exact this)) rfl (by simp) (by simp) (by rw [cM_3 _ _ (by omega)]; simp [zeroM])) ?_
          rintro r o7 ⟨h7', K7, w7⟩
          rw [cM_3 _ _ (by omega)] at h7' w7
          have w7' : WrapAt o7 0 r := by simpa [zeroM] using w7
          have := w7'.zero; subst this
          simp only [zeroM, show ((0 : Int) = 3) = False by simp, if_false, List.set_set] at h7'
          have gt' : (BL.set t ⟨[], 0 + 1, false⟩)[t]? = some ⟨[], 0 + 1, false⟩ := List.getElem?_set_self (by have := (List.getElem?_eq_some_iff.1 gt).1; exact this)
          simp (config := {maxSteps := 4000000}) only [U_top_TopPages, e4, reduceIte, reduceCtorEq, Nat.reduceEqDiff, Nat.reduceAdd, Int.reduceLT, Int.reduceLE, Int.reduceNeg, Int.reduceEq, Nat.reduceLT, Nat.reduceSub, Nat.reduceMul, Nat.reduceBEq, Nat.reduceLeDiff, Int.reduceBEq, Int.reduceBNe, Int.reduceToNat, ne_eq, implies_true, bA]
          refine callM (Read_i (b := t) (k := 0) h7' gt' (by omega) rfl) ?_
          rintro r o8 ⟨r2, rfl, h8, K8, w8⟩
          have w8' : WrapAt o8 42 r2 := by simpa using w8
          simp (config := {maxSteps := 4000000}) only [U_top_TopPages, reduceIte, reduceCtorEq, Nat.reduceEqDiff, Nat.reduceAdd, Int.reduceLT, Int.reduceLE, Int.reduceNeg, Int.reduceEq, Nat.reduceLT, Nat.reduceSub, Nat.reduceMul, Nat.reduceBEq, Nat.reduceLeDiff, Int.reduceBEq, Int.reduceBNe, Int.reduceToNat, ne_eq, implies_true, bA]
          refine callR (code_r w8') ?_
          simp (config := {maxSteps := 4000000}) only [U_top_TopPages, reduceIte, reduceCtorEq, Nat.reduceEqDiff, Nat.reduceAdd, Int.reduceLT, Int.reduceLE, Int.reduceNeg, Int.reduceEq, Nat.reduceLT, Nat.reduceSub, Nat.reduceMul, Nat.reduceBEq, Nat.reduceLeDiff, Int.reduceBEq, Int.reduceBNe, Int.reduceToNat, ne_eq, implies_true, bA]
          refine callR (Bad_r h8 (b := b) (by rw [List.getElem?_set_ne (fun e => htb e.symm)]; exact gb)) ?_
          simp (config := {maxSteps := 4000000}) only [U_top_TopPages, reduceIte, reduceCtorEq, Nat.reduceEqDiff, Nat.reduceAdd, Int.reduceLT, Int.reduceLE, Int.reduceNeg, Int.reduceEq, Nat.reduceLT, Nat.reduceSub, Nat.reduceMul, Nat.reduceBEq, Nat.reduceLeDiff, Int.reduceBEq, Int.reduceBNe, Int.reduceToNat, ne_eq, implies_true, bA]
          refine callR (Bad_r h8 (b := c) (by rw [List.getElem?_set_ne (fun e => htc e.symm)]; exact gc)) ?_
          simp (config := {maxSteps := 4000000}) only [U_top_TopPages, reduceIte, reduceCtorEq, Nat.reduceEqDiff, Nat.reduceAdd, Int.reduceLT, Int.reduceLE, Int.reduceNeg, Int.reduceEq, Nat.reduceLT, Nat.reduceSub, Nat.reduceMul, Nat.reduceBEq, Nat.reduceLeDiff, Int.reduceBEq, Int.reduceBNe, Int.reduceToNat, ne_eq, implies_true, bA]
          refine callR (Bad_r h8 (b := t) gt') ?_
          simp (config := {maxSteps := 4000000}) only [U_top_TopPages, reduceIte, reduceCtorEq, Nat.reduceEqDiff, Nat.reduceAdd, Int.reduceLT, Int.reduceLE, Int.reduceNeg, Int.reduceEq, Nat.reduceLT, Nat.reduceSub, Nat.reduceMul, Nat.reduceBEq, Nat.reduceLeDiff, Int.reduceBEq, Int.reduceBNe, Int.reduceToNat, ne_eq, implies_true, bA]

end Go.Proofs.YtdgpiobmncohjaaDoor.Aw
