/-
  The newest root: what is found in an array that has root pages, and one behind them that is torn. Plain Lean.; The array's example, and what is found in it. Written by a program (mkfine.py).; The newest root, as a contract: the statement returns true.
-/
import Derived.Test.YtdgpiobmncohjaaGreatDoorStb
import Derived.Test.YtdgpiobmncohjaaGreatDoorCodeN
set_option linter.unusedSimpArgs false
set_option linter.unusedVariables false
namespace Go.Proofs.YtdgpiobmncohjaaGreatDoor.Aw
open Go.RowKit

/-- The record of a generation; its page. -/
def spN (l : List Int) (j : Nat) : Rt.Sp := ⟨(j : Int) + 1, l.getD j 0, -1, 0⟩
def recN (l : List Int) (j : Nat) : List UInt8 := Rt.recS ((j : Int) + 1) [spN l j]
def pgN (l : List Int) (j : Nat) : Pg := ⟨4, 0, 0, j, recN l j⟩
def TT (l : List Int) (g : Nat) : List (List UInt8) := (List.range g).map fun j => sealP (pgN l j)
theorem TT_len (l : List Int) (g : Nat) : (TT l g).length = g := by simp [TT]
theorem TT_succ (l : List Int) (g : Nat) : TT l (g + 1) = TT l g ++ [sealP (pgN l g)] := by simp [TT, List.range_succ]
theorem getD_in {l : List Int} (h : ∀ x ∈ l, 0 ≤ x ∧ x ≤ 65535) (j : Nat) : 0 ≤ l.getD j 0 ∧ l.getD j 0 ≤ 65535 := by
  rcases Nat.lt_or_ge j l.length with h1 | h1
  · rw [List.getD_eq_getElem?_getD, List.getElem?_eq_getElem h1]
    exact h _ (List.getElem_mem h1)
  · rw [List.getD_eq_getElem?_getD, List.getElem?_eq_none h1]; simp
theorem may_rec {l : List Int} (h : ∀ x ∈ l, 0 ≤ x ∧ x ≤ 65535) {j : Nat} (hj : j ≤ 100) : Rt.mayR ((j : Int) + 1) [spN l j] = true := by
  have h1 := getD_in h j
  refine Rt.mayR_iff.2 ⟨⟨by omega, by omega⟩, by simp, ?_⟩
  refine lkB_at.2 ⟨fun i hi => ?_, fun i hi => by simp at hi⟩
  have : i = 0 := by simpa using hi
  subst this
  simp only [List.getElem_cons_zero]
  exact Rt.spaceB_iff.2 ⟨⟨by simp only [spN]; omega, by simp only [spN]; omega⟩, ⟨by simp only [spN]; omega, by simp only [spN]; omega⟩, ⟨by simp [spN], by simp [spN]⟩, .inl ⟨rfl, rfl⟩⟩
theorem recN_len (l : List Int) (j : Nat) : (recN l j).length = 15 := by rw [recN, Rt.recS_len]; rfl
theorem may_pg (l : List Int) {j : Nat} (hj : j ≤ 100) : mayB (pgN l j) = true :=
  mayB_iff.2 ⟨by simp [pgN], by simp [pgN], by simp [pgN], by simp [pgN], by simp [pgN], by simp [pgN], by simp only [pgN]; omega, by simp only [pgN]; omega, by simp only [pgN, recN_len]; omega⟩
theorem read_pg (l : List Int) {j : Nat} (hj : j ≤ 100) : readS (sealP (pgN l j)) = (pgN l j, 0) := read_write _ (may_pg l hj)
theorem read_rec {l : List Int} (h : ∀ x ∈ l, 0 ≤ x ∧ x ≤ 65535) {j : Nat} (hj : j ≤ 100) : Rt.readR (recN l j) = ((j : Int) + 1, [spN l j], 0) := Rt.rread_write (may_rec h hj)
/-- A text that is too short or too long for a page is none. -/
theorem read_len_bad {s : List UInt8} (h : s.length < 20 ∨ 120 < s.length) : (readS s).2 ≠ 0 := by
  intro h0
  obtain ⟨h1, h2⟩ := write_read h0
  rw [writeS_yes h1] at h2
  have h3 := congrArg List.length (Prod.mk.inj h2).1
  rw [sealP, seal_len, bodyS_len] at h3
  have h4 := (mayB_iff.1 h1).2.2.2.2.2.2.2.2
  omega
/-- What is left of a page that is torn cannot be read. -/
theorem torn_bad {m : Mis} {t : List UInt8} (h1 : m.jk = [] → m.kp ≤ 18) (h2 : m.jk ≠ [] → m.kp = 0) (h3 : (readS m.jk).2 ≠ 0) : (readS (spoiltS m t)).2 ≠ 0 := by
  by_cases hj : m.jk = []
  · have := h1 hj
    refine read_len_bad (.inl ?_)
    simp only [spoiltS, hj, List.append_nil, List.length_take]
    omega
  · have h0 := h2 hj
    have he : spoiltS m t = m.jk.take 128 := by
      have hz : (min m.kp (t.length : Int)).toNat = 0 := by omega
      rw [spoiltS, hz]; rfl
    rw [he]
    by_cases hl : m.jk.length ≤ 128
    · rw [List.take_of_length_le hl]; exact h3
    · refine read_len_bad (.inr ?_)
      rw [List.length_take]; omega
theorem tx_TT (l : List Int) {g j : Nat} (hj : j < g) (t : List UInt8) : tx (TT l g ++ [t]) j = sealP (pgN l j) := by
  rw [tx, List.getD_eq_getElem?_getD, List.getElem?_append_left (by rw [TT_len]; exact hj)]
  simp [TT, hj]
theorem tx_torn (l : List Int) (g : Nat) (t : List UInt8) : tx (TT l g ++ [t]) g = t := by
  rw [tx, List.getD_eq_getElem?_getD, List.getElem?_append_right (by rw [TT_len]; omega)]
  simp [TT_len]
def fdN (l : List Int) (j : Nat) : Rt.Fd := fdOf j (pgN l j)
theorem found_eq (l : List Int) {g : Nat} (hg : g ≤ 100) {t : List UInt8} (ht : (readS t).2 ≠ 0) : ∀ n, foundN (TT l g ++ [t]) n = (List.range (min n g)).map (fdN l)
  | 0 => by simp [foundN]
  | n + 1 => by
    rw [foundN, found_eq l hg ht n]
    have hlen : (TT l g ++ [t]).length = g + 1 := by simp [TT_len]
    by_cases hn : n < g
    · have e := tx_TT l hn t
      have ok : okF (TT l g ++ [t]) n := ⟨by omega, by rw [e, read_pg l (by omega)]⟩
      rw [if_pos ok, e, read_pg l (by omega), Nat.min_eq_left (by omega), Nat.min_eq_left (by omega), List.range_succ, List.map_append]
      rfl
    · have nok : ¬ okF (TT l g ++ [t]) n := by
        rintro ⟨h1, h2⟩
        have : n = g := by omega
        subst this
        rw [tx_torn] at h2
        exact ht h2
      rw [if_neg nok, Nat.min_eq_right (by omega), Nat.min_eq_right (by omega)]
theorem found_nil : ∀ n, foundN [] n = []
  | 0 => rfl
  | n + 1 => by rw [foundN, if_neg (fun h => by have := h.1; simp at this), found_nil n]
theorem tx_len_TT (l : List Int) {g : Nat} (hg : g ≤ 100) {t : List UInt8} (ht : t.length ≤ 1000000) (n : Nat) : (tx (TT l g ++ [t]) n).length ≤ 1000000 := by
  rcases Nat.lt_trichotomy n g with h | h | h
  · rw [tx_TT l h]; have := sealP_len (may_pg l (j := n) (by omega)); omega
  · subst h; rw [tx_torn]; exact ht
  · rw [tx, List.getD_eq_getElem?_getD, List.getElem?_eq_none (by simp [TT_len]; omega)]; simp
theorem isR_fd {l : List Int} (h : ∀ x ∈ l, 0 ≤ x ∧ x ≤ 65535) {j : Nat} (hj : j ≤ 100) : Rt.isR (fdN l j) = true := by
  have := read_rec h hj
  simp [Rt.isR, fdN, fdOf, pgN, this]
theorem genF_fd {l : List Int} (h : ∀ x ∈ l, 0 ≤ x ∧ x ≤ 65535) {j : Nat} (hj : j ≤ 100) : Rt.genF (fdN l j) = (j : Int) + 1 := by
  have := read_rec h hj
  simp [Rt.genF, fdN, fdOf, pgN, this]
theorem filt_all {l : List Int} (h : ∀ x ∈ l, 0 ≤ x ∧ x ≤ 65535) {g : Nat} (hg : g ≤ 100) : ((List.range g).map (fdN l)).filter Rt.isR = (List.range g).map (fdN l) := by
  rw [List.filter_eq_self]
  intro x hx
  obtain ⟨j, hj, rfl⟩ := List.mem_map.1 hx
  exact isR_fd h (by have := List.mem_range.1 hj; omega)
/-- The first of the sorted ones is the newest. -/
theorem first_new {l : List Int} (h : ∀ x ∈ l, 0 ≤ x ∧ x ≤ 65535) {g : Nat} (hg : g ≤ 100) (h0 : 0 < g) {Z : List Rt.Fd} (sZ : Rt.Srt Rt.ltF Z) (pZ : Z.Perm ((List.range g).map (fdN l))) (hl : 0 < Z.length) : Z[0] = fdN l (g - 1) := by
  cases Z with
  | nil => cases hl
  | cons z A =>
    have hm : fdN l (g - 1) ∈ z :: A := pZ.mem_iff.2 (List.mem_map.2 ⟨g - 1, List.mem_range.2 (by omega), rfl⟩)
    have hz := Rt.srt_head Rt.ltF_ord sZ _ hm
    obtain ⟨j, hj, rfl⟩ := List.mem_map.1 (pZ.mem_iff.1 (List.mem_cons_self (a := z) (l := A)))
    have hj' := List.mem_range.1 hj
    rw [Rt.ltF_no, genF_fd h (by omega), genF_fd h (by omega)] at hz
    have : j = g - 1 := by omega
    subst this; rfl

end Go.Proofs.YtdgpiobmncohjaaGreatDoor.Aw
namespace Go.Proofs.YtdgpiobmncohjaaGreatDoor.Aw
open Go.RowKit

theorem writeS_yesF {p : Pg} (h : mayB p = true) : writeS p = (sealS (bodyS p), 0) := by rw [writeS, if_pos h]
theorem bl0 : blK[0]? = some zeroK := by rfl
theorem cM_nil (k : Int) : cM [] k = zeroM := rfl
theorem pageT_0 (s : List UInt8) : pageT zeroM s = s := by simp [pageT, zeroM]
theorem fine_spec : PCall Tryz.prog 7 [] (.bool true) := by
  refine pcall_dr Tryz.func7 comp_top_fine ?_
  obtain ⟨p, hp⟩ : ∃ p : Pg, (⟨1, 0, 3, 0, [97]⟩ : Pg) = p := ⟨_, rfl⟩
  have hpP : PV.agg [.int .i64 1, .int .i64 0, .int .i64 3, .int .i64 0, .str [97]] = pP p := by rw [← hp]; rfl
  have hm : mayB p = true := by rw [← hp]; decide
  have hw := writeS_yesF hm
  have hr := read_write p hm
  have hl := write_len p
  rw [hw] at hl
  simp only at hl
  obtain ⟨S, hS⟩ : ∃ S, sealS (bodyS p) = S := ⟨_, rfl⟩
  rw [hS] at hw hr hl
  simp (config := {maxSteps := 4000000}) only [U_top_fine, reduceIte, reduceCtorEq, Nat.reduceEqDiff, Nat.reduceAdd, Int.reduceLT, Int.reduceLE, Int.reduceNeg, Int.reduceEq, Nat.reduceLT, Nat.reduceSub, Nat.reduceMul, Nat.reduceBEq, Nat.reduceLeDiff, Int.reduceBEq, Int.reduceBNe, Int.reduceToNat, ne_eq, implies_true, bA]
  refine callI plain_spec ?_
  simp (config := {maxSteps := 4000000}) only [U_top_fine, reduceIte, reduceCtorEq, Nat.reduceEqDiff, Nat.reduceAdd, Int.reduceLT, Int.reduceLE, Int.reduceNeg, Int.reduceEq, Nat.reduceLT, Nat.reduceSub, Nat.reduceMul, Nat.reduceBEq, Nat.reduceLeDiff, Int.reduceBEq, Int.reduceBNe, Int.reduceToNat, ne_eq, implies_true, bA]
  refine callM (New_i []) ?_
  rintro r o1 ⟨N, rfl, h1, _⟩
  simp (config := {maxSteps := 4000000}) only [U_top_fine, reduceIte, reduceCtorEq, Nat.reduceEqDiff, Nat.reduceAdd, Int.reduceLT, Int.reduceLE, Int.reduceNeg, Int.reduceEq, Nat.reduceLT, Nat.reduceSub, Nat.reduceMul, Nat.reduceBEq, Nat.reduceLeDiff, Int.reduceBEq, Int.reduceBNe, Int.reduceToNat, ne_eq, implies_true, bA]
  rw [hpP]
  refine callI (write_spec p (by rw [← hp]; decide)) ?_
  rw [hw]
  simp (config := {maxSteps := 4000000}) only [U_top_fine, reduceIte, reduceCtorEq, Nat.reduceEqDiff, Nat.reduceAdd, Int.reduceLT, Int.reduceLE, Int.reduceNeg, Int.reduceEq, Nat.reduceLT, Nat.reduceSub, Nat.reduceMul, Nat.reduceBEq, Nat.reduceLeDiff, Int.reduceBEq, Int.reduceBNe, Int.reduceToNat, ne_eq, implies_true, bA]
  refine callM (Program_i (b := 0) (k := 0) h1 (by omega) bl0 (by omega) rfl rfl (by omega) (by rw [cM_nil]; simp [zeroM]) rfl) ?_
  rintro r o2 ⟨h2, _, hw2⟩
  rw [cM_nil] at h2 hw2
  have := hw2.zero; subst this
  rw [pageT_0] at h2
  simp only [zeroM, zeroK, decide_false, List.nil_append, show ((0 : Int) = 2) = False by simp, show ((0 : Int) = 1) = False by simp] at h2
  simp (config := {maxSteps := 4000000}) only [U_top_fine, reduceIte, reduceCtorEq, Nat.reduceEqDiff, Nat.reduceAdd, Int.reduceLT, Int.reduceLE, Int.reduceNeg, Int.reduceEq, Nat.reduceLT, Nat.reduceSub, Nat.reduceMul, Nat.reduceBEq, Nat.reduceLeDiff, Int.reduceBEq, Int.reduceBNe, Int.reduceToNat, ne_eq, implies_true, bA]
  refine callM (Read_i (b := 0) (k := 0) h2 (bk := ⟨[S], 0, false⟩) (by rfl) (by omega) rfl) ?_
  rintro r o3 ⟨r2, rfl, h3, _, hw3⟩
  have hw3' : WrapAt o3 0 r2 := by simpa using hw3
  have := hw3'.zero; subst this
  simp (config := {maxSteps := 4000000}) only [U_top_fine, reduceIte, reduceCtorEq, Nat.reduceEqDiff, Nat.reduceAdd, Int.reduceLT, Int.reduceLE, Int.reduceNeg, Int.reduceEq, Nat.reduceLT, Nat.reduceSub, Nat.reduceMul, Nat.reduceBEq, Nat.reduceLeDiff, Int.reduceBEq, Int.reduceBNe, Int.reduceToNat, ne_eq, implies_true, bA]
  refine callI (read_spec S (by omega)) ?_
  rw [hr, ← hp]
  have g0 : ∀ l : List AObj, (o3 ++ l)[o3.length]? = l[0]? := fun l => by rw [List.getElem?_append_right (Nat.le_refl _)]; simp
  have z0 : ∀ (l : List AObj) a, (o3 ++ l).set o3.length a = o3 ++ l.set 0 a := fun l a => by rw [List.set_append_right _ _ (Nat.le_refl _)]; simp
  simp (config := {maxSteps := 4000000}) only [U_top_fine, rowP, g0, z0, beq_self_eq_true, reduceIte, reduceCtorEq, Nat.reduceEqDiff, Nat.reduceAdd, Int.reduceLT, Int.reduceLE, Int.reduceNeg, Int.reduceEq, Nat.reduceLT, Nat.reduceSub, Nat.reduceMul, Nat.reduceBEq, Nat.reduceLeDiff, Int.reduceBEq, Int.reduceBNe, Int.reduceToNat, ne_eq, implies_true, bA]


theorem Scan_i {ob : List AObj} {N : Nat} {ops : Int} {P : List Mis} {T : List (List UInt8)} {s : Nat} {pv vz : PV} {opn sq : Int} (h : NandF ob N T ops P false) (hT : ∀ n, (tx T n).length ≤ 1000000) (hs : ob[s]? = some (.box (cellsO N pv vz opn sq))) :
    ICall Tryz.prog 14 [.ref s 0] ob fun r ob' => ∃ m, r = .tup [.osl m 0 (foundN T 128).length, .nili] ∧ ob'[m]? = some (Rt.lF (foundN T 128)) ∧ NandF ob' N T ops P false ∧ KeepL ob ob' := by
  refine icall_dr Tryz.func14 comp_store_Store_Scan ?_
  simp (config := {maxSteps := 4000000}) only [U_store_Store_Scan, hs, cellsO, reduceIte, reduceCtorEq, Nat.reduceEqDiff, Nat.reduceAdd, Int.reduceLT, Int.reduceLE, Int.reduceNeg, Int.reduceEq, Nat.reduceLT, Nat.reduceSub, Nat.reduceMul, Nat.reduceBEq, Nat.reduceLeDiff, Int.reduceBEq, Int.reduceBNe, Int.reduceToNat, ne_eq, implies_true, bA]
  refine callR (fDown_r h) ?_
  simp (config := {maxSteps := 4000000}) only [U_store_Store_Scan, reduceIte, reduceCtorEq, Nat.reduceEqDiff, Nat.reduceAdd, Int.reduceLT, Int.reduceLE, Int.reduceNeg, Int.reduceEq, Nat.reduceLT, Nat.reduceSub, Nat.reduceMul, Nat.reduceBEq, Nat.reduceLeDiff, Int.reduceBEq, Int.reduceBNe, Int.reduceToNat, ne_eq, implies_true, bA]
  refine callM (scan_i h hT hs) ?_
  rintro r O ⟨m, rfl, h1, h2, h3⟩
  simp (config := {maxSteps := 4000000}) only [U_store_Store_Scan, reduceIte, reduceCtorEq, Nat.reduceEqDiff, Nat.reduceAdd, Int.reduceLT, Int.reduceLE, Int.reduceNeg, Int.reduceEq, Nat.reduceLT, Nat.reduceSub, Nat.reduceMul, Nat.reduceBEq, Nat.reduceLeDiff, Int.reduceBEq, Int.reduceBNe, Int.reduceToNat, ne_eq, implies_true, bA]
  exact ⟨_, rfl, m, rfl, h1, h2, h3⟩

end Go.Proofs.YtdgpiobmncohjaaGreatDoor.Aw
namespace Go.Proofs.YtdgpiobmncohjaaGreatDoor.Aw
open Go.RowKit

abbrev rowU (x : Int) : List PV := [.int .u16 x]
/-- What the power's loss finds: the mishap's kind and how much is kept. -/
structure MisOk (m : Mis) : Prop where
  at_ : m.at_ = 1
  kd : m.kd = 1
  k1 : m.jk = [] → m.kp ≤ 18
  k2 : m.jk ≠ [] → m.kp = 0
  len : m.jk.length ≤ 200
  bad : (readS m.jk).2 ≠ 0
theorem tail2 {l : List Int} {m : Mis} {f : Nat → PV} {X : List AObj} {N s Sg g : Nat} (hb : ∀ x ∈ l, 0 ≤ x ∧ x ≤ 65535) (hg : g ≤ 20) (hgl : g ≤ l.length) (hm : MisOk m)
    (hX : NandF X N (TT l g) (g : Int) [] false) (sX : StS X s Sg N (sttP g) (opnP g) (g : Int)) (mX : X[0]? = some (.box (rowM m)))
    (f0 : f 0 = .slc (l.map rowU)) (f3 : f 3 = .ref 0 0) (f5 : f 5 = .ref N 0) (f9 : f 9 = .ref s 0) (f10 : f 10 = .int .i64 (g : Int)) :
    AWP Tryz.prog 0 e0_82 (AFin [ARV.t 4] (.bool true)) ⟨f, X⟩ := by
  simp (config := {maxSteps := 4000000}) only [U_top_TopNewest, f0, f3, f5, f9, f10, mX, rowM, reduceIte, reduceCtorEq, Nat.reduceEqDiff, Nat.reduceAdd, Int.reduceLT, Int.reduceLE, Int.reduceNeg, Int.reduceEq, Nat.reduceLT, Nat.reduceSub, Nat.reduceMul, Nat.reduceBEq, Nat.reduceLeDiff, Int.reduceBEq, Int.reduceBNe, Int.reduceToNat, ne_eq, implies_true, bA]
  have hrm : [[PV.int .i64 m.at_, .int .i64 m.kd, .int .i64 m.kp, .str m.jk]] = [m].map rowM := rfl
  rw [hrm]
  refine callM (Plan_i hX [m] (by simp) (fun x hx => by simp at hx; rw [hx, hm.at_]; omega)) ?_
  rintro r O3 ⟨h3, K3⟩
  have s3 := sX.keep K3
  obtain ⟨m', hm'⟩ : ∃ m' : Mis, shM (g : Int) m = m' := ⟨_, rfl⟩
  have hP : [m].map (shM (g : Int)) = [m'] := by rw [← hm']; rfl
  rw [hP] at h3
  have q1 : m'.at_ = 1 + (g : Int) := by rw [← hm']; simp [shM, hm.at_]
  have q2 : m'.kd = 1 := by rw [← hm']; exact hm.kd
  have q3 : m'.kp = m.kp := by rw [← hm']; rfl
  have q4 : m'.jk = m.jk := by rw [← hm']; rfl
  have hcM : cM [m'] ((g : Int) + 1) = m' := by
    have : (m'.at_ == (g : Int) + 1) = true := by rw [q1]; simp; omega
    simp [cM, List.find?, this]
  have wg : IntKind.i64.wrap ((g : Int) + 1) = ((g + 1 : Nat) : Int) := by rw [wrapI (by omega) (by omega)]; omega
  have hmr : Rt.mayR ((g + 1 : Nat) : Int) [] = true := Rt.mayR_iff.2 ⟨⟨by omega, by omega⟩, by simp, lkB_at.2 ⟨fun i hi => by simp at hi, fun i hi => by simp at hi⟩⟩
  simp (config := {maxSteps := 4000000}) only [U_top_TopNewest, f10, wg, reduceIte, reduceCtorEq, Nat.reduceEqDiff, Nat.reduceAdd, Int.reduceLT, Int.reduceLE, Int.reduceNeg, Int.reduceEq, Nat.reduceLT, Nat.reduceSub, Nat.reduceMul, Nat.reduceBEq, Nat.reduceLeDiff, Int.reduceBEq, Int.reduceBNe, Int.reduceToNat, ne_eq, implies_true, bA]
  refine callI (Rt.write_spec ((g + 1 : Nat) : Int) [] (by simp)) ?_
  rw [show Rt.writeR ((g + 1 : Nat) : Int) [] = (Rt.recS ((g + 1 : Nat) : Int) [], 0) by rw [Rt.writeR, if_pos hmr]]
  obtain ⟨R, hR⟩ : ∃ R, Rt.recS ((g + 1 : Nat) : Int) [] = R := ⟨_, rfl⟩
  have hRl : R.length ≤ 6 := by rw [← hR, Rt.recS_len]; simp
  rw [hR]
  obtain ⟨p, hp⟩ : ∃ p : Pg, (⟨4, 0, 0, 0, R⟩ : Pg) = p := ⟨_, rfl⟩
  have hpP : PV.agg [.int .i64 4, .int .i64 0, .int .i64 0, .int .i64 0, .str R] = pP p := by rw [← hp]; rfl
  have hmp : mayB (pSeq p 0) = true := by
    rw [← hp]
    exact mayB_iff.2 ⟨by simp [pSeq], by simp [pSeq], by simp [pSeq], by simp [pSeq], by simp [pSeq], by simp [pSeq], by simp [pSeq], by simp [pSeq], by simp only [pSeq]; omega⟩
  simp (config := {maxSteps := 4000000}) only [U_top_TopNewest, f9, reduceIte, reduceCtorEq, Nat.reduceEqDiff, Nat.reduceAdd, Int.reduceLT, Int.reduceLE, Int.reduceNeg, Int.reduceEq, Nat.reduceLT, Nat.reduceSub, Nat.reduceMul, Nat.reduceBEq, Nat.reduceLeDiff, Int.reduceBEq, Int.reduceBNe, Int.reduceToNat, ne_eq, implies_true, bA]
  rw [hpP]
  have hsl : StS O3 s Sg N (sttP (TT l g).length) (opnP (TT l g).length) (g : Int) := by rw [TT_len]; exact s3
  refine callM (Append_i (p := p) h3 (by omega) (by rw [TT_len]; omega) hsl hmp (by omega) (by omega) (by rw [hcM, q4]; have := hm.len; omega) (by rw [hcM, q2]; decide)) ?_
  rintro r O4 ⟨r1, e, rfl, -, h4, -, -⟩
  rw [hcM] at h4
  have hpt : pageT m' (sealP (pSeq p (g : Int))) = spoiltS m' (sealP (pSeq p (g : Int))) := by rw [pageT, if_pos (.inl q2)]
  rw [hpt] at h4
  obtain ⟨t, ht⟩ : ∃ t, spoiltS m' (sealP (pSeq p (g : Int))) = t := ⟨_, rfl⟩
  have hbad : (readS t).2 ≠ 0 := by
    rw [← ht]
    exact torn_bad (by rw [q3, q4]; exact hm.k1) (by rw [q3, q4]; exact hm.k2) (by rw [q4]; exact hm.bad)
  have htl : t.length ≤ 1000000 := by rw [← ht]; simp only [spoiltS, List.length_take]; omega
  rw [ht] at h4
  have hT := tx_len_TT l (g := g) (by omega) htl
  have hF := found_eq l (g := g) (by omega) hbad 128
  rw [Nat.min_eq_right (by omega)] at hF
  obtain ⟨T, hTT⟩ : ∃ T, TT l g ++ [t] = T := ⟨_, rfl⟩
  rw [hTT] at h4 hT hF
  simp (config := {maxSteps := 4000000}) only [U_top_TopNewest, f5, reduceIte, reduceCtorEq, Nat.reduceEqDiff, Nat.reduceAdd, Int.reduceLT, Int.reduceLE, Int.reduceNeg, Int.reduceEq, Nat.reduceLT, Nat.reduceSub, Nat.reduceMul, Nat.reduceBEq, Nat.reduceLeDiff, Int.reduceBEq, Int.reduceBNe, Int.reduceToNat, ne_eq, implies_true, bA]
  refine callM (Up_i h4) ?_
  rintro r O5 ⟨h5, K5⟩
  simp (config := {maxSteps := 4000000}) only [U_top_TopNewest, f5, reduceIte, reduceCtorEq, Nat.reduceEqDiff, Nat.reduceAdd, Int.reduceLT, Int.reduceLE, Int.reduceNeg, Int.reduceEq, Nat.reduceLT, Nat.reduceSub, Nat.reduceMul, Nat.reduceBEq, Nat.reduceLeDiff, Int.reduceBEq, Int.reduceBNe, Int.reduceToNat, ne_eq, implies_true, bA]
  refine callM (open_i h5 hT) ?_
  rintro r O6 ⟨s2, Sg2, sq2, rfl, h6, -, st6, -⟩
  simp (config := {maxSteps := 4000000}) only [U_top_TopNewest, reduceIte, reduceCtorEq, Nat.reduceEqDiff, Nat.reduceAdd, Int.reduceLT, Int.reduceLE, Int.reduceNeg, Int.reduceEq, Nat.reduceLT, Nat.reduceSub, Nat.reduceMul, Nat.reduceBEq, Nat.reduceLeDiff, Int.reduceBEq, Int.reduceBNe, Int.reduceToNat, ne_eq, implies_true, bA]
  refine callM (Scan_i h6 hT st6.1) ?_
  rintro r O7 ⟨mm, rfl, h7, -, -⟩
  rw [hF] at h7 ⊢
  obtain ⟨L, hL⟩ : ∃ L, (List.range g).map (fdN l) = L := ⟨_, rfl⟩
  have hLl : L.length = g := by rw [← hL]; simp
  have hLf : L.filter Rt.isR = L := by rw [← hL]; exact filt_all hb (by omega)
  rw [hL] at h7 ⊢
  simp (config := {maxSteps := 4000000}) only [U_top_TopNewest, reduceIte, reduceCtorEq, Nat.reduceEqDiff, Nat.reduceAdd, Int.reduceLT, Int.reduceLE, Int.reduceNeg, Int.reduceEq, Nat.reduceLT, Nat.reduceSub, Nat.reduceMul, Nat.reduceBEq, Nat.reduceLeDiff, Int.reduceBEq, Int.reduceBNe, Int.reduceToNat, ne_eq, implies_true, bA]
  refine callM (Rt.rootsB (l := L) (by omega) (fun z hz => ?_) h7 rfl) ?_
  · rw [← hL] at hz
    obtain ⟨j, _, rfl⟩ := List.mem_map.1 hz
    show (recN l j).length ≤ 1000000
    rw [recN_len]; omega
  rintro r O8 ⟨Z, n, rfl, hn, sZ, pZ, -⟩
  rw [hLf] at pZ
  have lZ : Z.length = g := by rw [pZ.length_eq, hLl]
  have hr : rowsO (some (Rt.lF Z)) 0 Z.length = some (Z.map Rt.rowF) := rowsO_all (by simp)
  have dl : ((Z.length : Int) != (g : Int)) = false := by rw [lZ]; simp
  by_cases hg0 : g = 0
  · have d0 : ((g : Int) == 0) = true := by simp [hg0]
    simp (config := {maxSteps := 4000000}) only [U_top_TopNewest, hn, hr, dl, f10, d0, List.length_map, reduceIte, reduceCtorEq, Nat.reduceEqDiff, Nat.reduceAdd, Int.reduceLT, Int.reduceLE, Int.reduceNeg, Int.reduceEq, Nat.reduceLT, Nat.reduceSub, Nat.reduceMul, Nat.reduceBEq, Nat.reduceLeDiff, Int.reduceBEq, Int.reduceBNe, Int.reduceToNat, ne_eq, implies_true, bA]
  · have d0 : ((g : Int) == 0) = false := by simp [hg0]
    have hz0 : 0 < Z.length := by omega
    have hZ0 := first_new hb (g := g) (by omega) (by omega) sZ (by rw [hL]; exact pZ) hz0
    have i1 := Rt.isF (l := Z) (o := n) (m := Z.length) (v := 0) (i := 0) rfl hz0 rfl
    have i2 := ldL_map (g := Rt.rowF) (l := Z) (e := 6) (len := Z.length) (off := 5) (n := 1) (i := 0) rfl hz0 (by simp [Rt.rowF])
    rw [hZ0] at i2
    simp only [Rt.rowF, fdN, fdOf, pgN, List.drop_succ_cons, List.drop_zero, List.take_succ_cons, List.take_zero] at i2
    simp (config := {maxSteps := 4000000}) only [U_top_TopNewest, hn, hr, dl, f10, d0, i1, i2, List.length_map, reduceIte, reduceCtorEq, Nat.reduceEqDiff, Nat.reduceAdd, Int.reduceLT, Int.reduceLE, Int.reduceNeg, Int.reduceEq, Nat.reduceLT, Nat.reduceSub, Nat.reduceMul, Nat.reduceBEq, Nat.reduceLeDiff, Int.reduceBEq, Int.reduceBNe, Int.reduceToNat, ne_eq, implies_true, bA]
    refine callI (Rt.read_spec (recN l (g - 1)) (by rw [recN_len]; omega)) ?_
    rw [read_rec hb (j := g - 1) (by omega)]
    have eg : (((g - 1 : Nat) : Int) + 1) = (g : Int) := by omega
    have ws : IntKind.i64.wrap ((g : Int) - 1) = ((g - 1 : Nat) : Int) := by rw [wrapI (by omega) (by omega)]; omega
    have hgl' : g - 1 < l.length := by omega
    obtain ⟨x, hx⟩ : ∃ x, l[g - 1] = x := ⟨_, rfl⟩
    have i4 : ∀ (OB : List AObj) fb, islV OB fb 1 (.slc (l.map rowU)) (.int .i64 ((g - 1 : Nat) : Int)) = some (.fptr [.int .u16 x]) := fun OB fb => by
      rw [islV_slc (by simpa using hgl') (by simp)]; simp [hx]
    have hgd : l.getD (g - 1) 0 = x := by rw [List.getD_eq_getElem?_getD, List.getElem?_eq_getElem hgl', hx]; rfl
    have hxb := hb x (by rw [← hx]; exact List.getElem_mem hgl')
    have wx : IntKind.i64.wrap x = x := wrapI (by omega) (by omega)
    have i3 : ∀ (OB : List AObj) fb, islV OB fb 4 (.slc [[.int .i64 (g : Int), .int .i64 x, .int .i64 (-1), .int .i64 0]]) (.int .i64 0) = some (.fptr [.int .i64 (g : Int), .int .i64 x, .int .i64 (-1), .int .i64 0]) := fun OB fb => rfl
    simp only [eg, List.map_cons, List.map_nil, spN, Rt.rowSp, hgd]
    simp (config := {maxSteps := 4000000}) only [U_top_TopNewest, f0, f10, i3, i4, ws, wx, beq_self_eq_true, reduceIte, reduceCtorEq, Nat.reduceEqDiff, Nat.reduceAdd, Int.reduceLT, Int.reduceLE, Int.reduceNeg, Int.reduceEq, Nat.reduceLT, Nat.reduceSub, Nat.reduceMul, Nat.reduceBEq, Nat.reduceLeDiff, Int.reduceBEq, Int.reduceBNe, Int.reduceToNat, ne_eq, implies_true, bA]

theorem putM {X : List AObj} {N s Sg g : Nat} {T : List (List UInt8)} {c c' : List PV} (hX : NandF X N T (g : Int) [] false) (sX : StS X s Sg N (sttP g) (opnP g) (g : Int)) (mX : X[0]? = some (.box c)) (hc : c.length = 4) :
    NandF (X.set 0 (.box c')) N T (g : Int) [] false ∧ StS (X.set 0 (.box c')) s Sg N (sttP g) (opnP g) (g : Int) ∧ (X.set 0 (.box c'))[0]? = some (.box c') := by
  refine ⟨NandS.put hX mX (by omega) (by omega), ⟨?_, ?_, sX.2.2⟩, set_get mX⟩
  · rw [List.getElem?_set_ne]; · exact sX.1
    intro e; have h1 := sX.1; rw [← e, mX] at h1; injection h1 with h1; injection h1 with h1; rw [h1] at hc; simp [cellsO] at hc
  · rw [List.getElem?_set_ne]; · exact sX.2.1
    intro e; have := sX.2.1; rw [← e, mX] at this; cases this
theorem tail1 {l : List Int} {m : Mis} {f : Nat → PV} {X : List AObj} {N s Sg g : Nat} (hb : ∀ x ∈ l, 0 ≤ x ∧ x ≤ 65535) (hg : g ≤ 20) (hgl : g ≤ l.length) (hj : m.jk.length ≤ 200) (hbad : (readS m.jk).2 ≠ 0)
    (hX : NandF X N (TT l g) (g : Int) [] false) (sX : StS X s Sg N (sttP g) (opnP g) (g : Int)) (mX : X[0]? = some (.box (rowM m)))
    (f0 : f 0 = .slc (l.map rowU)) (f3 : f 3 = .ref 0 0) (f5 : f 5 = .ref N 0) (f9 : f 9 = .ref s 0) (f10 : f 10 = .int .i64 (g : Int)) :
    AWP Tryz.prog 0 e0_84 (AFin [ARV.t 4] (.bool true)) ⟨f, X⟩ := by
  have T2 : ∀ (f' : Nat → PV) (m' : Mis), MisOk m' → f' 0 = .slc (l.map rowU) → f' 3 = .ref 0 0 → f' 5 = .ref N 0 → f' 9 = .ref s 0 → f' 10 = .int .i64 (g : Int) → AWP Tryz.prog 0 e0_82 (AFin [ARV.t 4] (.bool true)) ⟨f', X.set 0 (.box (rowM m'))⟩ := fun f' m' h1 g0 g3 g5 g9 g10 => by
    obtain ⟨a1, a2, a3⟩ := putM (c' := rowM m') hX sX mX rfl
    exact tail2 hb hg hgl h1 a1 a2 a3 g0 g3 g5 g9 g10
  generalize hQ : AWP Tryz.prog 0 e0_82 (AFin [ARV.t 4] (.bool true)) = Q at T2
  show AWP Tryz.prog 0 (.seq e0_42 (.seq e0_46 e0_82)) _ _
  rw [AWP_seq]
  have hR : AWP Tryz.prog 0 (.seq e0_46 e0_82) (AFin [ARV.t 4] (.bool true)) = AWP Tryz.prog 0 e0_46 (kseq Q (AFin [ARV.t 4] (.bool true))) := by
    funext st; rw [AWP_seq, hQ]
  rw [hR]
  have sm : ∀ c, (X.set 0 c)[0]? = some c := fun c => set_get mX
  by_cases hjk : m.jk = []
  · have d : (m.jk == []) = true := by simp [hjk]
    by_cases hk : 18 < m.kp
    · have d2 : decide ((18 : Int) < m.kp) = true := by simpa using hk
      have hm' : MisOk ⟨1, 1, 0, m.jk⟩ := ⟨rfl, rfl, fun _ => by simp, fun h => rfl, hj, hbad⟩
      simp (config := {maxSteps := 4000000}) only [U_top_TopNewest, f3, mX, sm, rowM, List.set_set, d, d2, reduceIte, reduceCtorEq, Nat.reduceEqDiff, Nat.reduceAdd, Int.reduceLT, Int.reduceLE, Int.reduceNeg, Int.reduceEq, Nat.reduceLT, Nat.reduceSub, Nat.reduceMul, Nat.reduceBEq, Nat.reduceLeDiff, Int.reduceBEq, Int.reduceBNe, Int.reduceToNat, ne_eq, implies_true, bA]
      exact T2 _ ⟨1, 1, 0, m.jk⟩ hm' f0 f3 f5 f9 f10
    · have d2 : decide ((18 : Int) < m.kp) = false := by simpa using hk
      have hm' : MisOk ⟨1, 1, m.kp, m.jk⟩ := ⟨rfl, rfl, fun _ => by simp only; omega, fun h => absurd hjk h, hj, hbad⟩
      simp (config := {maxSteps := 4000000}) only [U_top_TopNewest, f3, mX, sm, rowM, List.set_set, d, d2, reduceIte, reduceCtorEq, Nat.reduceEqDiff, Nat.reduceAdd, Int.reduceLT, Int.reduceLE, Int.reduceNeg, Int.reduceEq, Nat.reduceLT, Nat.reduceSub, Nat.reduceMul, Nat.reduceBEq, Nat.reduceLeDiff, Int.reduceBEq, Int.reduceBNe, Int.reduceToNat, ne_eq, implies_true, bA]
      exact T2 _ ⟨1, 1, m.kp, m.jk⟩ hm' f0 f3 f5 f9 f10
  · have d : (m.jk == []) = false := by simp [hjk]
    have hm' : MisOk ⟨1, 1, 0, m.jk⟩ := ⟨rfl, rfl, fun _ => by simp, fun h => rfl, hj, hbad⟩
    simp (config := {maxSteps := 4000000}) only [U_top_TopNewest, f3, mX, sm, rowM, List.set_set, d, reduceIte, reduceCtorEq, Nat.reduceEqDiff, Nat.reduceAdd, Int.reduceLT, Int.reduceLE, Int.reduceNeg, Int.reduceEq, Nat.reduceLT, Nat.reduceSub, Nat.reduceMul, Nat.reduceBEq, Nat.reduceLeDiff, Int.reduceBEq, Int.reduceBNe, Int.reduceToNat, ne_eq, implies_true, bA]
    exact T2 _ ⟨1, 1, 0, m.jk⟩ hm' f0 f3 f5 f9 f10

theorem tx_nil (n : Nat) : (tx [] n).length ≤ 1000000 := by simp [tx]
theorem newest_law (l : List Int) (m : Mis) (hl : l.length ≤ 9223372036854775807) (hb : ∀ x ∈ l, 0 ≤ x ∧ x ≤ 65535) (hj : m.jk.length ≤ 9223372036854775807) :
    PCall Tryz.prog 3 [.slc (l.map rowU), .agg (rowM m)] (.bool true) := by
  refine pcall_dr Tryz.func3 comp_top_TopNewest ?_
  simp (config := {maxSteps := 4000000}) only [U_top_TopNewest, rowM, reduceIte, reduceCtorEq, Nat.reduceEqDiff, Nat.reduceAdd, Int.reduceLT, Int.reduceLE, Int.reduceNeg, Int.reduceEq, Nat.reduceLT, Nat.reduceSub, Nat.reduceMul, Nat.reduceBEq, Nat.reduceLeDiff, Int.reduceBEq, Int.reduceBNe, Int.reduceToNat, ne_eq, implies_true, bA]
  refine callI plain_spec ?_
  simp (config := {maxSteps := 4000000}) only [U_top_TopNewest, reduceIte, reduceCtorEq, Nat.reduceEqDiff, Nat.reduceAdd, Int.reduceLT, Int.reduceLE, Int.reduceNeg, Int.reduceEq, Nat.reduceLT, Nat.reduceSub, Nat.reduceMul, Nat.reduceBEq, Nat.reduceLeDiff, Int.reduceBEq, Int.reduceBNe, Int.reduceToNat, ne_eq, implies_true, bA]
  refine callM (New_i _) ?_
  rintro r o1 ⟨N, rfl, h1, K1⟩
  have m1 : o1[0]? = some (.box (rowM m)) := K1.2 0 _ (by simp [rowM]) (by simp [rowM]) rfl
  simp (config := {maxSteps := 4000000}) only [U_top_TopNewest, reduceIte, reduceCtorEq, Nat.reduceEqDiff, Nat.reduceAdd, Int.reduceLT, Int.reduceLE, Int.reduceNeg, Int.reduceEq, Nat.reduceLT, Nat.reduceSub, Nat.reduceMul, Nat.reduceBEq, Nat.reduceLeDiff, Int.reduceBEq, Int.reduceBNe, Int.reduceToNat, ne_eq, implies_true, bA]
  refine callI fine_spec ?_
  simp (config := {maxSteps := 4000000}) only [U_top_TopNewest, m1, rowM, reduceIte, reduceCtorEq, Nat.reduceEqDiff, Nat.reduceAdd, Int.reduceLT, Int.reduceLE, Int.reduceNeg, Int.reduceEq, Nat.reduceLT, Nat.reduceSub, Nat.reduceMul, Nat.reduceBEq, Nat.reduceLeDiff, Int.reduceBEq, Int.reduceBNe, Int.reduceToNat, ne_eq, implies_true, bA]
  refine callI (read_spec m.jk hj) ?_
  obtain ⟨q, hq⟩ : ∃ q, (readS m.jk).1 = q := ⟨_, rfl⟩
  obtain ⟨od, hod⟩ : ∃ od, (readS m.jk).2 = od := ⟨_, rfl⟩
  rw [hq, hod]
  have y1 : ∀ l : List AObj, (o1 ++ l)[o1.length]? = l[0]? := fun l => by rw [List.getElem?_append_right (Nat.le_refl _)]; simp
  have z1 : ∀ (l : List AObj) c, (o1 ++ l).set o1.length c = o1 ++ l.set 0 c := fun l c => by rw [List.set_append_right _ _ (Nat.le_refl _)]; simp
  have m1' := fun l : List AObj => apN m1 l
  by_cases h200 : 200 < m.jk.length
  · have d : decide ((200 : Int) < (m.jk.length : Int)) = true := by rw [decide_eq_true_eq]; omega
    simp (config := {maxSteps := 4000000}) only [U_top_TopNewest, m1', y1, z1, rowM, rowP, d, reduceIte, reduceCtorEq, Nat.reduceEqDiff, Nat.reduceAdd, Int.reduceLT, Int.reduceLE, Int.reduceNeg, Int.reduceEq, Nat.reduceLT, Nat.reduceSub, Nat.reduceMul, Nat.reduceBEq, Nat.reduceLeDiff, Int.reduceBEq, Int.reduceBNe, Int.reduceToNat, ne_eq, implies_true, bA]
  · have d : decide ((200 : Int) < (m.jk.length : Int)) = false := by rw [decide_eq_false_iff_not]; omega
    by_cases ho0 : od = 0
    · have d2 : (od == 0) = true := by simp [ho0]
      simp (config := {maxSteps := 4000000}) only [U_top_TopNewest, m1', y1, z1, rowM, rowP, d, d2, reduceIte, reduceCtorEq, Nat.reduceEqDiff, Nat.reduceAdd, Int.reduceLT, Int.reduceLE, Int.reduceNeg, Int.reduceEq, Nat.reduceLT, Nat.reduceSub, Nat.reduceMul, Nat.reduceBEq, Nat.reduceLeDiff, Int.reduceBEq, Int.reduceBNe, Int.reduceToNat, ne_eq, implies_true, bA]
    · have d2 : (od == 0) = false := by simp [ho0]
      have hbad : (readS m.jk).2 ≠ 0 := by rw [hod]; exact ho0
      have h2 : NandF (o1 ++ [.box (rowP q)]) N [] 0 [] false := by rw [NandF, blkF_nil]; exact h1.app _
      have m2 := apN m1 [.box (rowP q)]
      simp (config := {maxSteps := 4000000}) only [U_top_TopNewest, m1', y1, z1, rowM, rowP, d, d2, reduceIte, reduceCtorEq, Nat.reduceEqDiff, Nat.reduceAdd, Int.reduceLT, Int.reduceLE, Int.reduceNeg, Int.reduceEq, Nat.reduceLT, Nat.reduceSub, Nat.reduceMul, Nat.reduceBEq, Nat.reduceLeDiff, Int.reduceBEq, Int.reduceBNe, Int.reduceToNat, ne_eq, implies_true, bA]
      refine callM (open_i h2 tx_nil) ?_
      rintro r O2 ⟨s, Sg, sq, rfl, h3, K3, s3, hsq⟩
      have := hsq (found_nil 128); subst this
      have m3 : O2[0]? = some (.box (rowM m)) := K3.2 _ _ (by simp [rowM]) (by simp [rowM]) m2
      have s3' : StS O2 s Sg N (sttP 0) (opnP 0) ((0 : Nat) : Int) := by rw [stt_zero]; exact s3
      simp (config := {maxSteps := 4000000}) only [U_top_TopNewest, reduceIte, reduceCtorEq, Nat.reduceEqDiff, Nat.reduceAdd, Int.reduceLT, Int.reduceLE, Int.reduceNeg, Int.reduceEq, Nat.reduceLT, Nat.reduceSub, Nat.reduceMul, Nat.reduceBEq, Nat.reduceLeDiff, Int.reduceBEq, Int.reduceBNe, Int.reduceToNat, ne_eq, implies_true, bA]
      have tailQ : ∀ (f : Nat → PV) (X : List AObj) (g : Nat), g ≤ 20 → g ≤ l.length → NandF X N (TT l g) (g : Int) [] false → StS X s Sg N (sttP g) (opnP g) (g : Int) → X[0]? = some (.box (rowM m)) → f 0 = .slc (l.map rowU) → f 3 = .ref 0 0 → f 5 = .ref N 0 → f 9 = .ref s 0 → f 10 = .int .i64 (g : Int) →
          AWP Tryz.prog 0 e0_84 (AFin [ARV.t 4] (.bool true)) ⟨f, X⟩ := fun f X g a1 a2 a3 a4 a5 b0 b3 b5 b9 b10 => tail1 hb a1 a2 (by omega) hbad a3 a4 a5 b0 b3 b5 b9 b10
      generalize hQ : AWP Tryz.prog 0 e0_84 (AFin [ARV.t 4] (.bool true)) = Q at tailQ
      try rw [hQ]
      refine loopF (fun x : Nat × List AObj => ⟨ofL [(0, .slc (l.map rowU)), (3, .ref 0 0), (5, .ref N 0), (9, .ref s 0), (10, .int .i64 (x.1 : Int)), (11, .int .i64 (x.1 : Int))], x.2⟩)
        (fun x => x.1 ≤ l.length ∧ x.1 ≤ 20 ∧ NandF x.2 N (TT l x.1) (x.1 : Int) [] false ∧ StS x.2 s Sg N (sttP x.1) (opnP x.1) (x.1 : Int) ∧ x.2[0]? = some (.box (rowM m))) (fun x => l.length - x.1) (0, O2) ?_ ⟨by omega, by omega, h3, s3', m3⟩ ?_
      · simp (config := {maxSteps := 4000000}) only [U_top_TopNewest, reduceIte, reduceCtorEq, Nat.reduceEqDiff, Nat.reduceAdd, Int.reduceLT, Int.reduceLE, Int.reduceNeg, Int.reduceEq, Nat.reduceLT, Nat.reduceSub, Nat.reduceMul, Nat.reduceBEq, Nat.reduceLeDiff, Int.reduceBEq, Int.reduceBNe, Int.reduceToNat, ne_eq, implies_true, bA]
        try rfl
      · clear m3 s3' s3 h3 K3 h2 m2 m1' y1 z1
        rintro ⟨i, X⟩ ⟨hi, hi2, hX, sX, mX⟩
        simp only at hi hi2 hX sX mX ⊢
        by_cases hlt : i < l.length
        · have e1 : decide ((i : Int) < (l.length : Int)) = true := by rw [decide_eq_true_eq]; omega
          by_cases hlt2 : i < 20
          · have e2 : decide ((i : Int) < 20) = true := by rw [decide_eq_true_eq]; omega
            have wi : IntKind.i64.wrap ((i : Int) + 1) = (i : Int) + 1 := wrapI (by omega) (by omega)
            obtain ⟨x, hx⟩ : ∃ x, l[i] = x := ⟨_, rfl⟩
            have i1 : ∀ (OB : List AObj) fb, islV OB fb 1 (.slc (l.map rowU)) (.int .i64 (i : Int)) = some (.fptr [.int .u16 x]) := fun OB fb => by
              rw [islV_slc (by simpa using hlt) (by simp)]; simp [hx]
            have hgd : l.getD i 0 = x := by rw [List.getD_eq_getElem?_getD, List.getElem?_eq_getElem hlt, hx]; rfl
            have hxb := hb x (by rw [← hx]; exact List.getElem_mem hlt)
            have wx : IntKind.i64.wrap x = x := wrapI (by omega) (by omega)
            have hrm : [[PV.int .i64 ((i : Int) + 1), .int .i64 x, .int .i64 (-1), .int .i64 0]] = [spN l i].map Rt.rowSp := by simp only [spN, hgd]; rfl
            simp (config := {maxSteps := 4000000}) only [U_top_TopNewest, e1, e2, wi, i1, wx, reduceIte, reduceCtorEq, Nat.reduceEqDiff, Nat.reduceAdd, Int.reduceLT, Int.reduceLE, Int.reduceNeg, Int.reduceEq, Nat.reduceLT, Nat.reduceSub, Nat.reduceMul, Nat.reduceBEq, Nat.reduceLeDiff, Int.reduceBEq, Int.reduceBNe, Int.reduceToNat, ne_eq, implies_true, bA]
            rw [hrm]
            refine callI (Rt.write_spec ((i : Int) + 1) [spN l i] (by simp)) ?_
            rw [show Rt.writeR ((i : Int) + 1) [spN l i] = (recN l i, 0) by rw [Rt.writeR, if_pos (may_rec hb (by omega))]; rfl]
            obtain ⟨p, hp⟩ : ∃ p : Pg, (⟨4, 0, 0, 0, recN l i⟩ : Pg) = p := ⟨_, rfl⟩
            have hpP : PV.agg [.int .i64 4, .int .i64 0, .int .i64 0, .int .i64 0, .str (recN l i)] = pP p := by rw [← hp]; rfl
            have hmp : mayB (pSeq p 0) = true := by
              rw [← hp]
              exact mayB_iff.2 ⟨by simp [pSeq], by simp [pSeq], by simp [pSeq], by simp [pSeq], by simp [pSeq], by simp [pSeq], by simp [pSeq], by simp [pSeq], by simp only [pSeq, recN_len]; omega⟩
            simp (config := {maxSteps := 4000000}) only [U_top_TopNewest, reduceIte, reduceCtorEq, Nat.reduceEqDiff, Nat.reduceAdd, Int.reduceLT, Int.reduceLE, Int.reduceNeg, Int.reduceEq, Nat.reduceLT, Nat.reduceSub, Nat.reduceMul, Nat.reduceBEq, Nat.reduceLeDiff, Int.reduceBEq, Int.reduceBNe, Int.reduceToNat, ne_eq, implies_true, bA]
            rw [hpP]
            have hsl : StS X s Sg N (sttP (TT l i).length) (opnP (TT l i).length) (i : Int) := by rw [TT_len]; exact sX
            refine callM (Append_i (p := p) hX (by omega) (by rw [TT_len]; omega) hsl hmp (by omega) (by omega) (by rw [cM_nil]; simp [zeroM]) (by rw [cM_nil]; decide)) ?_
            rintro r O4 ⟨r1, e, rfl, he, h4, s4, K4⟩
            rw [cM_nil] at he h4
            have := WrapAt.zero he; subst this
            have hpp : pSeq p (i : Int) = pgN l i := by rw [← hp]; rfl
            rw [pageT_0, hpp, ← TT_succ] at h4
            have hd1 : decide (zeroM.kd = 1) = false := by decide
            rw [hd1] at h4
            rw [TT_len] at s4
            have ei : ((i + 1 : Nat) : Int) = (i : Int) + 1 := by omega
            have m4 : O4[0]? = some (.box (rowM m)) := K4 _ _ (by simp [rowM]) (by simp [rowM]) (by simp [rowM]) mX
            simp (config := {maxSteps := 4000000}) only [U_top_TopNewest, wi, reduceIte, reduceCtorEq, Nat.reduceEqDiff, Nat.reduceAdd, Int.reduceLT, Int.reduceLE, Int.reduceNeg, Int.reduceEq, Nat.reduceLT, Nat.reduceSub, Nat.reduceMul, Nat.reduceBEq, Nat.reduceLeDiff, Int.reduceBEq, Int.reduceBNe, Int.reduceToNat, ne_eq, implies_true, bA]
            refine ⟨(i + 1, O4), by simp only [ei], ⟨hlt, hlt2, by simp only [ei]; exact h4, by simp only [ei]; exact s4, m4⟩, by simp only; omega⟩
          · have e2 : decide ((i : Int) < 20) = false := by rw [decide_eq_false_iff_not]; omega
            simp (config := {maxSteps := 4000000}) only [U_top_TopNewest, e1, e2, reduceIte, reduceCtorEq, Nat.reduceEqDiff, Nat.reduceAdd, Int.reduceLT, Int.reduceLE, Int.reduceNeg, Int.reduceEq, Nat.reduceLT, Nat.reduceSub, Nat.reduceMul, Nat.reduceBEq, Nat.reduceLeDiff, Int.reduceBEq, Int.reduceBNe, Int.reduceToNat, ne_eq, implies_true, bA]
            exact tailQ _ X i (by omega) (by omega) hX sX mX rfl rfl rfl rfl rfl
        · have e1 : decide ((i : Int) < (l.length : Int)) = false := by rw [decide_eq_false_iff_not]; omega
          simp (config := {maxSteps := 4000000}) only [U_top_TopNewest, e1, reduceIte, reduceCtorEq, Nat.reduceEqDiff, Nat.reduceAdd, Int.reduceLT, Int.reduceLE, Int.reduceNeg, Int.reduceEq, Nat.reduceLT, Nat.reduceSub, Nat.reduceMul, Nat.reduceBEq, Nat.reduceLeDiff, Int.reduceBEq, Int.reduceBNe, Int.reduceToNat, ne_eq, implies_true, bA]
          exact tailQ _ X i (by omega) (by omega) hX sX mX rfl rfl rfl rfl rfl

end Go.Proofs.YtdgpiobmncohjaaGreatDoor.Aw
