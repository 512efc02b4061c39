/-
  Reading fields, and taking rows of them.
-/
import Derived.Test.YtdgpiobmncohjaaDoorPFld
set_option linter.unusedSimpArgs false
set_option linter.unusedVariables false
namespace Go.Proofs.YtdgpiobmncohjaaDoor.Aw
open Go.RowKit

theorem get_spec (s : List UInt8) (a w : Int) (hs : s.length ≤ 9223372036854775807) (ha1 : -9223372036854775808 ≤ a) (ha2 : a ≤ 9223372036854775807) (hw1 : -9223372036854775808 ≤ w) (hw2 : w ≤ 9223372036854775807) :
    PCall Tryd.prog 48 [.str s, .int .i64 a, .int .i64 w] (.tup [.int .u64 (getS s a w).1, .int .i64 (getS s a w).2]) := by
  refine pcall_go Tryd.func48 comp_field_Get ?_
  simp (config := {maxSteps := 4000000}) only [U_field_Get, reduceIte, reduceCtorEq, Nat.reduceEqDiff, Nat.reduceAdd, Int.reduceLT, Int.reduceLE, Int.reduceNeg, Int.reduceEq, Nat.reduceLT, Nat.reduceSub, Nat.reduceMul, Nat.reduceBEq, Nat.reduceLeDiff, Int.reduceBEq, Int.reduceBNe, Int.reduceToNat, ne_eq, implies_true, bA]
  refine callI (width_spec w) ?_
  by_cases h : wid w = true
  · have d : (decide (1 ≤ w) && decide (w ≤ 8)) = true := h
    have hw := wid_iff.1 h
    obtain ⟨k, rfl⟩ : ∃ k : Nat, w = k := ⟨w.toNat, by omega⟩
    by_cases h2 : a < 0
    · have d2 : decide (a < 0) = true := by simpa using h2
      simp (config := {maxSteps := 4000000}) only [U_field_Get, d, d2, reduceIte, reduceCtorEq, Nat.reduceEqDiff, Nat.reduceAdd, Int.reduceLT, Int.reduceLE, Int.reduceNeg, Int.reduceEq, Nat.reduceLT, Nat.reduceSub, Nat.reduceMul, Nat.reduceBEq, Nat.reduceLeDiff, Int.reduceBEq, Int.reduceBNe, Int.reduceToNat, ne_eq, implies_true, bA]
      simp [getS, h2]
    · have d2 : decide (a < 0) = false := by simpa using h2
      obtain ⟨i, rfl⟩ : ∃ i : Nat, a = i := ⟨a.toNat, by omega⟩
      by_cases h3 : (s.length : Int) < i
      · have d3 : decide ((s.length : Int) < (i : Int)) = true := by simpa using h3
        simp (config := {maxSteps := 4000000}) only [U_field_Get, d, d2, d3, reduceIte, reduceCtorEq, Nat.reduceEqDiff, Nat.reduceAdd, Int.reduceLT, Int.reduceLE, Int.reduceNeg, Int.reduceEq, Nat.reduceLT, Nat.reduceSub, Nat.reduceMul, Nat.reduceBEq, Nat.reduceLeDiff, Int.reduceBEq, Int.reduceBNe, Int.reduceToNat, ne_eq, implies_true, bA]
        have h4 : (s.length : Int) - i < k := by omega
        simp [getS, h, h4, h2]
      · have d3 : decide ((s.length : Int) < (i : Int)) = false := by simpa using h3
        have e : IntKind.i64.wrap ((s.length : Int) - (i : Int)) = (s.length : Int) - i := wrapI (by omega) (by omega)
        by_cases h4 : (s.length : Int) - i < k
        · have d4 : decide ((s.length : Int) - (i : Int) < (k : Int)) = true := by simpa using h4
          simp (config := {maxSteps := 4000000}) only [U_field_Get, d, d2, d3, e, d4, reduceIte, reduceCtorEq, Nat.reduceEqDiff, Nat.reduceAdd, Int.reduceLT, Int.reduceLE, Int.reduceNeg, Int.reduceEq, Nat.reduceLT, Nat.reduceSub, Nat.reduceMul, Nat.reduceBEq, Nat.reduceLeDiff, Int.reduceBEq, Int.reduceBNe, Int.reduceToNat, ne_eq, implies_true, bA]
          simp [getS, h, h4, h2]
        · have d4 : decide ((s.length : Int) - (i : Int) < (k : Int)) = false := by simpa using h4
          have e5 : IntKind.i64.wrap ((k : Int) - 1) = (k : Int) - 1 := wrapI (by omega) (by omega)
          simp (config := {maxSteps := 4000000}) only [U_field_Get, d, d2, d3, e, d4, e5, reduceIte, reduceCtorEq, Nat.reduceEqDiff, Nat.reduceAdd, Int.reduceLT, Int.reduceLE, Int.reduceNeg, Int.reduceEq, Nat.reduceLT, Nat.reduceSub, Nat.reduceMul, Nat.reduceBEq, Nat.reduceLeDiff, Int.reduceBEq, Int.reduceBNe, Int.reduceToNat, ne_eq, implies_true, bA]
          obtain ⟨l, hl⟩ : ∃ l, l = (s.drop i).take k := ⟨_, rfl⟩
          have hll : l.length = k := by rw [hl]; simp; omega
          refine loopF (fun j : Nat => ⟨ofL [(0, .str s), (1, .int .i64 i), (8, .int .u64 (leN (l.drop (k - j)))), (9, .int .i64 ((k : Int) - 1 - j))], []⟩) (fun j => j ≤ k) (fun j => k - j) 0 ?_ (by omega) ?_
          · have : l.drop (k - 0) = [] := by simp [hll]
            simp (config := {maxSteps := 4000000}) only [U_field_Get, this, reduceIte, reduceCtorEq, Nat.reduceEqDiff, Nat.reduceAdd, Int.reduceLT, Int.reduceLE, Int.reduceNeg, Int.reduceEq, Nat.reduceLT, Nat.reduceSub, Nat.reduceMul, Nat.reduceBEq, Nat.reduceLeDiff, Int.reduceBEq, Int.reduceBNe, Int.reduceToNat, ne_eq, implies_true, bA]
            all_goals simp [leN]
          · intro j hj
            have hlt := leN_lt (l.drop (k - j))
            by_cases h5 : j = k
            · have d5 : decide (0 ≤ (k : Int) - 1 - (j : Int)) = false := by simp; omega
              subst h5
              simp (config := {maxSteps := 4000000}) only [U_field_Get, d5, reduceIte, reduceCtorEq, Nat.reduceEqDiff, Nat.reduceAdd, Int.reduceLT, Int.reduceLE, Int.reduceNeg, Int.reduceEq, Nat.reduceLT, Nat.reduceSub, Nat.reduceMul, Nat.reduceBEq, Nat.reduceLeDiff, Int.reduceBEq, Int.reduceBNe, Int.reduceToNat, ne_eq, implies_true, bA]
              have hg : getS s i j = (leN l, 0) := by
                simp only [getS, h, Int.toNat_natCast, hl]
                rw [if_neg (by simp), if_neg h4]
              simp [hg]
            · have d5 : decide (0 ≤ (k : Int) - 1 - (j : Int)) = true := by simp; omega
              have hlen : (l.drop (k - j)).length = j := by simp [hll]; omega
              rw [hlen] at hlt
              have hpow : 256 ^ j ≤ 256 ^ 7 := Nat.pow_le_pow_right (by decide) (by omega)
              have e256 : 256 ^ 7 = 72057594037927936 := by decide
              have em : leN (l.drop (k - j)) * 256 % 18446744073709551616 = leN (l.drop (k - j)) * 256 := Nat.mod_eq_of_lt (by omega)
              have hix : i + (k - 1 - j) < s.length := by omega
              have e6 : IntKind.i64.wrap ((i : Int) + ((k : Int) - 1 - (j : Int))) = ((i + (k - 1 - j) : Nat) : Int) := by rw [wrapI (by omega) (by omega)]; omega
              have e7 : IntKind.i64.wrap ((k : Int) - 1 - (j : Int) - 1) = (k : Int) - 1 - ((j + 1 : Nat) : Int) := by rw [wrapI (by omega) (by omega)]; omega
              have hb : (s[i + (k - 1 - j)]).toNat < 256 := (s[i + (k - 1 - j)]).toBitVec.isLt
              have e8 : IntKind.u64.wrap ((s[i + (k - 1 - j)]).toNat : Int) = ((s[i + (k - 1 - j)]).toNat : Int) := w64 (by omega)
              have hst : leN (l.drop (k - (j + 1))) = leN (l.drop (k - j)) * 256 + (s[i + (k - 1 - j)]).toNat := by
                have hlt2 : k - (j + 1) < l.length := by omega
                rw [leN_step hlt2, show k - (j + 1) + 1 = k - j by omega]
                have : l[k - (j + 1)] = s[i + (k - 1 - j)] := by
                  subst hl
                  simp only [List.getElem_take, List.getElem_drop]
                  congr 1; omega
                rw [this]; omega
              simp (config := {maxSteps := 4000000}) only [U_field_Get, d5, shl64_8, em, e6, idxsV_at hix, e8, or64 (a := leN (l.drop (k - j)) * 256) (b := (s[i + (k - 1 - j)]).toNat) (by omega) hb (by omega), e7, reduceIte, reduceCtorEq, Nat.reduceEqDiff, Nat.reduceAdd, Int.reduceLT, Int.reduceLE, Int.reduceNeg, Int.reduceEq, Nat.reduceLT, Nat.reduceSub, Nat.reduceMul, Nat.reduceBEq, Nat.reduceLeDiff, Int.reduceBEq, Int.reduceBNe, Int.reduceToNat, ne_eq, implies_true, bA]
              refine ⟨j + 1, ?_, by omega, by omega⟩
              rw [hst]
  · have h' : wid w = false := by simpa using h
    have d : (decide (1 ≤ w) && decide (w ≤ 8)) = false := h'
    simp (config := {maxSteps := 4000000}) only [U_field_Get, d, reduceIte, reduceCtorEq, Nat.reduceEqDiff, Nat.reduceAdd, Int.reduceLT, Int.reduceLE, Int.reduceNeg, Int.reduceEq, Nat.reduceLT, Nat.reduceSub, Nat.reduceMul, Nat.reduceBEq, Nat.reduceLeDiff, Int.reduceBEq, Int.reduceBNe, Int.reduceToNat, ne_eq, implies_true, bA]
    simp [getS, h']
theorem wrong_spec (w : Int) : PCall Tryd.prog 32 [.int .i64 w] (.bool (!wid w)) := by
  refine pcall_go Tryd.func32 comp_field_wrong ?_
  simp (config := {maxSteps := 4000000}) only [U_field_wrong, reduceIte, reduceCtorEq, Nat.reduceEqDiff, Nat.reduceAdd, Int.reduceLT, Int.reduceLE, Int.reduceNeg, Int.reduceEq, Nat.reduceLT, Nat.reduceSub, Nat.reduceMul, Nat.reduceBEq, Nat.reduceLeDiff, Int.reduceBEq, Int.reduceBNe, Int.reduceToNat, ne_eq, implies_true, bA]
  refine callI (width_spec w) ?_
  simp (config := {maxSteps := 4000000}) only [U_field_wrong, reduceIte, reduceCtorEq, Nat.reduceEqDiff, Nat.reduceAdd, Int.reduceLT, Int.reduceLE, Int.reduceNeg, Int.reduceEq, Nat.reduceLT, Nat.reduceSub, Nat.reduceMul, Nat.reduceBEq, Nat.reduceLeDiff, Int.reduceBEq, Int.reduceBNe, Int.reduceToNat, ne_eq, implies_true, bA]
  all_goals rfl
def idxP (p : Int → Bool) : List Int → Nat → Int
  | [], _ => -1
  | x :: r, i => if p x then i else idxP p r (i + 1)
theorem idxP_at {p : Int → Bool} {l : List Int} {i : Nat} (h : i < l.length) : idxP p (l.drop i) i = if p l[i] then (i : Int) else idxP p (l.drop (i + 1)) (i + 1) := by
  rw [List.drop_eq_getElem_cons h, idxP]
theorem idxP_any {p : Int → Bool} : ∀ (l : List Int) (i : Nat), decide (0 ≤ idxP p l i) = l.any p
  | [], i => by simp [idxP]
  | x :: r, i => by
    rw [idxP, List.any_cons]
    by_cases h : p x = true
    · simp [h]
    · simp only [Bool.not_eq_true] at h; simp [h, idxP_any r (i + 1)]
theorem idx_spec (g : Nat) (p : Int → Bool) (l : List Int) (hl : l.length ≤ 1000000) (hp : ∀ x, PCall Tryd.prog g [.int .i64 x] (.bool (p x))) :
    PCall Tryd.prog 51 [.slc (rowsZ .i64 l), .fn (.func g) [] []] (.int .i64 (idxP p l 0)) := by
  refine pcall_go Tryd.func51 comp_slices_IndexFunc_int ?_
  simp (config := {maxSteps := 4000000}) only [U_slices_IndexFunc_int, reduceIte, reduceCtorEq, Nat.reduceEqDiff, Nat.reduceAdd, Int.reduceLT, Int.reduceLE, Int.reduceNeg, Int.reduceEq, Nat.reduceLT, Nat.reduceSub, Nat.reduceMul, Nat.reduceBEq, Nat.reduceLeDiff, Int.reduceBEq, Int.reduceBNe, Int.reduceToNat, ne_eq, implies_true, bA]
  refine loopF (fun i : Nat => ⟨ofL [(0, .slc (rowsZ .i64 l)), (1, .fn (.func g) [] []), (7, .int .i64 l.length), (8, .int .i64 i)], []⟩) (fun i => i ≤ l.length ∧ idxP p (l.drop i) i = idxP p l 0) (fun i => l.length - i) 0 ?_ ⟨Nat.zero_le _, rfl⟩ ?_
  · simp (config := {maxSteps := 4000000}) only [U_slices_IndexFunc_int, reduceIte, reduceCtorEq, Nat.reduceEqDiff, Nat.reduceAdd, Int.reduceLT, Int.reduceLE, Int.reduceNeg, Int.reduceEq, Nat.reduceLT, Nat.reduceSub, Nat.reduceMul, Nat.reduceBEq, Nat.reduceLeDiff, Int.reduceBEq, Int.reduceBNe, Int.reduceToNat, ne_eq, implies_true, bA]
    all_goals rfl
  · intro i ⟨hi, he⟩
    by_cases h : i < l.length
    · have d : decide ((i : Int) < (l.length : Int)) = true := by simpa using h
      have e1 : IntKind.i64.wrap ((i : Int) + 1) = ((i + 1 : Nat) : Int) := by rw [wrapI (by omega) (by omega)]; omega
      simp (config := {maxSteps := 4000000}) only [U_slices_IndexFunc_int, d, islV_Z h, reduceIte, reduceCtorEq, Nat.reduceEqDiff, Nat.reduceAdd, Int.reduceLT, Int.reduceLE, Int.reduceNeg, Int.reduceEq, Nat.reduceLT, Nat.reduceSub, Nat.reduceMul, Nat.reduceBEq, Nat.reduceLeDiff, Int.reduceBEq, Int.reduceBNe, Int.reduceToNat, ne_eq, implies_true, bA]
      refine callI (hp _) ?_
      rw [idxP_at h] at he
      by_cases hq : p l[i] = true
      · simp (config := {maxSteps := 4000000}) only [U_slices_IndexFunc_int, hq, e1, reduceIte, reduceCtorEq, Nat.reduceEqDiff, Nat.reduceAdd, Int.reduceLT, Int.reduceLE, Int.reduceNeg, Int.reduceEq, Nat.reduceLT, Nat.reduceSub, Nat.reduceMul, Nat.reduceBEq, Nat.reduceLeDiff, Int.reduceBEq, Int.reduceBNe, Int.reduceToNat, ne_eq, implies_true, bA]
        simp only [hq, if_true] at he
        rw [← he]
      · simp only [Bool.not_eq_true] at hq
        simp (config := {maxSteps := 4000000}) only [U_slices_IndexFunc_int, hq, e1, reduceIte, reduceCtorEq, Nat.reduceEqDiff, Nat.reduceAdd, Int.reduceLT, Int.reduceLE, Int.reduceNeg, Int.reduceEq, Nat.reduceLT, Nat.reduceSub, Nat.reduceMul, Nat.reduceBEq, Nat.reduceLeDiff, Int.reduceBEq, Int.reduceBNe, Int.reduceToNat, ne_eq, implies_true, bA]
        simp only [hq, Bool.false_eq_true, if_false] at he
        exact ⟨i + 1, rfl, ⟨by omega, he⟩, by omega⟩
    · have d : decide ((i : Int) < (l.length : Int)) = false := by simpa using h
      have : i = l.length := by omega
      subst this
      simp (config := {maxSteps := 4000000}) only [U_slices_IndexFunc_int, d, reduceIte, reduceCtorEq, Nat.reduceEqDiff, Nat.reduceAdd, Int.reduceLT, Int.reduceLE, Int.reduceNeg, Int.reduceEq, Nat.reduceLT, Nat.reduceSub, Nat.reduceMul, Nat.reduceBEq, Nat.reduceLeDiff, Int.reduceBEq, Int.reduceBNe, Int.reduceToNat, ne_eq, implies_true, bA]
      rw [← he]; simp [idxP]
theorem contains_spec (g : Nat) (p : Int → Bool) (l : List Int) (hl : l.length ≤ 1000000) (hp : ∀ x, PCall Tryd.prog g [.int .i64 x] (.bool (p x))) :
    PCall Tryd.prog 31 [.slc (rowsZ .i64 l), .fn (.func g) [] []] (.bool (l.any p)) := by
  refine pcall_go Tryd.func31 comp_slices_ContainsFunc_int ?_
  simp (config := {maxSteps := 4000000}) only [U_slices_ContainsFunc_int, reduceIte, reduceCtorEq, Nat.reduceEqDiff, Nat.reduceAdd, Int.reduceLT, Int.reduceLE, Int.reduceNeg, Int.reduceEq, Nat.reduceLT, Nat.reduceSub, Nat.reduceMul, Nat.reduceBEq, Nat.reduceLeDiff, Int.reduceBEq, Int.reduceBNe, Int.reduceToNat, ne_eq, implies_true, bA]
  refine callI (idx_spec g p l hl hp) ?_
  simp (config := {maxSteps := 4000000}) only [U_slices_ContainsFunc_int, reduceIte, reduceCtorEq, Nat.reduceEqDiff, Nat.reduceAdd, Int.reduceLT, Int.reduceLE, Int.reduceNeg, Int.reduceEq, Nat.reduceLT, Nat.reduceSub, Nat.reduceMul, Nat.reduceBEq, Nat.reduceLeDiff, Int.reduceBEq, Int.reduceBNe, Int.reduceToNat, ne_eq, implies_true, bA]
  rw [idxP_any]
def badW (ws : List Int) : Bool := ws.any fun w => !wid w
theorem badW_get {ws : List Int} (h : badW ws = false) {i : Nat} (hi : i < ws.length) : 1 ≤ ws[i] ∧ ws[i] ≤ 8 := by
  simp only [badW, List.any_eq_false] at h
  have := h ws[i] (List.getElem_mem hi)
  exact wid_iff.1 (by simpa using this)
/-- What is taken by widths, all of them widths. -/
def takeL : List UInt8 → List Int → Option (List Nat × List UInt8)
  | s, [] => some ([], s)
  | s, w :: ws => if s.length < w.toNat then none else match takeL (s.drop w.toNat) ws with
    | none => none
    | some (ns, r) => some (leN (s.take w.toNat) :: ns, r)
def takeS (s : List UInt8) (ws : List Int) : List Nat × List UInt8 × Int :=
  if badW ws = true then ([], [], 1) else match takeL s ws with
  | none => ([], [], 5)
  | some (ns, r) => (ns, r, 0)
/-- What is taken by the widths from one on, behind those of others. -/
def goOn (s : List UInt8) (ws : List Int) (ns : List Nat) : List Nat × List UInt8 × Int :=
  match takeL s ws with
  | none => ([], [], 5)
  | some (ms, r) => (ns ++ ms, r, 0)
theorem goOn_nil {s ns} : goOn s [] ns = (ns, s, 0) := by simp [goOn, takeL]
theorem goOn_short {s : List UInt8} {w ws ns} (h : s.length < w.toNat) : goOn s (w :: ws) ns = ([], [], 5) := by simp [goOn, takeL, h]
theorem goOn_one {s : List UInt8} {w ws ns} (h : ¬ s.length < w.toNat) : goOn s (w :: ws) ns = goOn (s.drop w.toNat) ws (ns ++ [leN (s.take w.toNat)]) := by
  simp only [goOn, takeL, h, if_false]
  cases takeL (s.drop w.toNat) ws with
  | none => rfl
  | some x => obtain ⟨a, b⟩ := x; simp
theorem takeS_ok {s ws} (h : badW ws = false) : takeS s ws = goOn s ws [] := by
  simp only [takeS, h, goOn]; cases takeL s ws <;> simp
theorem takeL_drop {s : List UInt8} {w : Int} {ws : List Int} {a i : Nat} (h : i < ws.length) (ha : a ≤ s.length) (h2 : ¬ s.length - a < ws[i].toNat) (ns : List Nat) :
    goOn (s.drop a) (ws.drop i) ns = goOn (s.drop (a + ws[i].toNat)) (ws.drop (i + 1)) (ns ++ [leN ((s.drop a).take ws[i].toNat)]) := by
  rw [List.drop_eq_getElem_cons h, goOn_one (by simpa using h2), List.drop_drop]

theorem take_spec (s : List UInt8) (ws : List Int) (hs : s.length ≤ 9223372036854775807) (hw : ws.length ≤ 300) :
    PCall Tryd.prog 27 [.str s, .slc (rowsZ .i64 ws)] (.tup [.slc (rowsN .u64 (takeS s ws).1), .str (takeS s ws).2.1, .int .i64 (takeS s ws).2.2]) := by
  refine pcall_go Tryd.func27 comp_field_Take ?_
  simp (config := {maxSteps := 4000000}) only [U_field_Take, reduceIte, reduceCtorEq, Nat.reduceEqDiff, Nat.reduceAdd, Int.reduceLT, Int.reduceLE, Int.reduceNeg, Int.reduceEq, Nat.reduceLT, Nat.reduceSub, Nat.reduceMul, Nat.reduceBEq, Nat.reduceLeDiff, Int.reduceBEq, Int.reduceBNe, Int.reduceToNat, ne_eq, implies_true, bA]
  refine callI (contains_spec _ _ ws (by omega) wrong_spec) ?_
  by_cases hb : badW ws = true
  · have d : (ws.any fun w => !wid w) = true := hb
    simp (config := {maxSteps := 4000000}) only [U_field_Take, d, reduceIte, reduceCtorEq, Nat.reduceEqDiff, Nat.reduceAdd, Int.reduceLT, Int.reduceLE, Int.reduceNeg, Int.reduceEq, Nat.reduceLT, Nat.reduceSub, Nat.reduceMul, Nat.reduceBEq, Nat.reduceLeDiff, Int.reduceBEq, Int.reduceBNe, Int.reduceToNat, ne_eq, implies_true, bA]
    simp [takeS, hb, rowsN]
  · simp only [Bool.not_eq_true] at hb
    have d : (ws.any fun w => !wid w) = false := hb
    simp (config := {maxSteps := 4000000}) only [U_field_Take, d, reduceIte, reduceCtorEq, Nat.reduceEqDiff, Nat.reduceAdd, Int.reduceLT, Int.reduceLE, Int.reduceNeg, Int.reduceEq, Nat.reduceLT, Nat.reduceSub, Nat.reduceMul, Nat.reduceBEq, Nat.reduceLeDiff, Int.reduceBEq, Int.reduceBNe, Int.reduceToNat, ne_eq, implies_true, bA]
    refine loopF (fun x : Nat × Nat × List Nat => ⟨ofL [(0, .str s), (4, .osl 0 0 x.2.2.length), (7, .int .i64 x.2.1), (14, .slc (rowsZ .i64 ws)), (15, .int .i64 ws.length), (16, .int .i64 x.1)], [.list 1 (rowsN .u64 x.2.2)]⟩)
      (fun x => x.1 ≤ ws.length ∧ x.2.1 ≤ s.length ∧ x.2.2.length = x.1 ∧ goOn (s.drop x.2.1) (ws.drop x.1) x.2.2 = takeS s ws) (fun x => ws.length - x.1) (0, 0, []) ?_ ⟨Nat.zero_le _, Nat.zero_le _, rfl, by rw [takeS_ok hb]; rfl⟩ ?_
    · simp (config := {maxSteps := 4000000}) only [U_field_Take, rowsN_nil, reduceIte, reduceCtorEq, Nat.reduceEqDiff, Nat.reduceAdd, Int.reduceLT, Int.reduceLE, Int.reduceNeg, Int.reduceEq, Nat.reduceLT, Nat.reduceSub, Nat.reduceMul, Nat.reduceBEq, Nat.reduceLeDiff, Int.reduceBEq, Int.reduceBNe, Int.reduceToNat, ne_eq, implies_true, bA]
      all_goals rfl
    · intro ⟨i, a, ns⟩ ⟨hi, ha, hn, he⟩
      simp only [] at hi ha hn he ⊢
      by_cases h : i < ws.length
      · have d1 : decide ((i : Int) < (ws.length : Int)) = true := by simpa using h
        have hwi := badW_get hb h
        have e1 : IntKind.i64.wrap ((i : Int) + 1) = ((i + 1 : Nat) : Int) := by rw [wrapI (by omega) (by omega)]; omega
        simp (config := {maxSteps := 4000000}) only [U_field_Take, d1, islV_Z h, reduceIte, reduceCtorEq, Nat.reduceEqDiff, Nat.reduceAdd, Int.reduceLT, Int.reduceLE, Int.reduceNeg, Int.reduceEq, Nat.reduceLT, Nat.reduceSub, Nat.reduceMul, Nat.reduceBEq, Nat.reduceLeDiff, Int.reduceBEq, Int.reduceBNe, Int.reduceToNat, ne_eq, implies_true, bA]
        refine callI (get_spec s a ws[i] hs (by omega) (by omega) (by omega) (by omega)) ?_
        have hwid : wid ws[i] = true := wid_iff.2 hwi
        by_cases h2 : s.length - a < ws[i].toNat
        · have hg : getS s a ws[i] = (0, 5) := by
            simp only [getS, hwid]
            rw [if_neg (by simp), if_pos (by omega)]
          have hr : takeS s ws = ([], [], 5) := by
            rw [← he, List.drop_eq_getElem_cons h, goOn_short (by simpa using h2)]
          simp (config := {maxSteps := 4000000}) only [U_field_Take, hg, hr, reduceIte, reduceCtorEq, Nat.reduceEqDiff, Nat.reduceAdd, Int.reduceLT, Int.reduceLE, Int.reduceNeg, Int.reduceEq, Nat.reduceLT, Nat.reduceSub, Nat.reduceMul, Nat.reduceBEq, Nat.reduceLeDiff, Int.reduceBEq, Int.reduceBNe, Int.reduceToNat, ne_eq, implies_true, bA]
          simp [rowsN]
        · have hg : getS s a ws[i] = (leN ((s.drop a).take ws[i].toNat), 0) := by
            simp only [getS, hwid]
            rw [if_neg (by simp), if_neg (by omega)]; simp
          have e2 : IntKind.i64.wrap ((a : Int) + ws[i]) = ((a + ws[i].toNat : Nat) : Int) := by rw [wrapI (by omega) (by omega)]; omega
          simp (config := {maxSteps := 4000000}) only [U_field_Take, hg, app_N (k := .u64) (l := ns) (ob := [AObj.list 1 (rowsN .u64 ns)]) (o := 0) (n := ns.length) (fb := []) (x := leN ((s.drop a).take ws[i].toNat)) rfl rfl rfl (by omega), e1, e2, reduceIte, reduceCtorEq, Nat.reduceEqDiff, Nat.reduceAdd, Int.reduceLT, Int.reduceLE, Int.reduceNeg, Int.reduceEq, Nat.reduceLT, Nat.reduceSub, Nat.reduceMul, Nat.reduceBEq, Nat.reduceLeDiff, Int.reduceBEq, Int.reduceBNe, Int.reduceToNat, ne_eq, implies_true, bA]
          refine ⟨(i + 1, a + ws[i].toNat, ns ++ [leN ((s.drop a).take ws[i].toNat)]), ?_, ⟨h, by show a + ws[i].toNat ≤ s.length; omega, by simp [hn], ?_⟩, by show ws.length - (i + 1) < ws.length - i; omega⟩
          · simp only [List.length_append, List.length_cons, List.length_nil]
          · rw [← he, takeL_drop (w := 0) h ha h2]
      · have d1 : decide ((i : Int) < (ws.length : Int)) = false := by simpa using h
        have : i = ws.length := by omega
        subst this
        have hr : takeS s ws = (ns, s.drop a, 0) := by rw [← he]; simp [goOn_nil]
        simp (config := {maxSteps := 4000000}) only [U_field_Take, d1, sstrV_from ha, hr, rowsO_all (rows := rowsN .u64 ns) rowsN_len.symm, reduceIte, reduceCtorEq, Nat.reduceEqDiff, Nat.reduceAdd, Int.reduceLT, Int.reduceLE, Int.reduceNeg, Int.reduceEq, Nat.reduceLT, Nat.reduceSub, Nat.reduceMul, Nat.reduceBEq, Nat.reduceLeDiff, Int.reduceBEq, Int.reduceBNe, Int.reduceToNat, ne_eq, implies_true, bA]

end Go.Proofs.YtdgpiobmncohjaaDoor.Aw
