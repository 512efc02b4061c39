/-
 What the functions of the package 'ext' compute: tidying, cutting, laying over, clipping.; What the functions of the package 'ext' compute, and the document's: finding, counting, pages; and the helpers of the statements.; slices.IndexFunc, DeleteFunc and BinarySearchFunc at boxes of extents; slices.Delete of one node.
-/
import Derived.Test.YtdgpiobmncohjaaGreatDoorKaq
set_option linter.all false
namespace Go.Proofs.YtdgpiobmncohjaaGreatDoor.Aw
open Go.RowKit
theorem tidy_spec (l : List Xt) (hc : Chain 0 l) : PCall Tryz.prog 90 [.slc (l.map rowE)] (.own 4 ((tidyS l).map rowE)) := by
 refine pcall_go Tryz.func90 E90.h ?_
 have hm := chain_len0 hc
 simp only [U90, reduceIte, reduceCtorEq, Nat.reduceEqDiff, Nat.reduceAdd, Int.reduceLT, Int.reduceLE, Int.reduceNeg, Int.reduceEq, Nat.reduceLT, Nat.reduceSub, Nat.reduceMul, Nat.reduceBEq, Nat.reduceLeDiff, Int.reduceBEq, Int.reduceBNe, Int.reduceToNat, bA]
 refine loopF (fun i : Nat => ⟨ofL [(3, .osl 0 0 (tidyS (l.take i)).length), (7, .slc (l.map rowE)), (8, .int .i64 l.length), (9, .int .i64 i)], [.list 4 ((tidyS (l.take i)).map rowE)]⟩) (fun i => i ≤ l.length) (fun i => l.length - i) 0 ?_ (Nat.zero_le _) ?_
 ·simp only [U90, reduceIte, reduceCtorEq, Nat.reduceEqDiff, Nat.reduceAdd, Int.reduceLT, Int.reduceLE, Int.reduceNeg, Int.reduceEq, Nat.reduceLT, Nat.reduceSub, Nat.reduceMul, Nat.reduceBEq, Nat.reduceLeDiff, Int.reduceBEq, Int.reduceBNe, Int.reduceToNat, bA]
  all_goals rfl
 ·intro i hi
  by_cases h : i < l.length
  ·have d : decide ((i : Int) < (l.length : Int)) = true := by simpa using h
   have e1 : IntKind.i64.wrap ((i : Int) + 1) = ((i + 1 : Nat) : Int) := by rw [wrapI (by omega) (by omega)]; omega
   have ht := tidy_take l i h
   have hok := (tidy_ok (chain_take (i := i) hc)).1
   have hlen := tidy_len (l.take i)
   have hti : (l.take i).length = i := by simp; omega
   have ho : OneP l[i] := chain_one hc _ (List.getElem_mem h)
   generalize hout : tidyS (l.take i) = out at ht hok hlen
   rcases snoc_cases out with rfl | ⟨r, k, rfl⟩
   ·have d2 : decide ((0 : Int) ≤ -1) = false := by decide
    have e2 : IntKind.i64.wrap (0 - 1) = -1 := by decide
    have ha : appO [AObj.list 4 (([] : List Xt).map rowE), AObj.box (rowE l[i])] [] none 4 (.osl 0 0 0) (some [[.int .i64 l[i].fr, .int .i64 l[i].n, .int .i64 l[i].kd, .int .i64 l[i].at_]]) = some (.osl 0 0 (0 + 1), [AObj.list 4 (([] ++ [l[i]] : List Xt).map rowE), AObj.box (rowE l[i])]) :=
     app_map (ob := [AObj.list 4 (([] : List Xt).map rowE), AObj.box (rowE l[i])]) (fb := []) (nw := none) (o := 0) (e := 4) (g := rowE) (l := []) (m := [l[i]]) rfl rfl rfl (by simp) (by simp) rowE_len
    simp only [rowE, List.map_nil] at ha
    simp only [U90, d, islV_map (g := rowE) h (rowE_len _), rowE, List.map_nil, List.length_nil, rowsO_nil, e2, decide_false, ha, e1, reduceIte, reduceCtorEq, Nat.reduceEqDiff, Nat.reduceAdd, Int.reduceLT, Int.reduceLE, Int.reduceNeg, Int.reduceEq, Nat.reduceLT, Nat.reduceSub, Nat.reduceMul, Nat.reduceBEq, Nat.reduceLeDiff, Int.reduceBEq, Int.reduceBNe, Int.reduceToNat, bA]
    refine ⟨i + 1, ?_, h, by omega⟩
    rw [ht]; simp [pushT, rowE]
   ·have hk : OneP k := chain_mem hok
    rw [pushT_snoc] at ht
    have hl1 : (r ++ [k]).length = r.length + 1 := by simp
    have hrl : r.length < (r ++ [k]).length := by simp
    have hgk : (r ++ [k])[r.length] = k := by simp
    have d2 : decide ((0 : Int) ≤ (r.length : Int)) = true := by simp
    have e2 : IntKind.i64.wrap (((r.length + 1 : Nat) : Int) - 1) = (r.length : Int) := by rw [wrapI (by omega) (by omega)]; omega
    have hro : rowsO (some (AObj.list 4 ((r ++ [k]).map rowE))) 0 (r.length + 1) = some ((r ++ [k]).map rowE) := by simp [rowsO]
    have hrl2 : ((r ++ [k]).map rowE).length = r.length + 1 := by simp
    have hI : islO (some (AObj.list 4 ((r ++ [k]).map rowE))) 4 0 0 (r.length + 1) (.int .i64 (r.length : Int)) = some (.lref 0 r.length 0 (r.length + 1)) := islO_map hl1.symm hrl
    have hL : ldL (some (AObj.list 4 ((r ++ [k]).map rowE))) r.length 0 (r.length + 1) 4 = some [.int .i64 k.fr, .int .i64 k.n, .int .i64 k.kd, .int .i64 k.at_] := by
     rw [ldL_map (g := rowE) hl1.symm hrl (by simp [rowE])]; rw [hgk]; rfl
    simp only [U90, d, islV_map (g := rowE) h (rowE_len _), rowE, hl1, hro, hrl2, e2, d2, hI, hL, reduceIte, reduceCtorEq, Nat.reduceEqDiff, Nat.reduceAdd, Int.reduceLT, Int.reduceLE, Int.reduceNeg, Int.reduceEq, Nat.reduceLT, Nat.reduceSub, Nat.reduceMul, Nat.reduceBEq, Nat.reduceLeDiff, Int.reduceBEq, Int.reduceBNe, Int.reduceToNat, bA]
    refine callI (together_spec k l[i] hk) ?_
    by_cases hq : TogP k l[i]
    ·have d3 := decide_eq_true hq
     rw [if_pos hq] at ht
     have hmo := merge_one hk ho hq
     have e3 : IntKind.i64.wrap (k.n + l[i].n) = k.n + l[i].n := by
      have h1 := hmo.2.1; have h2 := hmo.2.2.2.1; have h3 := hmo.1
      simp only [] at h1 h2 h3
      exact wrapI (by omega) (by omega)
     have hL1 : ldL (some (AObj.list 4 ((r ++ [k]).map rowE))) r.length 1 (r.length + 1) 1 = some [.int .i64 k.n] := by
      rw [ldL_map (g := rowE) hl1.symm hrl (by simp [rowE])]; rw [hgk]; rfl
     have hS : ∀ ob, stL ob 0 (some (AObj.list 4 ((r ++ [k]).map rowE))) r.length 1 (r.length + 1) [.int .i64 (k.n + l[i].n)] = some (.bot, ob.set 0 (.list 4 (((r ++ [k]).set r.length { k with n := k.n + l[i].n }).map rowE))) := fun ob =>
      stL_map (g := rowE) hl1.symm hrl (by simp [rowE]) (by rw [hgk]; rfl)
     have hset : (r ++ [k]).set r.length { k with n := k.n + l[i].n } = r ++ [{ k with n := k.n + l[i].n }] := by simp
     simp only [U90, rowE, d3, hI, hL1, e3, hS, e1, reduceIte, reduceCtorEq, Nat.reduceEqDiff, Nat.reduceAdd, Int.reduceLT, Int.reduceLE, Int.reduceNeg, Int.reduceEq, Nat.reduceLT, Nat.reduceSub, Nat.reduceMul, Nat.reduceBEq, Nat.reduceLeDiff, Int.reduceBEq, Int.reduceBNe, Int.reduceToNat, bA]
     refine ⟨i + 1, ?_, h, by omega⟩
     rw [ht, hset]; simp
    ·have d3 := decide_eq_false hq
     rw [if_neg hq] at ht
     have ha : appO [AObj.list 4 ((r ++ [k]).map rowE), AObj.box (rowE l[i])] [] none 4 (.osl 0 0 (r.length + 1)) (some [[.int .i64 l[i].fr, .int .i64 l[i].n, .int .i64 l[i].kd, .int .i64 l[i].at_]]) = some (.osl 0 0 (r.length + 1 + 1), [AObj.list 4 ((r ++ [k] ++ [l[i]]).map rowE), AObj.box (rowE l[i])]) :=
      app_map (ob := [AObj.list 4 ((r ++ [k]).map rowE), AObj.box (rowE l[i])]) (fb := []) (nw := none) (o := 0) (e := 4) (g := rowE) (l := r ++ [k]) (m := [l[i]]) rfl rfl hl1.symm (by omega) (by simp) rowE_len
     simp only [rowE] at ha
     simp only [U90, rowE, d3, ha, e1, reduceIte, reduceCtorEq, Nat.reduceEqDiff, Nat.reduceAdd, Int.reduceLT, Int.reduceLE, Int.reduceNeg, Int.reduceEq, Nat.reduceLT, Nat.reduceSub, Nat.reduceMul, Nat.reduceBEq, Nat.reduceLeDiff, Int.reduceBEq, Int.reduceBNe, Int.reduceToNat, bA]
     refine ⟨i + 1, ?_, h, by omega⟩
     rw [ht]; simp [rowE]
  ·have d : decide ((i : Int) < (l.length : Int)) = false := by simpa using h
   have : i = l.length := by omega
   subst this
   simp only [U90, d, List.take_length, retO_list (e := 4) (rows := (tidyS l).map rowE) (n := (tidyS l).length) (by simp), reduceIte, reduceCtorEq, Nat.reduceEqDiff, Nat.reduceAdd, Int.reduceLT, Int.reduceLE, Int.reduceNeg, Int.reduceEq, Nat.reduceLT, Nat.reduceSub, Nat.reduceMul, Nat.reduceBEq, Nat.reduceLeDiff, Int.reduceBEq, Int.reduceBNe, Int.reduceToNat, bA]
def rowXL (l : List Xt) : List PV := [.slc (l.map rowE)]
theorem concat_spec (L : List (List Xt)) (h1 : L.length ≤ 1000) (h2 : L.flatten.length ≤ 16777216) : PCall Tryz.prog 91 [.slc (L.map rowXL)] (.own 4 (L.flatten.map rowE)) := by
 refine pcall_go Tryz.func91 E91.h ?_
 have htl : ∀ i, (L.take i).flatten.length ≤ L.flatten.length := fun i => by
  have : L.flatten.length = (L.take i).flatten.length + (L.drop i).flatten.length := by rw [← List.length_append, ← List.flatten_append, List.take_append_drop]
  omega
 have htk : ∀ i (h : i < L.length), (L.take (i + 1)).flatten = (L.take i).flatten ++ L[i] := fun i h => by
  rw [List.take_succ_eq_append_getElem h, List.flatten_append]; simp
 simp only [U91, reduceIte, reduceCtorEq, Nat.reduceEqDiff, Nat.reduceAdd, Int.reduceLT, Int.reduceLE, Int.reduceNeg, Int.reduceEq, Nat.reduceLT, Nat.reduceSub, Nat.reduceMul, Nat.reduceBEq, Nat.reduceLeDiff, Int.reduceBEq, Int.reduceBNe, Int.reduceToNat, bA]
 refine loopF (fun i : Nat => ⟨ofL [(0, .slc (L.map rowXL)), (3, .int .i64 (L.take i).flatten.length), (9, .slc (L.map rowXL)), (10, .int .i64 L.length), (11, .int .i64 i)], []⟩) (fun i => i ≤ L.length) (fun i => L.length - i) 0 ?_ (Nat.zero_le _) ?_
 ·simp only [U91, reduceIte, reduceCtorEq, Nat.reduceEqDiff, Nat.reduceAdd, Int.reduceLT, Int.reduceLE, Int.reduceNeg, Int.reduceEq, Nat.reduceLT, Nat.reduceSub, Nat.reduceMul, Nat.reduceBEq, Nat.reduceLeDiff, Int.reduceBEq, Int.reduceBNe, Int.reduceToNat, bA]
  all_goals rfl
 ·intro i hi
  by_cases h : i < L.length
  ·have d : decide ((i : Int) < (L.length : Int)) = true := by simpa using h
   have e1 : IntKind.i64.wrap ((i : Int) + 1) = ((i + 1 : Nat) : Int) := by rw [wrapI (by omega) (by omega)]; omega
   have a1 := htl (i + 1)
   have a2 := htk i h
   have a3 : (L.take (i + 1)).flatten.length = (L.take i).flatten.length + L[i].length := by rw [a2, List.length_append]
   have e2 : IntKind.i64.wrap (((L.take i).flatten.length : Int) + (L[i].length : Int)) = ((L.take (i + 1)).flatten.length : Int) := by rw [wrapI (by omega) (by omega)]; omega
   have d2 : decide (((L.take (i + 1)).flatten.length : Int) < 0) = false := by simp
   have hlm : (L[i].map rowE).length = L[i].length := by simp
   simp only [U91, d, islV_map (g := rowXL) (e := 1) h rfl, rowXL, hlm, e2, d2, e1, reduceIte, reduceCtorEq, Nat.reduceEqDiff, Nat.reduceAdd, Int.reduceLT, Int.reduceLE, Int.reduceNeg, Int.reduceEq, Nat.reduceLT, Nat.reduceSub, Nat.reduceMul, Nat.reduceBEq, Nat.reduceLeDiff, Int.reduceBEq, Int.reduceBNe, Int.reduceToNat, bA]
   exact ⟨i + 1, rfl, h, by omega⟩
  ·have d : decide ((i : Int) < (L.length : Int)) = false := by simpa using h
   have : i = L.length := by omega
   subst this
   simp only [U91, d, List.take_length, reduceIte, reduceCtorEq, Nat.reduceEqDiff, Nat.reduceAdd, Int.reduceLT, Int.reduceLE, Int.reduceNeg, Int.reduceEq, Nat.reduceLT, Nat.reduceSub, Nat.reduceMul, Nat.reduceBEq, Nat.reduceLeDiff, Int.reduceBEq, Int.reduceBNe, Int.reduceToNat, bA]
   refine callI (grow_spec _ h2) ?_
   simp only [U91, reduceIte, reduceCtorEq, Nat.reduceEqDiff, Nat.reduceAdd, Int.reduceLT, Int.reduceLE, Int.reduceNeg, Int.reduceEq, Nat.reduceLT, Nat.reduceSub, Nat.reduceMul, Nat.reduceBEq, Nat.reduceLeDiff, Int.reduceBEq, Int.reduceBNe, Int.reduceToNat, bA]
   refine loopF (fun i : Nat => ⟨ofL [(6, .osl 0 0 (L.take i).flatten.length), (25, .slc (L.map rowXL)), (26, .int .i64 L.length), (27, .int .i64 i)], [.list 4 ((L.take i).flatten.map rowE)]⟩) (fun i => i ≤ L.length) (fun i => L.length - i) 0 ?_ (Nat.zero_le _) ?_
   ·simp only [U91, reduceIte, reduceCtorEq, Nat.reduceEqDiff, Nat.reduceAdd, Int.reduceLT, Int.reduceLE, Int.reduceNeg, Int.reduceEq, Nat.reduceLT, Nat.reduceSub, Nat.reduceMul, Nat.reduceBEq, Nat.reduceLeDiff, Int.reduceBEq, Int.reduceBNe, Int.reduceToNat, bA]
    all_goals rfl
   ·intro i hi
    by_cases h : i < L.length
    ·have d : decide ((i : Int) < (L.length : Int)) = true := by simpa using h
     have e1 : IntKind.i64.wrap ((i : Int) + 1) = ((i + 1 : Nat) : Int) := by rw [wrapI (by omega) (by omega)]; omega
     have a1 := htl (i + 1)
     have a2 := htk i h
     have a3 : (L.take (i + 1)).flatten.length = (L.take i).flatten.length + L[i].length := by rw [a2, List.length_append]
     have ha : appO [AObj.list 4 ((L.take i).flatten.map rowE)] [] none 4 (.osl 0 0 (L.take i).flatten.length) (some (L[i].map rowE)) = some (.osl 0 0 ((L.take i).flatten.length + L[i].length), [AObj.list 4 (((L.take i).flatten ++ L[i]).map rowE)]) :=
      app_map (ob := [AObj.list 4 ((L.take i).flatten.map rowE)]) (fb := []) (nw := none) (o := 0) (e := 4) (g := rowE) rfl rfl rfl (by omega) (by omega) rowE_len
     simp only [U91, d, islV_map (g := rowXL) (e := 1) h rfl, rowXL, ha, e1, reduceIte, reduceCtorEq, Nat.reduceEqDiff, Nat.reduceAdd, Int.reduceLT, Int.reduceLE, Int.reduceNeg, Int.reduceEq, Nat.reduceLT, Nat.reduceSub, Nat.reduceMul, Nat.reduceBEq, Nat.reduceLeDiff, Int.reduceBEq, Int.reduceBNe, Int.reduceToNat, bA]
     refine ⟨i + 1, ?_, h, by omega⟩
     rw [a2, List.length_append]
    ·have d : decide ((i : Int) < (L.length : Int)) = false := by simpa using h
     have : i = L.length := by omega
     subst this
     simp only [U91, d, List.take_length, retO_list (e := 4) (rows := L.flatten.map rowE) (n := L.flatten.length) (by rw [List.length_map]), reduceIte, reduceCtorEq, Nat.reduceEqDiff, Nat.reduceAdd, Int.reduceLT, Int.reduceLE, Int.reduceNeg, Int.reduceEq, Nat.reduceLT, Nat.reduceSub, Nat.reduceMul, Nat.reduceBEq, Nat.reduceLeDiff, Int.reduceBEq, Int.reduceBNe, Int.reduceToNat, bA]
instance (f n : Int) : Decidable (SpanP f n) := by unfold SpanP; infer_instance
def errR : PV := .tup [.slc [], .int .i64 1]
def okR (l : List Xt) : PV := .tup [.slc (l.map rowE), .int .i64 0]
open Go.RowKit
def idxS {α : Type} (c : α → Bool) (l : List α) : Int := match l.findIdx? c with
 | some i => (i : Int)
 | none => -1
theorem idx_hit {α : Type} {c : α → Bool} {l : List α} {i : Nat} (h : i < l.length) (hc : c l[i] = true) (hj : ∀ j (hj : j < l.length), j < i → c l[j] = false) : idxS c l = (i : Int) := by
 have : l.findIdx? c = some i := List.findIdx?_eq_some_iff_getElem.2 ⟨h, hc, fun j hlt => by simpa using hj j (by omega) hlt⟩
 rw [idxS, this]
theorem idx_none {α : Type} {c : α → Bool} {l : List α} (hj : ∀ j (hj : j < l.length), c l[j] = false) : idxS c l = -1 := by
 have : l.findIdx? c = none := List.findIdx?_eq_none_iff.2 fun e he => by
  obtain ⟨j, h, rfl⟩ := List.mem_iff_getElem.1 he
  exact hj j h
 rw [idxS, this]
theorem idx_cases {α : Type} (c : α → Bool) (l : List α) : (∃ i, ∃ h : i < l.length, idxS c l = (i : Int) ∧ c l[i] = true ∧ ∀ j (hj : j < l.length), j < i → c l[j] = false) ∨ (idxS c l = -1 ∧ ∀ j (hj : j < l.length), c l[j] = false) := by
 cases h : l.findIdx? c with
 | none => exact .inr ⟨by rw [idxS, h], fun j hj => by simpa using List.findIdx?_eq_none_iff.1 h _ (List.getElem_mem hj)⟩
 | some i =>
  obtain ⟨h1, h2, h3⟩ := List.findIdx?_eq_some_iff_getElem.1 h
  exact .inl ⟨i, h1, by rw [idxS, h], h2, fun j hj hlt => by simpa using h3 j hlt⟩
end Go.Proofs.YtdgpiobmncohjaaGreatDoor.Aw
namespace Go.Proofs.YtdgpiobmncohjaaGreatDoor.Aw.Ar
open Go.RowKit
def XL (l : List Xt) : List PV := (l.map rowE).flatten
theorem XL_app (a b : List Xt) : XL (a ++ b) = XL a ++ XL b := by simp [XL]
theorem XL_one (e : Xt) : XL [e] = rowE e := by simp [XL]
theorem XL_take (l : List Xt) (i : Nat) : (XL l).take (i * 4) = XL (l.take i) := by
 rw [XL, XL, ← flatten_take (esz := 4) _ i (fun r hr => by obtain ⟨e, _, rfl⟩ := List.mem_map.1 hr; rfl), List.map_take]
theorem XL_drop (l : List Xt) (i : Nat) : (XL l).drop (i * 4) = XL (l.drop i) := by
 rw [XL, XL, ← flatten_drop (esz := 4) _ i (fun r hr => by obtain ⟨e, _, rfl⟩ := List.mem_map.1 hr; rfl), List.map_drop]
theorem XL_row {l : List Xt} {i : Nat} (h : i < l.length) : ((XL l).drop (i * 4)).take 4 = rowE l[i] :=
 flatten_row (esz := 4) (fun r hr => by obtain ⟨e, _, rfl⟩ := List.mem_map.1 hr; rfl) (by simp [h])
theorem ldX {ob : List AObj} {o off c : Nat} {l : List Xt} (h : Arr ob 4 o off l.length c (XL l)) {i : Nat} (hi : i < l.length) : ldB ob[o]? (off + i * 4) 4 = some (rowE l[i]) := by
 obtain ⟨cs, h1, h2, h3, h4⟩ := h
 have : off + i * 4 + 4 ≤ cs.length := by omega
 rw [h1, ldB_box this, ← XL_row hi, ← h4, List.drop_take, List.drop_drop, List.take_take, Nat.min_eq_left (by omega)]
theorem delc_spec (e : Xt) (f : Int) : PCall Tryz.prog 160 [pE e, .fptr [.int .i64 f]] (.bool (e.fr == f)) := by
 refine pcall_dr Tryz.func160 E160.h ?_
 simp only [U160, rowE, seval, bA]
theorem idxA {ob : List AObj} {o off c b : Nat} {l : List Xt} {f : Int} (hA : Arr ob 4 o off l.length c (XL l)) (hb : ob[b]? = some (.box [.int .i64 f])) (hm : l.length ≤ 16777216) :
  RCall Tryz.prog 179 [.asl o off l.length c, .fn (.func 160) [] [.ref b 0]] ob (.int .i64 (idxS (fun e => e.fr == f) l)) := by
 refine RCall.of (K := fun r ob' => r = .int .i64 (idxS (fun e => e.fr == f) l) ∧ ob' = ob) ?_ (fun r ob' h => ⟨h.1, [], by rw [h.2, List.append_nil]⟩) rfl
 refine icall_dr Tryz.func179 E179.h ?_
 simp only [U179, seval, bA]
 refine loopF (fun i : Nat => ⟨ofL [(0, .asl o off l.length c), (1, .fn (.func 160) [] [.ref b 0]), (7, .int .i64 l.length), (8, .int .i64 i)], ob⟩)
  (fun i => i ≤ l.length ∧ ∀ j (h : j < l.length), j < i → (l[j].fr == f) = false) (fun i => l.length - i) 0 ?_ ⟨Nat.zero_le _, fun j _ h => absurd h (by omega)⟩ ?_
 ·simp only [U179, seval, bA]
  all_goals rfl
 ·intro i ⟨hi, hj⟩
  by_cases h : i < l.length
  ·have d : decide ((i : Int) < (l.length : Int)) = true := by simpa using h
   have d' : decide (i < l.length) = true := by simpa using h
   have e1 : IntKind.i64.wrap ((i : Int) + 1) = ((i + 1 : Nat) : Int) := by rw [wrapI (by omega) (by omega)]; omega
   have hld := ldX hA h
   simp only [U179, d, d', hld, rowE, hb, seval, bA]
   refine callS (delc_spec l[i] f) rfl ?_
   by_cases hc : (l[i].fr == f) = true
   ·simp only [U179, hc, seval, bA]
    rw [idx_hit (c := fun e : Xt => e.fr == f) h hc hj]
    exact ⟨_, rfl, rfl⟩
   ·simp only [Bool.not_eq_true] at hc
    simp only [U179, hc, e1, seval, bA]
    refine ⟨i + 1, rfl, ⟨h, fun j hl hlt => ?_⟩, by omega⟩
    by_cases e : j = i
    ·subst e; exact hc
    ·exact hj j hl (by omega)
  ·have d : decide ((i : Int) < (l.length : Int)) = false := by simpa using h
   simp only [U179, d, seval, bA]
   rw [idx_none (c := fun e : Xt => e.fr == f) fun j hl => hj j hl (by omega)]
   exact ⟨_, rfl, rfl⟩
theorem drop_setAt {cs vs : List PV} {a b : Nat} (h : a + vs.length ≤ b) (hb : b ≤ cs.length) : (setAt cs a vs).drop b = cs.drop b := by
 apply List.ext_getElem?
 intro j
 rw [List.getElem?_drop, List.getElem?_drop, setAt_get (by omega), if_neg (by omega)]
theorem take_setAt {cs vs : List PV} {off a b : Nat} (h : off + b ≤ a) (hb : a + vs.length ≤ cs.length) : ((setAt cs a vs).drop off).take b = (cs.drop off).take b := by
 apply List.ext_getElem?
 intro j
 rw [List.getElem?_take, List.getElem?_take, List.getElem?_drop, List.getElem?_drop, setAt_get (by omega)]
 split
 ·rw [if_neg (by omega)]
 ·rfl
abbrev keepX (f : Int) (l : List Xt) : List Xt := l.filter fun e => !(e.fr == f)
theorem keepX_step (f : Int) {l : List Xt} {j : Nat} (h : j < l.length) : keepX f (l.take (j + 1)) = keepX f (l.take j) ++ (if (!(l[j].fr == f)) = true then [l[j]] else []) := by
 rw [keepX, List.take_add_one, List.filter_append, List.getElem?_eq_getElem h]
 simp [List.filter_cons]
theorem delF {ob : List AObj} {o off c b : Nat} {l : List Xt} {f : Int} (hA : Arr ob 4 o off l.length c (XL l)) (hb : ob[b]? = some (.box [.int .i64 f])) (hbo : b ≠ o) (hm : l.length ≤ 1000000) :
  ICall Tryz.prog 159 [.asl o off l.length c, .fn (.func 160) [] [.ref b 0]] ob fun r ob' => r = .asl o off (keepX f l).length c ∧ Arr ob' 4 o off (keepX f l).length c (XL (keepX f l)) ∧ Same ob ob' (· = o) := by
 refine icall_dr Tryz.func159 E159.h ?_
 simp only [U159, seval, bA]
 refine callR (idxA hA hb (by omega)) ?_
 rcases idx_cases (fun e : Xt => e.fr == f) l with ⟨p, hp, hi, hc, hj⟩ | ⟨hi, hj⟩
 ·rw [hi]
  have d0 : ((p : Int) == -1) = false := by simp
  have w0 : IntKind.i64.wrap ((p : Int) + 1) = ((p + 1 : Nat) : Int) := by rw [wrapI (by omega) (by omega)]; omega
  have hk0 : keepX f (l.take p) = l.take p := List.filter_eq_self.2 fun e he => by
   obtain ⟨j, hjl, rfl⟩ := List.mem_take_iff_getElem.1 he
   have := hj j (by omega) (by omega)
   simpa using this
  simp only [U159, d0, w0, seval, bA]
  refine loopF (fun x : Nat × List AObj => ⟨ofL [(0, .asl o off l.length c), (1, .fn (.func 160) [] [.ref b 0]), (5, .int .i64 ((keepX f (l.take x.1)).length : Int)), (6, .int .i64 (x.1 : Int))], x.2⟩)
   (fun x => x.1 ≤ l.length ∧ (keepX f (l.take x.1)).length < x.1 ∧ Same ob x.2 (· = o) ∧ ∃ cs', x.2[o]? = some (.box cs') ∧ off + c * 4 ≤ cs'.length ∧ (cs'.drop off).take ((keepX f (l.take x.1)).length * 4) = XL (keepX f (l.take x.1)) ∧ (cs'.drop (off + x.1 * 4)).take ((l.length - x.1) * 4) = XL (l.drop x.1))
   (fun x => l.length - x.1) (p + 1, ob) ?_ ?_ ?_
  ·have : (keepX f (l.take (p + 1))).length = p := by
    rw [keepX_step f hp, hk0, List.length_append, List.length_take]
    have : (!(l[p].fr == f)) = false := by rw [hc]; rfl
    rw [this]; simp; omega
   simp only [U159, this, seval, bA]
  ·have hk1 : keepX f (l.take (p + 1)) = l.take p := by
    rw [keepX_step f hp, hk0]
    have : (!(l[p].fr == f)) = false := by rw [hc]; rfl
    rw [this]; simp
   have hlp : (l.take p).length = p := by rw [List.length_take]; omega
   obtain ⟨cs, h1, h2, h3, h4⟩ := hA
   refine ⟨hp, by rw [hk1, hlp]; omega, Same.refl _ _, cs, h1, h3, ?_, ?_⟩
   ·simp only [hk1, hlp]
    rw [← XL_take, ← h4, List.take_take, Nat.min_eq_left (by omega)]
   ·rw [← XL_drop, ← h4, List.drop_take, List.drop_drop, Nat.sub_mul]
  ·rintro ⟨j, ob1⟩ ⟨hjl, hkj, hS, cs', hcs, hl, hX, hY⟩
   simp only at hjl hkj hS hcs hX hY
   have hnc : l.length ≤ c := by obtain ⟨_, _, h, _⟩ := hA; exact h
   by_cases h : j < l.length
   ·have d : decide ((j : Int) < (l.length : Int)) = true := by simpa using h
    have d' : decide (j < l.length) = true := by simpa using h
    have d2 : decide ((keepX f (l.take j)).length < l.length) = true := decide_eq_true (by omega)
    have e1 : IntKind.i64.wrap ((j : Int) + 1) = ((j + 1 : Nat) : Int) := by rw [wrapI (by omega) (by omega)]; omega
    have e2 : IntKind.i64.wrap (((keepX f (l.take j)).length : Int) + 1) = (((keepX f (l.take j)).length + 1 : Nat) : Int) := by rw [wrapI (by omega) (by omega)]; omega
    have hld : ldB ob1[o]? (off + j * 4) 4 = some (rowE l[j]) := by
     have hh : off + j * 4 + 4 ≤ cs'.length := by omega
     rw [hcs, ldB_box hh]
     have h5 : (l.drop j)[0]'(by rw [List.length_drop]; omega) = l[j] := by simp
     have h6 := XL_row (l := l.drop j) (i := 0) (by rw [List.length_drop]; omega)
     rw [h5] at h6
     rw [← h6, ← hY, Nat.zero_mul, List.drop_zero, List.take_take, Nat.min_eq_left (by omega)]
    have hb1 : ob1[b]? = some (.box [.int .i64 f]) := hS.get hb hbo
    have ho1 : o < ob1.length := (List.getElem?_eq_some_iff.1 hcs).1
    have hbl1 : b < ob1.length := (List.getElem?_eq_some_iff.1 hb1).1
    have g1 : ∀ (x : AObj), (ob1 ++ [x])[ob1.length]? = some x := fun x => by rw [List.getElem?_append_right (Nat.le_refl _), Nat.sub_self]; rfl
    have g2 : ∀ (x y : AObj), (ob1 ++ [x]).set ob1.length y = ob1 ++ [y] := fun x y => by rw [List.set_append_right _ _ (Nat.le_refl _), Nat.sub_self]; rfl
    have g3 : ∀ (x : AObj), (ob1 ++ [x])[b]? = some (.box [.int .i64 f]) := fun x => by rw [List.getElem?_append_left hbl1]; exact hb1
    have g4 : ∀ (x : AObj), (ob1 ++ [x])[o]? = some (.box cs') := fun x => by rw [List.getElem?_append_left ho1]; exact hcs
    simp only [U159, d, d', hld, rowE, g1, g2, g3, seval, bA]
    refine callS (delc_spec l[j] f) rfl ?_
    have hdr : l.drop j = l[j] :: l.drop (j + 1) := List.drop_eq_getElem_cons h
    have hY2 : (cs'.drop (off + (j + 1) * 4)).take ((l.length - (j + 1)) * 4) = XL (l.drop (j + 1)) := by
     have := congrArg (List.drop 4) hY
     rw [hdr, List.drop_take, List.drop_drop] at this
     rw [show off + (j + 1) * 4 = off + j * 4 + 4 by omega, show (l.length - (j + 1)) * 4 = (l.length - j) * 4 - 4 by omega, this]
     rfl
    by_cases hc2 : (l[j].fr == f) = true
    ·simp only [U159, d, d', hld, rowE, g1, g2, g3, hc2, e1, seval, bA]
     have hks : keepX f (l.take (j + 1)) = keepX f (l.take j) := by
      rw [keepX_step f h, hc2]; simp
     refine ⟨(j + 1, ob1 ++ [AObj.box [.int .i64 l[j].fr, .int .i64 l[j].n, .int .i64 l[j].kd, .int .i64 l[j].at_]]), ?_, ⟨h, ?_, hS.trans (Same.app _ _ _), cs', g4 _, hl, ?_, hY2⟩, by simp; omega⟩
     ·simp only [hks]
     ·simp only [hks]; omega
     ·simp only [hks]; exact hX
    ·simp only [Bool.not_eq_true] at hc2
     have hks : keepX f (l.take (j + 1)) = keepX f (l.take j) ++ [l[j]] := by
      rw [keepX_step f h, hc2]; simp
     have hst : stB (ob1 ++ [AObj.box (rowE l[j])]) o (some (.box cs')) (off + (keepX f (l.take j)).length * 4) (rowE l[j]) = some (.bot, (ob1 ++ [AObj.box (rowE l[j])]).set o (.box (setAt cs' (off + (keepX f (l.take j)).length * 4) (rowE l[j])))) := stB_box (decide_eq_true (by rw [rowE_len]; omega))
     simp only [U159, d, d', d2, hld, rowE, g1, g2, g3, g4, hc2, e1, e2, seval, bA]
     simp only [rowE] at hst
     simp only [U159, d, d', d2, hld, rowE, g1, g2, g3, g4, hc2, e1, e2, hst, seval, bA]
     refine ⟨(j + 1, (ob1 ++ [AObj.box (rowE l[j])]).set o (AObj.box (setAt cs' (off + (keepX f (l.take j)).length * 4) (rowE l[j])))), ?_, ⟨h, ?_, (hS.trans (Same.app _ _ _)).trans (Same.set rfl), _, List.getElem?_set_self (by simp; omega), by rw [setAt_len (by rw [rowE_len]; omega)]; exact hl, ?_, ?_⟩, by simp; omega⟩
     ·simp only [hks, List.length_append, List.length_cons, List.length_nil]; rfl
     ·simp only [hks, List.length_append, List.length_cons, List.length_nil]; omega
     ·have := cells_behind (cs := cs') (row := rowE l[j]) (off := off) (b := (keepX f (l.take j)).length * 4) (by rw [rowE_len]; omega)
      rw [hX] at this
      simp only [hks, List.length_append, List.length_cons, List.length_nil, XL_app, XL_one]
      rw [← this, rowE_len]; congr 1; omega
     ·simp only []
      rw [drop_setAt (by rw [rowE_len]; omega) (by omega)]; exact hY2
   ·have d : decide ((j : Int) < (l.length : Int)) = false := by simpa using h
    have hje : j = l.length := by omega
    subst hje
    rw [List.take_length] at hX hkj
    have s1 : aslB 4 o off l.length c (some ((keepX f l).length : Int)) (some (l.length : Int)) (some (c : Int)) = some (.asl o (off + (keepX f l).length * 4) (l.length - (keepX f l).length) (c - (keepX f l).length)) := aslB_n (by omega)
    have s2 : aslB 4 o off l.length c (some 0) (some ((keepX f l).length : Int)) (some (c : Int)) = some (.asl o off (keepX f l).length c) := aslB_z (by omega)
    simp only [U159, d, List.take_length, s1, s2, seval, bA]
    refine MS_clr (by omega) hcs (by rw [flat_rep]; simp only [List.length_cons, List.length_nil]; omega) ?_
    simp only [U159, d, List.take_length, s1, s2, seval, bA]
    refine ⟨_, rfl, rfl, ⟨_, List.getElem?_set_self (List.getElem?_eq_some_iff.1 hcs).1, by omega, by rw [setAt_len (by rw [flat_rep]; simp only [List.length_cons, List.length_nil]; omega)]; exact hl, ?_⟩, hS.trans (Same.set rfl)⟩
    rw [take_setAt (by omega) (by rw [flat_rep]; simp only [List.length_cons, List.length_nil]; omega)]
    exact hX
 ·rw [hi]
  have hk : keepX f l = l := List.filter_eq_self.2 fun e he => by
   obtain ⟨j, hjl, rfl⟩ := List.getElem_of_mem he
   have := hj j hjl
   simpa using this
  simp only [U159, seval, bA]
  rw [hk]
  exact ⟨_, rfl, rfl, hA, Same.refl _ _⟩
def SortX (l : List Xt) : Prop := l.Pairwise fun a b => a.fr < b.fr
def BdX (l : List Xt) : Prop := ∀ e ∈ l, 0 ≤ e.fr ∧ e.fr ≤ 16777216
def posX (k : Int) (l : List Xt) : Nat := (l.takeWhile fun e => decide (e.fr < k)).length
theorem posX_of {k : Int} : ∀ {l : List Xt} {i : Nat}, i ≤ l.length → (∀ j (h : j < l.length), j < i → l[j].fr < k) → (∀ j (h : j < l.length), i ≤ j → k ≤ l[j].fr) → posX k l = i
 | [], i, h, _, _ => by
  have : i = 0 := by simpa using h
  subst this; rfl
 | e :: l, 0, _, _, h2 => by
  have := h2 0 (by simp) (Nat.le_refl _)
  have hd : decide (e.fr < k) = false := decide_eq_false (by simpa using this)
  simp [posX, List.takeWhile_cons, hd]
 | e :: l, i + 1, h, h1, h2 => by
  have := h1 0 (by simp) (by omega)
  have hd : decide (e.fr < k) = true := decide_eq_true (by simpa using this)
  have ih := posX_of (k := k) (l := l) (i := i) (by simpa using h) (fun j hj hlt => h1 (j + 1) (by simp; omega) (by omega)) (fun j hj hle => h2 (j + 1) (by simp; omega) (by omega))
  simp only [posX, List.takeWhile_cons, hd, if_true, List.length_cons] at ih ⊢
  omega
theorem cmp_spec (e : Xt) (k : Int) (he : 0 ≤ e.fr ∧ e.fr ≤ 16777216) (hk : 0 ≤ k ∧ k ≤ 16777216) : PCall Tryz.prog 163 [pE e, .int .i64 k] (.int .i64 (e.fr - k)) := by
 refine pcall_dr Tryz.func163 E163.h ?_
 have w : IntKind.i64.wrap (e.fr - k) = e.fr - k := wrapI (by omega) (by omega)
 simp only [U163, rowE, w, seval, bA]
theorem bsA {ob : List AObj} {o off c : Nat} {l : List Xt} {k : Int} (hA : Arr ob 4 o off l.length c (XL l)) (hs : SortX l) (hb : BdX l) (hk : 0 ≤ k ∧ k ≤ 16777216) (hm : l.length ≤ 16777216) :
  ∃ t, RCall Tryz.prog 162 [.asl o off l.length c, .int .i64 k, .fn (.func 163) [] []] ob (.tup [.int .i64 (posX k l), .bool t]) := by
 have hs' := List.pairwise_iff_getElem.1 hs
 refine ⟨if h : posX k l < l.length then (l[posX k l].fr - k == 0) else false, ?_⟩
 refine RCall.of (K := fun r ob' => r = .tup [.int .i64 (posX k l), .bool (if h : posX k l < l.length then (l[posX k l].fr - k == 0) else false)] ∧ ob' = ob) ?_ (fun r ob' h => ⟨h.1, [], by rw [h.2, List.append_nil]⟩) rfl
 refine icall_dr Tryz.func162 E162.h ?_
 simp only [U162, seval, bA]
 refine loopF (fun x : Nat × Nat => ⟨ofL [(0, .asl o off l.length c), (1, .int .i64 k), (2, .fn (.func 163) [] []), (8, .int .i64 (l.length : Int)), (9, .int .i64 (x.1 : Int)), (10, .int .i64 (x.2 : Int))], ob⟩)
  (fun x => x.1 ≤ x.2 ∧ x.2 ≤ l.length ∧ (∀ j (h : j < l.length), j < x.1 → l[j].fr < k) ∧ ∀ j (h : j < l.length), x.2 ≤ j → k ≤ l[j].fr) (fun x => x.2 - x.1) (0, l.length) ?_ ⟨Nat.zero_le _, Nat.le_refl _, fun j _ h => absurd h (by simp), fun j h h' => absurd h' (by simp; omega)⟩ ?_
 ·simp only [U162, seval, bA]
  try rfl
 rintro ⟨i, j⟩ ⟨hij, hjl, h1, h2⟩
 simp only at hij hjl h1 h2
 by_cases h : i < j
 ·have d : decide ((i : Int) < (j : Int)) = true := by simpa using h
  obtain ⟨m, hm2⟩ : ∃ m, (i + j) / 2 = m := ⟨_, rfl⟩
  have hml : m < l.length := by omega
  have hmi : i ≤ m ∧ m < j := by omega
  have d' : decide (m < l.length) = true := by simpa using hml
  have w1 : IntKind.i64.wrap ((i : Int) + (j : Int)) = ((i + j : Nat) : Int) := by rw [wrapI (by omega) (by omega)]; omega
  have w2 : IntKind.u64.wrap ((i + j : Nat) : Int) = ((i + j : Nat) : Int) := by rw [wrap64]; omega
  have sh : shI .shr .u64 ((i + j : Nat) : Int) 1 = some (.int .u64 (m : Int)) := by
   have : ((i + j : Nat) : Int).fdiv (2 ^ min (1 : Int).toNat IntKind.u64.bits) = (m : Int) := by
    rw [show (2 : Int) ^ min (1 : Int).toNat IntKind.u64.bits = 2 by decide, Int.fdiv_eq_ediv_of_nonneg _ (by omega)]; omega
   simp only [shI, this]; rfl
  have w3 : IntKind.i64.wrap (m : Int) = (m : Int) := wrapI (by omega) (by omega)
  have w4 : IntKind.i64.wrap ((m : Int) + 1) = ((m + 1 : Nat) : Int) := by rw [wrapI (by omega) (by omega)]; omega
  have hld := ldX hA hml
  simp only [U162, d, d', w1, w2, sh, w3, hld, rowE, seval, bA]
  refine callI (cmp_spec l[m] k (hb _ (List.getElem_mem hml)) hk) ?_
  by_cases hc : l[m].fr < k
  ·have dc : decide (l[m].fr - k < 0) = true := decide_eq_true (by omega)
   simp only [U162, d, d', w1, w2, sh, w3, w4, hld, rowE, dc, seval, bA]
   refine ⟨(m + 1, j), rfl, ⟨by simp only; omega, hjl, fun t ht hlt => ?_, h2⟩, by simp only; omega⟩
   by_cases e : t = m
   ·subst e; exact hc
   ·have := hs' t m ht hml (by simp only at hlt; omega); omega
  ·have dc : decide (l[m].fr - k < 0) = false := decide_eq_false (by omega)
   simp only [U162, d, d', w1, w2, sh, w3, w4, hld, rowE, dc, seval, bA]
   refine ⟨(i, m), rfl, ⟨by simp only; omega, by simp only; omega, h1, fun t ht hle => ?_⟩, by simp only; omega⟩
   by_cases e : t = m
   ·subst e; omega
   ·have := hs' m t hml ht (by simp only at hle; omega); omega
 ·have d : decide ((i : Int) < (j : Int)) = false := by simpa using h
  have hje : j = i := by omega
  subst hje
  have hp : posX k l = j := posX_of hjl h1 h2
  rw [hp]
  by_cases hjn : j < l.length
  ·have d2 : decide ((j : Int) < (l.length : Int)) = true := by simpa using hjn
   have d' : decide (j < l.length) = true := by simpa using hjn
   have hld := ldX hA hjn
   simp only [U162, d, d2, d', hld, rowE, seval, bA]
   refine callI (cmp_spec l[j] k (hb _ (List.getElem_mem hjn)) hk) ?_
   simp only [U162, d, d2, d', hld, rowE, seval, bA]
   simp only [dif_pos hjn]
   exact ⟨_, rfl, rfl⟩
  ·have d2 : decide ((j : Int) < (l.length : Int)) = false := by simpa using hjn
   simp only [U162, d, d2, seval, bA]
   simp only [dif_neg hjn]
   exact ⟨_, rfl, rfl⟩
theorem delN {ob : List AObj} {o off n c i : Nat} {xs : List PV} (hA : Arr ob 1 o off n c xs) (hi : i < n) (hn : n ≤ 16777216) :
  ICall Tryz.prog 193 [.asl o off n c, .int .i64 (i : Int), .int .i64 ((i + 1 : Nat) : Int)] ob fun r ob' => r = .asl o off (n - 1) c ∧ Arr ob' 1 o off (n - 1) c (xs.take i ++ xs.drop (i + 1)) ∧ Same ob ob' (· = o) := by
 refine icall_dr Tryz.func193 E193.h ?_
 have hxl := hA.len
 obtain ⟨cs, hcs, hnc, hl, hx⟩ := id hA
 simp only [Nat.mul_one] at hx hl hxl
 have s0 : aslB 1 o off n c (some (i : Int)) (some ((i + 1 : Nat) : Int)) (some (n : Int)) = some (.asl o (off + i * 1) (i + 1 - i) (n - i)) := aslB_n (by omega)
 have s1 : aslB 1 o off n c (some 0) (some (i : Int)) (some (c : Int)) = some (.asl o off i c) := aslB_z (by omega)
 have s2 : aslB 1 o off n c (some ((i + 1 : Nat) : Int)) (some (n : Int)) (some (c : Int)) = some (.asl o (off + (i + 1) * 1) (n - (i + 1)) (c - (i + 1))) := aslB_n (by omega)
 have s3 : aslB 1 o off (n - 1) c (some ((n - 1 : Nat) : Int)) (some (n : Int)) (some (c : Int)) = some (.asl o (off + (n - 1) * 1) (n - (n - 1)) (c - (n - 1))) := aslB_n (by omega)
 have d : ((i : Int) == ((i + 1 : Nat) : Int)) = false := by simp; omega
 have hsrc : arrSrc ob 1 (.asl o (off + (i + 1) * 1) (n - (i + 1)) (c - (i + 1))) = some (xs.drop (i + 1)) := by
  rw [arrSrc_asl hcs (by omega), ← hx, List.drop_take, List.drop_drop]; simp
 simp only [U193, s0, s1, s2, d, seval, bA]
 have fin : ∀ (ob1 : List AObj) (cs1 : List PV), ob1[o]? = some (.box cs1) → cs1.length = cs.length → (cs1.drop off).take (n - 1) = xs.take i ++ xs.drop (i + 1) → Same ob ob1 (· = o) →
   MStep (.aclr [.nili]) [.asl o (off + (n - 1) * 1) (n - (n - 1)) (c - (n - 1))] ob1 fun r ob' => Arr ob' 1 o off (n - 1) c (xs.take i ++ xs.drop (i + 1)) ∧ Same ob ob' (· = o) := by
  intro ob1 cs1 h1 h2 h3 h4
  refine MS_clr (by omega) h1 (by rw [flat_rep]; simp; omega) ⟨⟨_, List.getElem?_set_self (List.getElem?_eq_some_iff.1 h1).1, by omega, by rw [setAt_len (by rw [flat_rep]; simp; omega)]; omega, ?_⟩, h4.trans (Same.set rfl)⟩
  rw [take_setAt (by omega) (by rw [flat_rep]; simp; omega), Nat.mul_one]; exact h3
 by_cases hz : n - (i + 1) = 0
 ·have hin : i = n - 1 := by omega
  refine MS_app0 (by simpa only [arrLen] using hz) hsrc ?_
  have e1 : (.asl o off i c : PV) = .asl o off (n - 1) c := by rw [hin]
  rw [e1]
  simp only [U193, s3, seval, bA]
  refine MStep_mono ?_ (fin ob cs hcs rfl ?_ (Same.refl _ _))
  ·rintro r ob' ⟨h1, h2⟩
   simp only [U193, seval, bA]
   exact ⟨_, rfl, rfl, h1, h2⟩
  ·rw [← hx, List.take_take, List.drop_take, show n - (i + 1) = 0 from hz, List.take_zero, List.append_nil, hin, Nat.min_eq_left (by omega)]
 ·have hyl : (xs.drop (i + 1)).length = n - (i + 1) := by rw [List.length_drop, hxl]
  refine MS_app (m := n - (i + 1)) rfl (by omega) hsrc (fun hr => ⟨cs, hcs, by omega, ?_⟩) (fun h => by omega)
  have hset := List.getElem?_set_self (a := AObj.box (setAt cs (off + i * 1) (xs.drop (i + 1)))) (List.getElem?_eq_some_iff.1 hcs).1
  have hS2 : Same ob (ob.set o (AObj.box (setAt cs (off + i * 1) (xs.drop (i + 1))))) (· = o) := Same.set rfl
  generalize hob2 : ob.set o (AObj.box (setAt cs (off + i * 1) (xs.drop (i + 1)))) = ob2 at *
  rw [show i + (n - (i + 1)) = n - 1 by omega]
  simp only [U193, s3, seval, bA]
  refine MStep_mono ?_ (fin ob2 _ hset (setAt_len (by omega)) ?_ hS2)
  ·rintro r ob' ⟨h1, h2⟩
   simp only [U193, seval, bA]
   exact ⟨_, rfl, rfl, h1, h2⟩
  ·have := cells_behind (cs := cs) (row := xs.drop (i + 1)) (off := off) (b := i) (by omega)
   rw [hyl, show i + (n - (i + 1)) = n - 1 by omega] at this
   rw [Nat.mul_one, this, ← hx, List.take_take, Nat.min_eq_left (by omega)]
end Go.Proofs.YtdgpiobmncohjaaGreatDoor.Aw.Ar
