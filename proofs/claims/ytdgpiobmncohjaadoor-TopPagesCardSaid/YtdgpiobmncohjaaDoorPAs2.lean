/-
  errors.As at the target '*api.Errno', as a contract; fault.Code.
-/
import Derived.Test.YtdgpiobmncohjaaDoorPAs
import Derived.Test.YtdgpiobmncohjaaDoorPNand
set_option linter.unusedSimpArgs false
set_option linter.unusedVariables false
namespace Go.Proofs.YtdgpiobmncohjaaDoor.Aw
open Go.RowKit

theorem as_i {ob : List AObj} {o t : Nat} {op : List UInt8} {a e x : Int} (ho : ob[o]? = some (.box [.str op, .int .i64 a, .ifc 26 (.int .i64 e)])) (ht : ob[t]? = some (.box [.int .i64 x])) :
    ICall Tryd.prog 24 [.ifc 85 (.ref o 0), .ifc 64 (.ref t 0)] ob fun r ob' => r = .bool true ∧ ob' = ob.set t (.box [.int .i64 e]) := by
  refine ⟨⟨⟨Tryd.f24, Tryd.func24, by kernel_rfl, by kernel_rfl⟩, _, _, rfl, rfl⟩, ?_⟩
  intro c w F l vs R hv
  obtain ⟨v1, vs1, rfl, h1, hv⟩ := hv.cons_inv
  obtain ⟨v2, vs2, rfl, h2, hv⟩ := hv.cons_inv
  have := hv.nil_inv; subst this
  cases h1 with
  | ifc h1 =>
  cases h2 with
  | ifc h2 =>
  obtain ⟨L1, lo1, bx1, rfl⟩ := h1.ref_inv
  have h2' := h2
  obtain ⟨L2, lo2, bx2, rfl⟩ := h2.ref_inv
  rcases R.objs o _ ho with g1 | ⟨L', g1, g2⟩
  · simp at g1
  rw [lo1] at g1; cases g1
  obtain ⟨_, n1, cv1, e1, p1, p2, p3⟩ := g2
  rcases R.objs t _ ht with k1 | ⟨L', k1, k2⟩
  · simp at k1
  rw [lo2] at k1; cases k1
  obtain ⟨_, n2, cv2, e2, q1, q2, q3⟩ := k2
  obtain ⟨y, hy1, hy2⟩ := p2.get (i := 2) (p := .ifc 26 (.int .i64 e)) rfl
  have hy : y = .iface 26 (.int .i64 e) := by
    cases hy2 with
    | ifc hh => rw [hh.int_inv]
  have c1 : w.cell? ⟨L1.blk, 2, none⟩ = some (.iface 26 (.int .i64 e)) := by rw [cell_of_block p1, List.getElem?_toArray, hy1, hy]
  obtain ⟨z, hz1, hz2⟩ := q2.get (i := 0) (p := .int .i64 x) rfl
  have c2 : w.cell? ⟨L2.blk, 0, none⟩ = some z := by rw [cell_of_block q1, List.getElem?_toArray, hz1]
  have hsz : 0 < cv2.toArray.size := by have := q2.1; simp at this ⊢; omega
  have c3 : w.frozen? ⟨L2.blk, 0, none⟩ = false := frozen_of_block q1 (free00 _) hsz
  refine (as_hit L1.blk ⟨L2.blk, 0, none⟩ e z w R.globOk c1 c2 c3).mono ?_
  rintro ev w' ⟨rfl, rfl⟩
  obtain ⟨W4, hW4⟩ : ∃ W4, (((w.alloc (.cells #[.pointer (some ⟨L2.blk, 0, none⟩)] 64)).alloc (.cells #[.pointer (some ⟨1, 64, none⟩), .pointer (some ⟨w.heap.size, 0, none⟩), .int .u64 150] 97)).alloc (.cells #[.pointer (some ⟨1, 64, none⟩), .pointer (some ⟨w.heap.size, 0, none⟩), .int .u64 150] 97)).alloc (.cells #[.int .i64 e] 26) = W4 := ⟨_, rfl⟩
  rw [hW4]
  have hB : Below w.heap.size w W4 := by
    rw [← hW4]
    have b1 := below_alloc (w := w) (o := .cells #[.pointer (some ⟨L2.blk, 0, none⟩)] 64)
    have b2 := below_alloc (w := w.alloc (.cells #[.pointer (some ⟨L2.blk, 0, none⟩)] 64)) (o := .cells #[.pointer (some ⟨1, 64, none⟩), .pointer (some ⟨w.heap.size, 0, none⟩), .int .u64 150] 97)
    have b3 := below_alloc (w := (w.alloc (.cells #[.pointer (some ⟨L2.blk, 0, none⟩)] 64)).alloc (.cells #[.pointer (some ⟨1, 64, none⟩), .pointer (some ⟨w.heap.size, 0, none⟩), .int .u64 150] 97)) (o := .cells #[.pointer (some ⟨1, 64, none⟩), .pointer (some ⟨w.heap.size, 0, none⟩), .int .u64 150] 97)
    have b4 := below_alloc (w := ((w.alloc (.cells #[.pointer (some ⟨L2.blk, 0, none⟩)] 64)).alloc (.cells #[.pointer (some ⟨1, 64, none⟩), .pointer (some ⟨w.heap.size, 0, none⟩), .int .u64 150] 97)).alloc (.cells #[.pointer (some ⟨1, 64, none⟩), .pointer (some ⟨w.heap.size, 0, none⟩), .int .u64 150] 97)) (o := .cells #[.int .i64 e] 26)
    exact ((b1.trans (b2.mono b1.size)).trans (b3.mono (b1.trans (b2.mono b1.size)).size)).trans (b4.mono ((b1.trans (b2.mono b1.size)).trans (b3.mono (b1.trans (b2.mono b1.size)).size)).size)
  obtain ⟨R4, m4⟩ := R.ext hB
  have hst : stC ob [] (.ref t 0) [.int .i64 e] = some (ob.set t (.box [.int .i64 e])) := by simp [stC, ht, setAt]
  have h24 : R1 W4 F l (.ref t 0) (.pointer (some ⟨L2.blk, 0, none⟩)) := .ref lo2 bx2
  obtain ⟨b, off, w', l', hp, hrun, R5, m5⟩ := stC_sound (P := Tryd.prog) R4 h24 hst (.one (.int .i64 e)) (by intro v hv; simp at hv; subst hv; rfl)
  simp only [Value.pointer.injEq, Option.some.injEq, Addr.mk.injEq, and_true] at hp
  obtain ⟨rfl, rfl⟩ := hp
  have c4 : W4.cell? ⟨L2.blk, 0, none⟩ = some z := by
    have := hB.block L2.blk (lt_of_cells q1)
    rw [cell_of_block (this.trans q1), List.getElem?_toArray, hz1]
  have c5 : W4.frozen? ⟨L2.blk, 0, none⟩ = false := frozen_of_block ((hB.block L2.blk (lt_of_cells q1)).trans q1) (free00 _) hsz
  have hw : w' = W4.setCell ⟨L2.blk, 0, none⟩ (.int .i64 e) := by
    simp only [storeCells, Sem.run_bind] at hrun
    rw [run_store Tryd.prog W4 _ _ _ (by rfl)] at hrun
    have e0 : (⟨L2.blk, 0, none⟩ : Addr).add 0 = ⟨L2.blk, 0, none⟩ := rfl
    rw [e0, c4] at hrun
    simp only [c5, Bool.false_eq_true, if_false, Result.andThen, Sem.run_pure, Result.ok.injEq, true_and] at hrun
    exact hrun.symm
  subst hw
  exact ⟨_, .bool true, _, F, l', rfl, R5, m4.trans m5, .bool true, rfl, rfl⟩

theorem code_nil (ob : List AObj) : RCall Tryd.prog 11 [.nili] ob (.int .i64 0) := by
  refine RCall.of (K := fun r ob' => r = .int .i64 0 ∧ ob' = ob) ?_ (fun r ob' h => ⟨h.1, [], by rw [h.2]; simp⟩) rfl
  refine icall_dr Tryd.func11 comp_fault_Code ?_
  simp (config := {maxSteps := 4000000}) only [U_fault_Code, reduceIte, reduceCtorEq, Nat.reduceEqDiff, Nat.reduceAdd, Int.reduceLT, Int.reduceLE, Int.reduceNeg, Int.reduceEq, Nat.reduceLT, Nat.reduceSub, Nat.reduceMul, Nat.reduceBEq, Nat.reduceLeDiff, Int.reduceBEq, Int.reduceBNe, Int.reduceToNat, ne_eq, implies_true, bA]
  exact ⟨_, rfl, rfl⟩
theorem code_r {ob : List AObj} {e : Int} {r : PV} (h : WrapAt ob e r) : RCall Tryd.prog 11 [r] ob (.int .i64 e) := by
  rcases h with ⟨rfl, rfl⟩ | ⟨h0, o, op, a, rfl, ho⟩
  · exact code_nil ob
  refine RCall.of (K := fun r ob' => r = .int .i64 e ∧ ∃ ex, ob' = ob ++ ex) ?_ (fun r ob' h => h) rfl
  refine icall_dr Tryd.func11 comp_fault_Code ?_
  have ho2 : ∀ b, (ob ++ [b])[o]? = some (.box [.str op, .int .i64 a, .ifc 26 (.int .i64 e)]) := fun b => apN ho [b]
  have g1 : ∀ b, (ob ++ [b])[ob.length]? = some b := fun b => by simp
  have s1 : ∀ b c, (ob ++ [b]).set ob.length c = ob ++ [c] := fun b c => by simp
  simp (config := {maxSteps := 4000000}) only [U_fault_Code, g1, s1, reduceIte, reduceCtorEq, Nat.reduceEqDiff, Nat.reduceAdd, Int.reduceLT, Int.reduceLE, Int.reduceNeg, Int.reduceEq, Nat.reduceLT, Nat.reduceSub, Nat.reduceMul, Nat.reduceBEq, Nat.reduceLeDiff, Int.reduceBEq, Int.reduceBNe, Int.reduceToNat, ne_eq, implies_true, bA]
  refine callM (as_i (ho2 _) (g1 _)) ?_
  rintro r ob' ⟨rfl, rfl⟩
  rw [s1]
  simp (config := {maxSteps := 4000000}) only [U_fault_Code, g1, s1, reduceIte, reduceCtorEq, Nat.reduceEqDiff, Nat.reduceAdd, Int.reduceLT, Int.reduceLE, Int.reduceNeg, Int.reduceEq, Nat.reduceLT, Nat.reduceSub, Nat.reduceMul, Nat.reduceBEq, Nat.reduceLeDiff, Int.reduceBEq, Int.reduceBNe, Int.reduceToNat, ne_eq, implies_true, bA]
  exact ⟨_, rfl, rfl, _, rfl⟩

end Go.Proofs.YtdgpiobmncohjaaDoor.Aw
