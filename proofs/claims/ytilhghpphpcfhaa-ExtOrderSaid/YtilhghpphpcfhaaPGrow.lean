/-
  slices.Grow of a nil slice: no element yet, and room.
-/
import Derived.Test.YtilhghpphpcfhaaCode
import Derived.Lib.Walk
import Derived.WalkKit
set_option linter.unusedSimpArgs false
set_option linter.unusedVariables false
namespace Go.Proofs.Ytilhghpphpcfhaa.Aw
open Go.RowKit

/-- So many zero values are appended to a nil slice. -/
theorem app_zeros {P : Program} (w : World) {t tn e : TypeId} (ty : TypeId) {i : TypeInfo} {z : Value} (k : IntKind) {kn : IntKind} (ht : P.underlying t = some (.slice e)) (htn : P.underlying tn = some (.int kn)) (hi : P.info? e = some i) (hz : i.zero = some z)
    (n : Nat) (h0 : 0 < n) (hn : n ≤ 16777216) (hs : 0 < i.size) (hb : n * i.bytes ≤ 281474976710656) :
    (Builtin.append_ #[t, tn] ty #[.slice none 0 0, .int k n]).run P w =
      .ok (.slice (some ⟨w.heap.size, 0, none⟩) n (grownCap w n 0 e)) (w.drew.alloc (.cells (Builtin.zeroCells z.cells n ++ Builtin.zeroCells z.cells (grownCap w n 0 e - n)) e)) := by
  have a1 : IntKind.i64.wrap (n : Int) = n := by rw [IntKind.wrap_i64]; omega
  have a2 : n ≠ 0 := by omega
  have a3 : ¬ ((n : Int) < 0) := by omega
  have a4 : ¬ (n * i.size = 0) := Nat.mul_ne_zero a2 (by omega)
  have a5 : ¬ (9223372036854775807 < (n : Int)) := by omega
  have a6 : ¬ (281474976710656 < Builtin.nextslicecap n 0 * i.bytes) := by rw [nextslicecap_zero h0]; omega
  have a7 : ¬ (281474976710656 < (n : Int) * (i.bytes : Int)) := by rw [← Int.natCast_mul]; omega
  simp [Builtin.append_, run_underlying ht, run_underlying htn, sizeOf, typeInfo, zeroValue, hi, hz, asInt, asIntOf, a1, a2, a3, a4, a5, a6, a7, Question.forced, run_firstCells_none, newRow, grownCap]
theorem wpl_append {P : Program} {w : World} {ops : Array Oper} {rest : List Oper} {o : Oper} {a : Act} {Q : Exit → Act → World → Prop} (hgd : o.guard = none) (s x : Operand) (t tn : TypeId)
    (ho : o.op = .call { callee := .builtin .append, args := #[s, x], argTypes := #[t, tn] }) {vs vx : Value} (hs : a.eval s = vs) (hx : a.eval x = vx) {v' : Value} {w' : World} (hr : (Builtin.append_ #[t, tn] o.type #[vs, vx]).run P w = .ok v' w')
    (h : wpList P ops Q rest (a.put o.dst v') w') : wpList P ops Q (o :: rest) a w :=
  wpList_plain hgd fun _ hK => by
    unfold Oper.wp execOp
    simp only [ho, resolve, invoke, builtin, Sem.run_bind, Sem.run_pure, Result.andThen_ok, List.map_toArray, List.map_cons, List.map_nil, hs, hx, hr]
    exact hK _ _ h
set_option maxHeartbeats 1000000 in
set_option maxRecDepth 100000 in
theorem grow_spec (n : Nat) (hn : n ≤ 16777216) : PCall Try.prog 43 [.nils, .int .i64 n] (.own 4 []) := by
  refine ⟨okFn_spec (by kernel_rfl), fun w F vs hF hvs => ?_⟩
  obtain ⟨v0, vs, rfl, h0, hvs⟩ := hvs.cons_inv
  obtain ⟨v1, vs, rfl, h1, hvs⟩ := hvs.cons_inv
  cases hvs.nil_inv
  cases h0
  cases h1
  obtain ⟨i, hi, hi2⟩ := Option.map_eq_some_iff.1 (show (Try.prog.info? 35).map (fun i => (i.zero, i.size, i.bytes)) = some (some (.agg #[.int .i64 0, .int .i64 0, .int .i64 0, .int .i64 0]), 4, 32) by kernel_rfl)
  simp only [Prod.mk.injEq] at hi2
  obtain ⟨hz, hs, hb⟩ := hi2
  rcases Nat.eq_zero_or_pos n with rfl | hpos
  · go_enter Try.func43, Try.ntmps43
    go_wp2
    go_ret
    refine ⟨_, F, rfl, Below.refl _ _, fun _ h => h, fun _ h => .inl h, hF, ?_⟩
    exact ⟨⟨0, 0, 0, 0, 0, 4, true, false⟩, ⟨rfl, rfl, rfl, by simp, .inl ⟨rfl, rfl⟩⟩, .inl ⟨rfl, rfl, rfl, rfl⟩, fun h => nomatch h⟩
  · have hrun := app_zeros w 22 .i64 Try.underlying22 Try.underlying3 hi hz n hpos hn (by omega) (by rw [hb]; omega)
    generalize hcap : grownCap w n 0 35 = cap at hrun
    have hge : n ≤ cap := by rw [← hcap]; exact grownCap_ge' _ _ _ _
    have hw1 : IntKind.i64.wrap ((n : Int) - IntKind.i64.wrap (0 - 0)) = (n : Int) := by rw [show IntKind.i64.wrap (0 - 0) = 0 by decide, wrapI (by omega) (by omega)]; omega
    have hn1 : ¬ ((n : Int) < 0) := by omega
    have hn2 : (0 : Int) < (n : Int) := by omega
    go_enter Try.func43, Try.ntmps43
    go_wp2_with (at_builtin; refine wpl_append rfl _ _ _ _ rfl rfl rfl hrun ?_)
    go_ret
    refine ⟨_, rfl, (below_drew_alloc : Below w.heap.size w (w.drew.alloc _)), F, fun _ h => h, fun _ h => .inl h, fun b hb => Nat.lt_trans (hF b hb) (lt_of_cells (drew_alloc_heap w _)), ?_⟩
    exact ⟨⟨w.heap.size, 0, 0, cap, 0, 4, false, false⟩, ⟨rfl, rfl, rfl, by simp, .inr ⟨rfl, Nat.le_refl _, Nat.zero_le _, _, _, _, [], drew_alloc_heap w _, free00 _, by
        show 0 + (cap - 0) * 4 ≤ _
        have : (#[Value.int IntKind.i64 0, Value.int IntKind.i64 0, Value.int IntKind.i64 0, Value.int IntKind.i64 0] : Array Value).size = 4 := rfl
        rw [Array.size_append, size_zeroCells, size_zeroCells, this]; omega, RL.nil, by simp, by simp⟩⟩, .inr ⟨rfl, Nat.le_refl _, _, rfl, fun _ => rfl⟩,
      fun _ => ⟨Nat.le_refl _, lt_of_cells (drew_alloc_heap w _), fun h => absurd (hF _ h) (Nat.lt_irrefl _)⟩⟩
end Go.Proofs.Ytilhghpphpcfhaa.Aw
