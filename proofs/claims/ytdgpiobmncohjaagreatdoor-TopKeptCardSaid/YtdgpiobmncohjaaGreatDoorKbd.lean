/-
 errors.Is at the target 'api.ErrBad': of no error: false; of one that wraps the number 41 once: true.
-/
import Derived.Test.YtdgpiobmncohjaaGreatDoorKbb
set_option linter.all false
set_option maxRecDepth 100000
namespace Go.Proofs.YtdgpiobmncohjaaGreatDoor.Aw
open Go.RowKit Go.Extern.Stop Go.Stop Go.Extern
theorem is_comparable (w : World) : ((ReflectliteType.method fun t => do Rtype.noPackHeld "Comparable" t; (fun a => Value.bool a.comparable) <$> typeInfo t) #[.agg #[.pointer (some ⟨1, 36, none⟩)]]).run Tryz.prog w = .ok (.bool true) w := by kernel_rfl
theorem is_mComparable (v : Value) (w : World) : (Go.method 429 272 v "Comparable").run Tryz.prog w = .ok (233, v) w := by kernel_rfl
theorem is_noIsW (v : Value) (xT : TypeId) (w : World) : (Instr.typeAssert (.iface 144 v) xT 274 true).run Tryz.prog w = .ok (.tuple #[.nilIface, .bool false]) w := run_typeAssert_lacksB Tryz.underlying274 (by kernel_rfl) (by kernel_rfl) v xT w
theorem is_noIsE (v : Value) (xT : TypeId) (w : World) : (Instr.typeAssert (.iface 36 v) xT 274 true).run Tryz.prog w = .ok (.tuple #[.nilIface, .bool false]) w := run_typeAssert_lacksB Tryz.underlying274 (by kernel_rfl) (by kernel_rfl) v xT w
theorem is_noUnwrapE (v : Value) (xT : TypeId) (w : World) : (Instr.typeAssert (.iface 36 v) xT 277 true).run Tryz.prog w = .ok (.tuple #[.nilIface, .bool false]) w := run_typeAssert_lacksB Tryz.underlying277 (by kernel_rfl) (by kernel_rfl) v xT w
theorem is_noUnwrapsE (v : Value) (xT : TypeId) (w : World) : (Instr.typeAssert (.iface 36 v) xT 279 true).run Tryz.prog w = .ok (.tuple #[.nilIface, .bool false]) w := run_typeAssert_lacksB Tryz.underlying279 (by kernel_rfl) (by kernel_rfl) v xT w
theorem is_eqB (w : World) : (binOp .eql 27 (.iface 36 (.int .i64 41)) (.iface 36 (.int .i64 41))).run Tryz.prog w = .ok (.bool true) w := by kernel_rfl
theorem is_eqW (v : Value) (w : World) : (binOp .eql 27 (.iface 144 v) (.iface 36 (.int .i64 41))).run Tryz.prog w = .ok (.bool false) w := run_eql_iface_types 144 36 _ _ Tryz.underlying27 (by decide) w
theorem is_nil (w : World) : Calls Tryz.prog 120 #[.nilIface, .iface 36 (.int .i64 41)] w fun ev w' => ev = .returned (.bool false) ∧ w' = w := by
 have hn := run_eql_iface_nil_left (P := Tryz.prog) w 36 (.int .i64 41) Tryz.underlying27
 go_enter Tryz.func120, Tryz.ntmps120
 go_wp2
 go_ret
 exact ⟨rfl, rfl⟩
set_option maxHeartbeats 4000000 in
theorem is_bad (b : Nat) (w : World) (hp : w.cell? ⟨b, 2, none⟩ = some (.iface 36 (.int .i64 41))) :
  Calls Tryz.prog 120 #[.iface 144 (.pointer (some ⟨b, 0, none⟩)), .iface 36 (.int .i64 41)] w fun ev w' => ev = .returned (.bool true) ∧ w' = w := by
 have h152 := @run_callFunc_extern Tryz.prog 152 _ ReflectliteType.typeOf Tryz.func152 (by kernel_rfl) (by kernel_rfl) (by kernel_rfl) (by kernel_rfl)
 have h233 := @run_callFunc_extern Tryz.prog 233 _ (ReflectliteType.method fun t => do Rtype.noPackHeld "Comparable" t; pure (.bool (← typeInfo t).comparable)) Tryz.func233 (by kernel_rfl) (by kernel_rfl) (by kernel_rfl) (by kernel_rfl)
 have tT := as_typeOf26
 have cT := is_comparable
 have mR := is_mComparable
 have nW := is_noIsW
 have nE := is_noIsE
 have uE := is_noUnwrapE
 have vE := is_noUnwrapsE
 have uW := as_isUnwrap
 have mU := as_mUnwrap
 have q9 := is_eqB
 have qW := is_eqW
 go_enter Tryz.func120, Tryz.ntmps120
 go_wp2
 refine wp_loop_rounds 2 ?_
 rw [rounds_succ]
 go_wp2
 rw [rounds_succ]
 go_wp2
 go_ret
 exact ⟨rfl, rfl⟩
theorem is_r {ob : List AObj} {e : Int} {r : PV} (h : WrapAt ob e r) (he : e = 0 ∨ e = 41) : RCall Tryz.prog 120 [r, .ifc 36 (.int .i64 41)] ob (.bool (e == 41)) := by
 refine RCall.of (K := fun r ob' => r = .bool (e == 41) ∧ ob' = ob) ?_ (fun r ob' h => ⟨h.1, [], by rw [h.2]; simp⟩) rfl
 refine ⟨⟨⟨Tryz.f120, Tryz.func120, by kernel_rfl, by kernel_rfl⟩, _, _, rfl, rfl⟩, ?_⟩
 intro c w F l vs R hv
 obtain ⟨v1, vs1, rfl, h1, hv⟩ := hv.cons_inv
 obtain ⟨v2, vs2, rfl, h2, hv⟩ := hv.cons_inv
 have := hv.nil_inv; subst this
 cases h2 with
 | ifc h2 =>
 rw [h2.int_inv]
 rcases h with ⟨rfl, rfl⟩ | ⟨h0, o, op, a, rfl, ho⟩
 ·cases h1
  refine (is_nil w).mono ?_
  rintro ev w' ⟨rfl, rfl⟩
  exact ⟨_, .bool false, _, F, l, rfl, R, Mono.refl _ _ _, .bool false, rfl, rfl⟩
 ·have he4 : e = 41 := by omega
  subst he4
  cases h1 with
  | ifc h1 =>
  obtain ⟨L1, lo1, bx1, rfl⟩ := h1.ref_inv
  rcases R.objs o _ ho with g1 | ⟨L', g1, g2⟩
  ·simp at g1
  rw [lo1] at g1; cases g1
  obtain ⟨_, n1, cv1, e1, p1, p2, p3⟩ := g2
  obtain ⟨y, hy1, hy2⟩ := p2.get (i := 2) (p := .ifc 36 (.int .i64 41)) rfl
  have hy : y = .iface 36 (.int .i64 41) := by
   cases hy2 with
   | ifc hh => rw [hh.int_inv]
  have c1 : w.cell? ⟨L1.blk, 2, none⟩ = some (.iface 36 (.int .i64 41)) := by rw [cell_of_block p1, List.getElem?_toArray, hy1, hy]
  refine (is_bad L1.blk w c1).mono ?_
  rintro ev w' ⟨rfl, rfl⟩
  exact ⟨_, .bool true, _, F, l, rfl, R, Mono.refl _ _ _, .bool true, rfl, rfl⟩
end Go.Proofs.YtdgpiobmncohjaaGreatDoor.Aw
