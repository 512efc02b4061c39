/-
  errors.Is at the target 'api.ErrBad': of no error, and of one that wraps the number 9 once: false.; What the geometry of sixteen blocks of eight pages gives.; The store: what stands in the array is read.; The store: all that can be read; the table of the blocks.; The store: the table of its blocks; whether it is worn out.
-/
import Derived.Test.YtdgpiobmncohjaaGreatDoorNda
import Derived.Test.YtdgpiobmncohjaaGreatDoorCode
import Derived.Test.YtdgpiobmncohjaaGreatDoorCodeN
import Derived.Test.YtdgpiobmncohjaaGreatDoorNdb
import Derived.Test.YtdgpiobmncohjaaGreatDoorPag
import Derived.Test.YtdgpiobmncohjaaGreatDoorSya
import Derived.Test.YtdgpiobmncohjaaGreatDoorWra
set_option maxRecDepth 100000
set_option linter.unusedSimpArgs false
set_option linter.unusedVariables false
namespace Go.Proofs.YtdgpiobmncohjaaGreatDoor.Aw
open Go.RowKit Go.Extern.Stop Go.Stop Go.Extern

theorem is_comparable (w : World) : ((ReflectliteType.method fun t => do Rtype.noPackHeld "Comparable" t; (fun a => Value.bool a.comparable) <$> typeInfo t) #[.agg #[.pointer (some ⟨1, 36, none⟩)]]).run Tryz.prog w = .ok (.bool true) w := by kernel_rfl
theorem is_mComparable (v : Value) (w : World) : (Go.method 429 272 v "Comparable").run Tryz.prog w = .ok (233, v) w := by kernel_rfl
theorem is_noIsW (v : Value) (xT : TypeId) (w : World) : (Instr.typeAssert (.iface 144 v) xT 274 true).run Tryz.prog w = .ok (.tuple #[.nilIface, .bool false]) w := run_typeAssert_lacksB Tryz.underlying274 (by kernel_rfl) (by kernel_rfl) v xT w
theorem is_noIsE (v : Value) (xT : TypeId) (w : World) : (Instr.typeAssert (.iface 36 v) xT 274 true).run Tryz.prog w = .ok (.tuple #[.nilIface, .bool false]) w := run_typeAssert_lacksB Tryz.underlying274 (by kernel_rfl) (by kernel_rfl) v xT w
theorem is_noUnwrapE (v : Value) (xT : TypeId) (w : World) : (Instr.typeAssert (.iface 36 v) xT 277 true).run Tryz.prog w = .ok (.tuple #[.nilIface, .bool false]) w := run_typeAssert_lacksB Tryz.underlying277 (by kernel_rfl) (by kernel_rfl) v xT w
theorem is_noUnwrapsE (v : Value) (xT : TypeId) (w : World) : (Instr.typeAssert (.iface 36 v) xT 279 true).run Tryz.prog w = .ok (.tuple #[.nilIface, .bool false]) w := run_typeAssert_lacksB Tryz.underlying279 (by kernel_rfl) (by kernel_rfl) v xT w
theorem is_eq9 (w : World) : (binOp .eql 27 (.iface 36 (.int .i64 9)) (.iface 36 (.int .i64 41))).run Tryz.prog w = .ok (.bool false) w := by kernel_rfl
theorem is_eqW (v : Value) (w : World) : (binOp .eql 27 (.iface 144 v) (.iface 36 (.int .i64 41))).run Tryz.prog w = .ok (.bool false) w := run_eql_iface_types 144 36 _ _ Tryz.underlying27 (by decide) w

theorem is_nil (w : World) : Calls Tryz.prog 120 #[.nilIface, .iface 36 (.int .i64 41)] w fun ev w' => ev = .returned (.bool false) ∧ w' = w := by
  have hn := run_eql_iface_nil_left (P := Tryz.prog) w 36 (.int .i64 41) Tryz.underlying27
  go_enter Tryz.func120, Tryz.ntmps120
  go_wp2
  go_ret
  exact ⟨rfl, rfl⟩
set_option maxHeartbeats 4000000 in
theorem is_down (b : Nat) (w : World) (hp : w.cell? ⟨b, 2, none⟩ = some (.iface 36 (.int .i64 9))) :
    Calls Tryz.prog 120 #[.iface 144 (.pointer (some ⟨b, 0, none⟩)), .iface 36 (.int .i64 41)] w fun ev w' => ev = .returned (.bool false) ∧ w' = w := by
  have h152 := @run_callFunc_extern Tryz.prog 152 _ ReflectliteType.typeOf Tryz.func152 (by kernel_rfl) (by kernel_rfl) (by kernel_rfl) (by kernel_rfl)
  have h233 := @run_callFunc_extern Tryz.prog 233 _ (ReflectliteType.method fun t => do Rtype.noPackHeld "Comparable" t; pure (.bool (← typeInfo t).comparable)) Tryz.func233 (by kernel_rfl) (by kernel_rfl) (by kernel_rfl) (by kernel_rfl)
  have tT := as_typeOf26
  have cT := is_comparable
  have mR := is_mComparable
  have nW := is_noIsW
  have nE := is_noIsE
  have uE := is_noUnwrapE
  have vE := is_noUnwrapsE
  have uW := as_isUnwrap
  have mU := as_mUnwrap
  have q9 := is_eq9
  have qW := is_eqW
  go_enter Tryz.func120, Tryz.ntmps120
  go_wp2
  refine wp_loop_rounds 2 ?_
  rw [rounds_succ]
  go_wp2
  rw [rounds_succ]
  go_wp2
  go_ret
  exact ⟨rfl, rfl⟩

/-- An error of a call: none, or one that wraps the number 9. -/
theorem is_r {ob : List AObj} {e : Int} {r : PV} (h : WrapAt ob e r) (he : e = 0 ∨ e = 9) : RCall Tryz.prog 120 [r, .ifc 36 (.int .i64 41)] ob (.bool false) := by
  refine RCall.of (K := fun r ob' => r = .bool false ∧ ob' = ob) ?_ (fun r ob' h => ⟨h.1, [], by rw [h.2]; simp⟩) rfl
  refine ⟨⟨⟨Tryz.f120, Tryz.func120, by kernel_rfl, by kernel_rfl⟩, _, _, rfl, rfl⟩, ?_⟩
  intro c w F l vs R hv
  obtain ⟨v1, vs1, rfl, h1, hv⟩ := hv.cons_inv
  obtain ⟨v2, vs2, rfl, h2, hv⟩ := hv.cons_inv
  have := hv.nil_inv; subst this
  cases h2 with
  | ifc h2 =>
  rw [h2.int_inv]
  rcases h with ⟨rfl, rfl⟩ | ⟨h0, o, op, a, rfl, ho⟩
  · cases h1
    refine (is_nil w).mono ?_
    rintro ev w' ⟨rfl, rfl⟩
    exact ⟨_, .bool false, _, F, l, rfl, R, Mono.refl _ _ _, .bool false, rfl, rfl⟩
  · have he9 : e = 9 := by omega
    subst he9
    cases h1 with
    | ifc h1 =>
    obtain ⟨L1, lo1, bx1, rfl⟩ := h1.ref_inv
    rcases R.objs o _ ho with g1 | ⟨L', g1, g2⟩
    · simp at g1
    rw [lo1] at g1; cases g1
    obtain ⟨_, n1, cv1, e1, p1, p2, p3⟩ := g2
    obtain ⟨y, hy1, hy2⟩ := p2.get (i := 2) (p := .ifc 36 (.int .i64 9)) rfl
    have hy : y = .iface 36 (.int .i64 9) := by
      cases hy2 with
      | ifc hh => rw [hh.int_inv]
    have c1 : w.cell? ⟨L1.blk, 2, none⟩ = some (.iface 36 (.int .i64 9)) := by rw [cell_of_block p1, List.getElem?_toArray, hy1, hy]
    refine (is_down L1.blk w c1).mono ?_
    rintro ev w' ⟨rfl, rfl⟩
    exact ⟨_, .bool false, _, F, l, rfl, R, Mono.refl _ _ _, .bool false, rfl, rfl⟩
end Go.Proofs.YtdgpiobmncohjaaGreatDoor.Aw
namespace Go.Proofs.YtdgpiobmncohjaaGreatDoor.Aw
open Go.RowKit

theorem gcheck_spec : PCall Tryz.prog 72 [.agg [.int .i64 16, .int .i64 8]] (.int .i64 0) := by
  refine pcall_dr Tryz.func72 comp_geom_Check ?_
  simp (config := {maxSteps := 4000000}) only [U_geom_Check, reduceIte, reduceCtorEq, Nat.reduceEqDiff, Nat.reduceAdd, Int.reduceLT, Int.reduceLE, Int.reduceNeg, Int.reduceEq, Nat.reduceLT, Nat.reduceSub, Nat.reduceMul, Nat.reduceBEq, Nat.reduceLeDiff, Int.reduceBEq, Int.reduceBNe, Int.reduceToNat, ne_eq, implies_true, bA]
theorem numbers_spec : PCall Tryz.prog 73 [.agg [.int .i64 16, .int .i64 8]] (.agg [.int .i64 128, .int .i64 2, .int .i64 5, .int .i64 18, .int .i64 9]) := by
  refine pcall_dr Tryz.func73 comp_geom_numbers ?_
  simp (config := {maxSteps := 4000000}) only [U_geom_numbers, reduceIte, reduceCtorEq, Nat.reduceEqDiff, Nat.reduceAdd, Int.reduceLT, Int.reduceLE, Int.reduceNeg, Int.reduceEq, Nat.reduceLT, Nat.reduceSub, Nat.reduceMul, Nat.reduceBEq, Nat.reduceLeDiff, Int.reduceBEq, Int.reduceBNe, Int.reduceToNat, ne_eq, implies_true, bA]
  rfl
theorem plan_spec : PCall Tryz.prog 39 [.agg [.int .i64 16, .int .i64 8]] (.tup [.agg [.int .i64 128, .int .i64 2, .int .i64 5, .int .i64 9, .int .i64 10], .int .i64 0]) := by
  refine pcall_dr Tryz.func39 comp_geom_Plan ?_
  simp (config := {maxSteps := 4000000}) only [U_geom_Plan, reduceIte, reduceCtorEq, Nat.reduceEqDiff, Nat.reduceAdd, Int.reduceLT, Int.reduceLE, Int.reduceNeg, Int.reduceEq, Nat.reduceLT, Nat.reduceSub, Nat.reduceMul, Nat.reduceBEq, Nat.reduceLeDiff, Int.reduceBEq, Int.reduceBNe, Int.reduceToNat, ne_eq, implies_true, bA]
  refine callI gcheck_spec ?_
  simp (config := {maxSteps := 4000000}) only [U_geom_Plan, reduceIte, reduceCtorEq, Nat.reduceEqDiff, Nat.reduceAdd, Int.reduceLT, Int.reduceLE, Int.reduceNeg, Int.reduceEq, Nat.reduceLT, Nat.reduceSub, Nat.reduceMul, Nat.reduceBEq, Nat.reduceLeDiff, Int.reduceBEq, Int.reduceBNe, Int.reduceToNat, ne_eq, implies_true, bA]
  refine callI numbers_spec ?_
  simp (config := {maxSteps := 4000000}) only [U_geom_Plan, reduceIte, reduceCtorEq, Nat.reduceEqDiff, Nat.reduceAdd, Int.reduceLT, Int.reduceLE, Int.reduceNeg, Int.reduceEq, Nat.reduceLT, Nat.reduceSub, Nat.reduceMul, Nat.reduceBEq, Nat.reduceLeDiff, Int.reduceBEq, Int.reduceBNe, Int.reduceToNat, ne_eq, implies_true, bA]
  rfl
theorem gfirst_spec {b : Nat} (hb : b < 16) : PCall Tryz.prog 151 [.agg [.int .i64 16, .int .i64 8], .int .i64 (b : Int)] (.int .i64 ((8 * b : Nat) : Int)) := by
  refine pcall_dr Tryz.func151 comp_geom_First ?_
  have d1 : decide ((b : Int) < 0) = false := by simp
  have d2 : decide ((16 : Int) ≤ (b : Int)) = false := by simp; omega
  have w : IntKind.i64.wrap ((b : Int) * 8) = ((8 * b : Nat) : Int) := by rw [wrapI (by omega) (by omega)]; omega
  simp (config := {maxSteps := 4000000}) only [U_geom_First, reduceIte, reduceCtorEq, Nat.reduceEqDiff, Nat.reduceAdd, Int.reduceLT, Int.reduceLE, Int.reduceNeg, Int.reduceEq, Nat.reduceLT, Nat.reduceSub, Nat.reduceMul, Nat.reduceBEq, Nat.reduceLeDiff, Int.reduceBEq, Int.reduceBNe, Int.reduceToNat, ne_eq, implies_true, bA]
  refine callI gcheck_spec ?_
  simp (config := {maxSteps := 4000000}) only [U_geom_First, d1, d2, w, reduceIte, reduceCtorEq, Nat.reduceEqDiff, Nat.reduceAdd, Int.reduceLT, Int.reduceLE, Int.reduceNeg, Int.reduceEq, Nat.reduceLT, Nat.reduceSub, Nat.reduceMul, Nat.reduceBEq, Nat.reduceLeDiff, Int.reduceBEq, Int.reduceBNe, Int.reduceToNat, ne_eq, implies_true, bA]

end Go.Proofs.YtdgpiobmncohjaaGreatDoor.Aw
namespace Go.Proofs.YtdgpiobmncohjaaGreatDoor.Aw
open Go.RowKit

variable {ob : List AObj} {N : Nat} {ops : Int} {P : List Mis} {down : Bool} {T : List (List UInt8)}

theorem WrapAt.zero {ob : List AObj} {r : PV} (h : WrapAt ob 0 r) : r = .nili := by
  rcases h with ⟨_, h⟩ | ⟨h, _⟩
  · exact h
  · exact absurd rfl h
theorem WrapAt.some {ob : List AObj} {e : Int} {r : PV} (h : WrapAt ob e r) (he : e ≠ 0) : ∃ o, r = .ifc 144 (.ref o 0) := by
  rcases h with ⟨h, _⟩ | ⟨_, o, _, _, h, _⟩
  · exact absurd h he
  · exact ⟨o, h⟩
theorem NandS.put {ob : List AObj} {N : Nat} {bl : List Bk} {ops : Int} {P : List Mis} {down : Bool} (h : NandS ob N bl ops P down) {i : Nat} {c c' : List PV} (hi : ob[i]? = some (.box c)) (h6 : c.length ≠ 6) (h48 : c.length ≠ 48) : NandS (ob.set i (.box c')) N bl ops P down := by
  obtain ⟨B, E, pl, pk, h1, h2⟩ := h
  have nN : i ≠ N := by rintro rfl; rw [h1.hN] at hi; injection hi with hi; injection hi with hi; rw [← hi] at h6; exact h6 rfl
  have nB : i ≠ B := by rintro rfl; rw [h1.hB] at hi; injection hi with hi; injection hi with hi; rw [← hi, flat_len3, h1.len] at h48; exact h48 rfl
  refine ⟨B, E, pl, pk, ⟨?_, ?_, h1.len, fun f hf => ?_, ?_, h1.inj, h1.ops0, h1.ops1, h1.pl1⟩, h2⟩
  · rw [List.getElem?_set_ne nN]; exact h1.hN
  · rw [List.getElem?_set_ne nB]; exact h1.hB
  · rcases h1.pgs f hf with y | ⟨y1, y2⟩
    · exact .inl y
    · exact .inr ⟨y1, by rw [List.getElem?_set_ne (ne_kind hi y2)]; exact y2⟩
  · rcases h1.plan with y | ⟨y1, y2⟩
    · exact .inl y
    · exact .inr ⟨y1, by rw [List.getElem?_set_ne (ne_kind hi y2)]; exact y2⟩
theorem NandS.putL {ob : List AObj} {N : Nat} {bl : List Bk} {ops : Int} {P : List Mis} {down : Bool} (h : NandS ob N bl ops P down) {i z : Nat} {rows : List (List PV)} {a : AObj} (hi : ob[i]? = some (.list z rows)) (h1 : z ≠ 1 ∨ isI rows = true) (h4 : z ≠ 4) : NandS (ob.set i a) N bl ops P down := by
  obtain ⟨B, E, pl, pk, h2, h3⟩ := h
  refine ⟨B, E, pl, pk, ⟨?_, ?_, h2.len, fun f hf => ?_, ?_, h2.inj, h2.ops0, h2.ops1, h2.pl1⟩, h3⟩
  · rw [List.getElem?_set_ne (ne_kind h2.hN hi).symm]; exact h2.hN
  · rw [List.getElem?_set_ne (ne_kind h2.hB hi).symm]; exact h2.hB
  · rcases h2.pgs f hf with y | ⟨y1, y2⟩
    · exact .inl y
    · refine .inr ⟨y1, ?_⟩
      rw [List.getElem?_set_ne]; · exact y2
      rintro rfl
      rw [y2] at hi; injection hi with hi; injection hi with hz hr
      rcases h1 with h1 | h1
      · omega
      · rw [← hr, isI_S] at h1; cases h1
  · rcases h2.plan with y | ⟨y1, y2⟩
    · exact .inl y
    · refine .inr ⟨y1, ?_⟩
      rw [List.getElem?_set_ne]; · exact y2
      rintro rfl
      rw [y2] at hi; injection hi with hi; injection hi with hz hr
      omega

/-- A store's box. -/
def cellsO (N : Nat) (pv vz : PV) (opn sq : Int) : List PV := [.ref N 0, .int .i64 16, .int .i64 8, .int .i64 128, .int .i64 2, .int .i64 5, .int .i64 9, .int .i64 10, pv, vz, .int .i64 opn, .int .i64 sq]

theorem first_r (h : NandF ob N T ops P down) {b : Nat} (hb : b < 16) : RCall Tryz.prog 40 [.ref N 0, .int .i64 (b : Int)] ob (.int .i64 (if T.length ≤ 8 * b then 0 else 2)) := by
  refine RCall.of (K := fun r ob' => r = .int .i64 (if T.length ≤ 8 * b then 0 else 2) ∧ ob' = ob) ?_ (fun r ob' h => ⟨h.1, [], by rw [h.2]; simp⟩) rfl
  refine icall_dr Tryz.func40 comp_store_first ?_
  simp (config := {maxSteps := 4000000}) only [U_store_first, reduceIte, reduceCtorEq, Nat.reduceEqDiff, Nat.reduceAdd, Int.reduceLT, Int.reduceLE, Int.reduceNeg, Int.reduceEq, Nat.reduceLT, Nat.reduceSub, Nat.reduceMul, Nat.reduceBEq, Nat.reduceLeDiff, Int.reduceBEq, Int.reduceBNe, Int.reduceToNat, ne_eq, implies_true, bA]
  refine callR (fBad_r h hb) ?_
  simp (config := {maxSteps := 4000000}) only [U_store_first, reduceIte, reduceCtorEq, Nat.reduceEqDiff, Nat.reduceAdd, Int.reduceLT, Int.reduceLE, Int.reduceNeg, Int.reduceEq, Nat.reduceLT, Nat.reduceSub, Nat.reduceMul, Nat.reduceBEq, Nat.reduceLeDiff, Int.reduceBEq, Int.reduceBNe, Int.reduceToNat, ne_eq, implies_true, bA]
  refine callR (fNext_r h hb) ?_
  by_cases hl : T.length ≤ 8 * b
  · have d : (((min 8 (T.length - 8 * b) : Nat) : Int) == 0) = true := by simp; omega
    simp (config := {maxSteps := 4000000}) only [U_store_first, d, reduceIte, reduceCtorEq, Nat.reduceEqDiff, Nat.reduceAdd, Int.reduceLT, Int.reduceLE, Int.reduceNeg, Int.reduceEq, Nat.reduceLT, Nat.reduceSub, Nat.reduceMul, Nat.reduceBEq, Nat.reduceLeDiff, Int.reduceBEq, Int.reduceBNe, Int.reduceToNat, ne_eq, implies_true, bA]
    exact ⟨_, rfl, by rw [if_pos hl]⟩
  · have d : (((min 8 (T.length - 8 * b) : Nat) : Int) == 0) = false := by simp; omega
    simp (config := {maxSteps := 4000000}) only [U_store_first, d, reduceIte, reduceCtorEq, Nat.reduceEqDiff, Nat.reduceAdd, Int.reduceLT, Int.reduceLE, Int.reduceNeg, Int.reduceEq, Nat.reduceLT, Nat.reduceSub, Nat.reduceMul, Nat.reduceBEq, Nat.reduceLeDiff, Int.reduceBEq, Int.reduceBNe, Int.reduceToNat, ne_eq, implies_true, bA]
    exact ⟨_, rfl, by rw [if_neg hl]⟩

/-- The text of a page. -/
def tx (T : List (List UInt8)) (n : Nat) : List UInt8 := T.getD n []
/-- What is found at a page: there is something that can be read. -/
def okF (T : List (List UInt8)) (n : Nat) : Prop := n < T.length ∧ (readS (tx T n)).2 = 0
instance (T : List (List UInt8)) (n : Nat) : Decidable (okF T n) := inferInstanceAs (Decidable (_ ∧ _))
def fdOf (n : Nat) (p : Pg) : Rt.Fd := ⟨n, p.kd, p.sp, p.ky, p.sq, p.bo⟩
def foundN (T : List (List UInt8)) : Nat → List Rt.Fd
  | 0 => []
  | n + 1 => if okF T n then foundN T n ++ [fdOf n (readS (tx T n)).1] else foundN T n
theorem foundN_le (T : List (List UInt8)) : ∀ n, (foundN T n).length ≤ n
  | 0 => Nat.le_refl _
  | n + 1 => by
    have := foundN_le T n
    rw [foundN]; split
    · simp; omega
    · omega
def rdV (T : List (List UInt8)) (n : Nat) : Pg := if okF T n then (readS (tx T n)).1 else zeroP
theorem keep_own {ob O : List AObj} {b b' : AObj} (K : KeepL (ob ++ [b]) O) : KeepL ob (O.set ob.length b') := by
  refine ⟨fun i z r a1 a2 a3 => ?_, fun i c a1 a2 a3 => ?_⟩
  · rw [List.getElem?_set_ne (by have := lt_ofN a3; omega)]
    exact K.1 i z r a1 a2 (apN a3 _)
  · rw [List.getElem?_set_ne (by have := lt_ofN a3; omega)]
    exact K.2 i c a1 a2 (apN a3 _)
abbrev bx0 : AObj := .box [.int .i64 0, .int .i64 0, .int .i64 0, .int .i64 0, .str []]
theorem sread_i {s : Nat} {pv vz : PV} {opn sq : Int} (h : NandF ob N T ops P false) (hT : ∀ n, (tx T n).length ≤ 1000000) (hs : ob[s]? = some (.box (cellsO N pv vz opn sq))) {at_ : Nat} (ha : at_ < 128) :
    ICall Tryz.prog 76 [.ref s 0, .int .i64 (at_ : Int)] ob fun r ob' => ∃ e, r = .tup [pP (rdV T at_), e] ∧ (if okF T at_ then e = .nili else ∃ k, e = .ifc 36 k) ∧ NandF ob' N T ops P false ∧ KeepL ob ob' := by
  refine icall_dr Tryz.func76 comp_store_Store_read ?_
  have hs' := apN hs [bx0]
  simp (config := {maxSteps := 4000000}) only [U_store_Store_read, hs', cellsO, reduceIte, reduceCtorEq, Nat.reduceEqDiff, Nat.reduceAdd, Int.reduceLT, Int.reduceLE, Int.reduceNeg, Int.reduceEq, Nat.reduceLT, Nat.reduceSub, Nat.reduceMul, Nat.reduceBEq, Nat.reduceLeDiff, Int.reduceBEq, Int.reduceBNe, Int.reduceToNat, ne_eq, implies_true, bA]
  refine callM (fRead_i (h.app _) ha) ?_
  rintro r O2 ⟨r2, rfl, h2, K2, w2⟩
  have b2 : O2[ob.length]? = some bx0 := K2.2 _ _ (by simp) (by simp) (by simp)
  have lb := lt_ofN b2
  have s2 : ∀ c, (O2.set ob.length c)[ob.length]? = some c := fun c => set_get b2
  by_cases hl : at_ < T.length
  · rw [if_pos hl] at w2
    have := w2.zero; subst this
    obtain ⟨t, ht⟩ : ∃ t, tx T at_ = t := ⟨_, rfl⟩
    rw [show T.getD at_ [] = t from ht]
    simp (config := {maxSteps := 4000000}) only [U_store_Store_read, reduceIte, reduceCtorEq, Nat.reduceEqDiff, Nat.reduceAdd, Int.reduceLT, Int.reduceLE, Int.reduceNeg, Int.reduceEq, Nat.reduceLT, Nat.reduceSub, Nat.reduceMul, Nat.reduceBEq, Nat.reduceLeDiff, Int.reduceBEq, Int.reduceBNe, Int.reduceToNat, ne_eq, implies_true, bA]
    refine callI (read_spec t (by rw [← ht]; have := hT at_; omega)) ?_
    have y0 : ∀ l : List AObj, (O2 ++ l)[O2.length]? = l[0]? := fun l => by rw [List.getElem?_append_right (Nat.le_refl _)]; simp
    have z0 : ∀ (l : List AObj) a, (O2 ++ l).set O2.length a = O2 ++ l.set 0 a := fun l a => by rw [List.set_append_right _ _ (Nat.le_refl _)]; simp
    have yb : ∀ l : List AObj, (O2 ++ l)[ob.length]? = some bx0 := fun l => apN b2 l
    have sb : ∀ (l : List AObj) c, ((O2 ++ l).set ob.length c)[ob.length]? = some c := fun l c => set_get (yb l)
    have fin : ∀ (l : List AObj) (c : List PV), NandF ((O2 ++ l).set ob.length (.box c)) N T ops P false ∧ KeepL ob ((O2 ++ l).set ob.length (.box c)) := fun l c => ⟨(h2.app l).put (yb l) (by simp) (by simp), keep_own (K2.trans (KeepL.app _ _))⟩
    have hrd : okF T at_ → (readS t).2 = 0 := fun h => by rw [← ht]; exact h.2
    have hrd' : (readS t).2 = 0 → okF T at_ := fun h => ⟨hl, by rw [ht]; exact h⟩
    have hv : okF T at_ → rdV T at_ = (readS t).1 := fun h => by rw [rdV, if_pos h, ht]
    have hv' : ¬ okF T at_ → rdV T at_ = zeroP := fun h => by rw [rdV, if_neg h]
    generalize rdV T at_ = rv at *
    obtain ⟨q, hq⟩ : ∃ q, (readS t).1 = q := ⟨_, rfl⟩
    obtain ⟨hh, hhh⟩ : ∃ h, (readS t).2 = h := ⟨_, rfl⟩
    rw [hhh] at hrd hrd'
    rw [hq] at hv
    rw [hq, hhh]
    by_cases he : hh = 0
    · have ok : okF T at_ := hrd' he
      have d : (hh != 0) = false := by simp [he]
      rw [hv ok]
      simp (config := {maxSteps := 4000000}) only [U_store_Store_read, d, y0, z0, yb, sb, rowP, s2, reduceIte, reduceCtorEq, Nat.reduceEqDiff, Nat.reduceAdd, Int.reduceLT, Int.reduceLE, Int.reduceNeg, Int.reduceEq, Nat.reduceLT, Nat.reduceSub, Nat.reduceMul, Nat.reduceBEq, Nat.reduceLeDiff, Int.reduceBEq, Int.reduceBNe, Int.reduceToNat, ne_eq, implies_true, bA]
      exact ⟨_, rfl, _, rfl, by rw [if_pos ok], (fin _ _).1, (fin _ _).2⟩
    · have nok : ¬ okF T at_ := fun h => he (hrd h)
      have d : (hh != 0) = true := by simp [he]
      rw [hv' nok]
      simp (config := {maxSteps := 4000000}) only [U_store_Store_read, d, y0, z0, yb, sb, rowP, s2, zeroP, reduceIte, reduceCtorEq, Nat.reduceEqDiff, Nat.reduceAdd, Int.reduceLT, Int.reduceLE, Int.reduceNeg, Int.reduceEq, Nat.reduceLT, Nat.reduceSub, Nat.reduceMul, Nat.reduceBEq, Nat.reduceLeDiff, Int.reduceBEq, Int.reduceBNe, Int.reduceToNat, ne_eq, implies_true, bA]
      exact ⟨_, rfl, _, rfl, by rw [if_neg nok]; exact ⟨_, rfl⟩, (fin _ _).1, (fin _ _).2⟩
  · rw [if_neg hl] at w2
    have nok : ¬ okF T at_ := fun h => hl h.1
    have hv' : rdV T at_ = zeroP := by rw [rdV, if_neg nok]
    rw [hv']
    obtain ⟨o, rfl⟩ := w2.some (by decide)
    simp (config := {maxSteps := 4000000}) only [U_store_Store_read, reduceIte, reduceCtorEq, Nat.reduceEqDiff, Nat.reduceAdd, Int.reduceLT, Int.reduceLE, Int.reduceNeg, Int.reduceEq, Nat.reduceLT, Nat.reduceSub, Nat.reduceMul, Nat.reduceBEq, Nat.reduceLeDiff, Int.reduceBEq, Int.reduceBNe, Int.reduceToNat, ne_eq, implies_true, bA]
    refine callR (code_r w2) ?_
    have fin : ∀ (c : List PV), NandF (O2.set ob.length (.box c)) N T ops P false ∧ KeepL ob (O2.set ob.length (.box c)) := fun c => ⟨h2.put b2 (by simp) (by simp), keep_own K2⟩
    simp (config := {maxSteps := 4000000}) only [U_store_Store_read, b2, s2, rowP, zeroP, reduceIte, reduceCtorEq, Nat.reduceEqDiff, Nat.reduceAdd, Int.reduceLT, Int.reduceLE, Int.reduceNeg, Int.reduceEq, Nat.reduceLT, Nat.reduceSub, Nat.reduceMul, Nat.reduceBEq, Nat.reduceLeDiff, Int.reduceBEq, Int.reduceBNe, Int.reduceToNat, ne_eq, implies_true, bA]
    exact ⟨_, rfl, _, rfl, by rw [if_neg nok]; exact ⟨_, rfl⟩, (fin _).1, (fin _).2⟩

end Go.Proofs.YtdgpiobmncohjaaGreatDoor.Aw
namespace Go.Proofs.YtdgpiobmncohjaaGreatDoor.Aw
open Go.RowKit

variable {ob : List AObj} {N : Nat} {ops : Int} {P : List Mis} {down : Bool} {T : List (List UInt8)}

theorem box_keep {ob ob' : List AObj} {s : Nat} {pv vz : PV} {N : Nat} {opn sq : Int} (hs : ob[s]? = some (.box (cellsO N pv vz opn sq))) (K : KeepL ob ob') : ob'[s]? = some (.box (cellsO N pv vz opn sq)) :=
  K.2 _ _ (by simp [cellsO]) (by simp [cellsO]) hs
theorem keep_high {ob O : List AObj} {m : Nat} {b : AObj} (K : KeepL ob O) (hm : ob.length ≤ m) : KeepL ob (O.set m b) := by
  refine ⟨fun i z r a1 a2 a3 => ?_, fun i c a1 a2 a3 => ?_⟩
  · rw [List.getElem?_set_ne (by have := lt_ofN a3; omega)]
    exact K.1 i z r a1 a2 a3
  · rw [List.getElem?_set_ne (by have := lt_ofN a3; omega)]
    exact K.2 i c a1 a2 a3
theorem scan_i {s : Nat} {pv vz : PV} {opn sq : Int} (h : NandF ob N T ops P false) (hT : ∀ n, (tx T n).length ≤ 1000000) (hs : ob[s]? = some (.box (cellsO N pv vz opn sq))) :
    ICall Tryz.prog 41 [.ref s 0] ob fun r ob' => ∃ m, r = .osl m 0 (foundN T 128).length ∧ ob'[m]? = some (Rt.lF (foundN T 128)) ∧ NandF ob' N T ops P false ∧ KeepL ob ob' := by
  refine icall_dr Tryz.func41 comp_store_Store_scan ?_
  have hs' := apN hs [.list 6 []]
  obtain ⟨m, hm⟩ : ∃ m, ob.length = m := ⟨_, rfl⟩
  have h' := h.app [.list 6 []]
  have hm0 : (ob ++ [AObj.list 6 []])[m]? = some (.list 6 []) := by subst hm; simp
  simp (config := {maxSteps := 4000000}) only [U_store_Store_scan, hs', cellsO, hm, reduceIte, reduceCtorEq, Nat.reduceEqDiff, Nat.reduceAdd, Int.reduceLT, Int.reduceLE, Int.reduceNeg, Int.reduceEq, Nat.reduceLT, Nat.reduceSub, Nat.reduceMul, Nat.reduceBEq, Nat.reduceLeDiff, Int.reduceBEq, Int.reduceBNe, Int.reduceToNat, ne_eq, implies_true, bA]
  have K0 : KeepL (ob ++ [AObj.list 6 []]) (ob ++ [AObj.list 6 []]) := KeepL.refl _
  obtain ⟨O1, hO1⟩ : ∃ O1, ob ++ [AObj.list 6 []] = O1 := ⟨_, rfl⟩
  have hO1' : ∀ X, KeepL O1 X → KeepL ob X := fun X k => by rw [← hO1] at k; exact (KeepL.app _ _).trans k
  refine loopF (fun x : Nat × List AObj => ⟨ofL [(0, .ref s 0), (3, .osl m 0 (foundN T x.1).length), (11, .int .i64 128), (12, .int .i64 (x.1 : Int))], x.2⟩)
    (fun x => x.1 ≤ 128 ∧ NandF x.2 N T ops P false ∧ x.2[m]? = some (Rt.lF (foundN T x.1)) ∧ x.2[s]? = some (.box (cellsO N pv vz opn sq)) ∧ KeepL ob x.2) (fun x => 128 - x.1) (0, O1) ?_ ⟨by omega, by rw [← hO1]; exact h', by rw [← hO1]; exact hm0, by rw [← hO1]; exact hs', hO1' _ (KeepL.refl _)⟩ ?_
  · simp (config := {maxSteps := 4000000}) only [U_store_Store_scan, reduceIte, reduceCtorEq, Nat.reduceEqDiff, Nat.reduceAdd, Int.reduceLT, Int.reduceLE, Int.reduceNeg, Int.reduceEq, Nat.reduceLT, Nat.reduceSub, Nat.reduceMul, Nat.reduceBEq, Nat.reduceLeDiff, Int.reduceBEq, Int.reduceBNe, Int.reduceToNat, ne_eq, implies_true, bA]
    rw [← hO1]; rfl
  · clear K0 hO1' h' hm0 hs' h hs
    rintro ⟨i, X⟩ ⟨hi, hX, hmX, hsX, hK⟩
    simp only at hi hX hmX hsX hK ⊢
    have w1 : IntKind.i64.wrap ((i : Int) + 1) = ((i + 1 : Nat) : Int) := by rw [wrapI (by omega) (by omega)]; omega
    have hle := foundN_le T i
    by_cases hlt : i < 128
    · have d : decide ((i : Int) < 128) = true := by simp; omega
      simp (config := {maxSteps := 4000000}) only [U_store_Store_scan, d, reduceIte, reduceCtorEq, Nat.reduceEqDiff, Nat.reduceAdd, Int.reduceLT, Int.reduceLE, Int.reduceNeg, Int.reduceEq, Nat.reduceLT, Nat.reduceSub, Nat.reduceMul, Nat.reduceBEq, Nat.reduceLeDiff, Int.reduceBEq, Int.reduceBNe, Int.reduceToNat, ne_eq, implies_true, bA]
      refine callM (sread_i hX hT hsX hlt) ?_
      rintro r O2 ⟨e, rfl, he, h2, K2⟩
      have hm2 := K2.1 _ _ _ (.inl (by omega)) (by omega) hmX
      have hs2 := box_keep hsX K2
      have y0 : ∀ l : List AObj, (O2 ++ l)[O2.length]? = l[0]? := fun l => by rw [List.getElem?_append_right (Nat.le_refl _)]; simp
      have z0 : ∀ (l : List AObj) a, (O2 ++ l).set O2.length a = O2 ++ l.set 0 a := fun l a => by rw [List.set_append_right _ _ (Nat.le_refl _)]; simp
      by_cases ok : okF T i
      · rw [if_pos ok] at he
        subst he
        have hf : foundN T (i + 1) = foundN T i ++ [fdOf i (readS (tx T i)).1] := by rw [foundN, if_pos ok]
        have hv : rdV T i = (readS (tx T i)).1 := by rw [rdV, if_pos ok]
        rw [hv]
        obtain ⟨q, hq⟩ : ∃ q, (readS (tx T i)).1 = q := ⟨_, rfl⟩
        rw [hq] at hf
        rw [hq]
        obtain ⟨L, hL⟩ : ∃ L, foundN T i = L := ⟨_, rfl⟩
        rw [hL] at hf hm2 hle hmX
        rw [hL]
        have ap : ∀ (l : List AObj) fb nw, fb.contains m = false → appO (O2 ++ l) fb nw 6 (.osl m 0 L.length) (some [[.int .i64 (i : Int), .int .i64 q.kd, .int .i64 q.sp, .int .i64 q.ky, .int .i64 q.sq, .str q.bo]]) = some (.osl m 0 (L.length + 1), (O2 ++ l).set m (Rt.lF (L ++ [fdOf i q]))) := fun l fb nw hf => by
          rw [appO_osl hf (apN hm2 l) (by simp) (by simp; omega) (by simp [rowsOk]) (by simp)]; simp [Rt.lF, Rt.rowF, fdOf]
        have lm := lt_ofN hm2
        have qm : (m == O2.length) = false := by simp; omega
        have hms : m ≠ s := fun e => by rw [e, hs2] at hm2; cases hm2
        simp (config := {maxSteps := 4000000}) only [U_store_Store_scan, y0, z0, rowP, ap, qm, w1, reduceIte, reduceCtorEq, Nat.reduceEqDiff, Nat.reduceAdd, Int.reduceLT, Int.reduceLE, Int.reduceNeg, Int.reduceEq, Nat.reduceLT, Nat.reduceSub, Nat.reduceMul, Nat.reduceBEq, Nat.reduceLeDiff, Int.reduceBEq, Int.reduceBNe, Int.reduceToNat, ne_eq, implies_true, bA]
        refine ⟨(i + 1, (O2 ++ [AObj.box (rowP q)]).set m (Rt.lF (L ++ [fdOf i q]))), ?_, ⟨hlt, (h2.app _).putL (apN hm2 _) (.inl (by omega)) (by omega), ?_, ?_, ?_⟩, by simp only; omega⟩
        · rw [hf]; simp [rowP]
        · rw [hf]; exact set_get (apN hm2 _)
        · rw [List.getElem?_set_ne hms]; exact apN hs2 _
        · exact keep_high ((hK.trans K2).trans (KeepL.app _ _)) (by omega)
      · rw [if_neg ok] at he
        obtain ⟨k, rfl⟩ := he
        have hf : foundN T (i + 1) = foundN T i := by rw [foundN, if_neg ok]
        simp (config := {maxSteps := 4000000}) only [U_store_Store_scan, y0, z0, rowP, w1, reduceIte, reduceCtorEq, Nat.reduceEqDiff, Nat.reduceAdd, Int.reduceLT, Int.reduceLE, Int.reduceNeg, Int.reduceEq, Nat.reduceLT, Nat.reduceSub, Nat.reduceMul, Nat.reduceBEq, Nat.reduceLeDiff, Int.reduceBEq, Int.reduceBNe, Int.reduceToNat, ne_eq, implies_true, bA]
        refine ⟨(i + 1, O2 ++ [AObj.box (rowP (rdV T i))]), ?_, ⟨hlt, h2.app _, ?_, apN hs2 _, (hK.trans K2).trans (KeepL.app _ _)⟩, by simp only; omega⟩
        · rw [hf]; rfl
        · rw [hf]; exact apN hm2 _
    · have d : decide ((i : Int) < 128) = false := by simp; omega
      have : i = 128 := by omega
      subst this
      simp (config := {maxSteps := 4000000}) only [U_store_Store_scan, d, reduceIte, reduceCtorEq, Nat.reduceEqDiff, Nat.reduceAdd, Int.reduceLT, Int.reduceLE, Int.reduceNeg, Int.reduceEq, Nat.reduceLT, Nat.reduceSub, Nat.reduceMul, Nat.reduceBEq, Nat.reduceLeDiff, Int.reduceBEq, Int.reduceBNe, Int.reduceToNat, ne_eq, implies_true, bA]
      exact ⟨_, rfl, _, rfl, hmX, hX, hK⟩

end Go.Proofs.YtdgpiobmncohjaaGreatDoor.Aw
namespace Go.Proofs.YtdgpiobmncohjaaGreatDoor.Aw
open Go.RowKit

variable {ob : List AObj} {N : Nat} {ops : Int} {P : List Mis} {down : Bool} {T : List (List UInt8)}

abbrev rowI (x : Int) : List PV := [.int .i64 x]
abbrev lI (l : List Int) : AObj := .list 1 (l.map rowI)
def zer : PV := .slc (List.replicate 16 [.int .i64 0])
theorem rep_isl {OB : List AObj} {fb : List Nat} {n i : Nat} (h : i < n) : islV OB fb 1 (.slc (List.replicate n [.int .i64 0])) (.int .i64 (i : Int)) = some (.fptr [.int .i64 0]) := by
  rw [islV_slc (by rw [List.length_replicate]; exact h) (by rw [List.getElem_replicate]; rfl), List.getElem_replicate]
theorem zer_isl {OB : List AObj} {fb : List Nat} {i : Nat} (h : i < 16) : islV OB fb 1 zer (.int .i64 (i : Int)) = some (.fptr [.int .i64 0]) := rep_isl h
/-- A store: its states, the open block, the next number. -/
def StS (ob : List AObj) (s Sg N : Nat) (stt : List Int) (opn sq : Int) : Prop :=
  ob[s]? = some (.box (cellsO N (.osl Sg 0 16) zer opn sq)) ∧ ob[Sg]? = some (lI stt) ∧ stt.length = 16
def tabS (stt : List Int) : List Wr.Blk := stt.map fun x => ⟨x, 0, 0⟩
theorem StS.app {ob : List AObj} {s Sg N : Nat} {stt : List Int} {opn sq : Int} (h : StS ob s Sg N stt opn sq) (l : List AObj) : StS (ob ++ l) s Sg N stt opn sq := ⟨apN h.1 l, apN h.2.1 l, h.2.2⟩
theorem isI_l {stt : List Int} (h : stt.length = 16) : isI (stt.map rowI) = true := by
  cases stt with
  | nil => cases h
  | cons x l => rfl
theorem StS.keep {ob ob' : List AObj} {s Sg N : Nat} {stt : List Int} {opn sq : Int} (h : StS ob s Sg N stt opn sq) (k : KeepL ob ob') : StS ob' s Sg N stt opn sq :=
  ⟨box_keep h.1 k, k.1 _ _ _ (.inr (isI_l h.2.2)) (by omega) h.2.1, h.2.2⟩
def TabK (ob : List AObj) (stt : List Int) : PV → List AObj → Prop := fun r ob' => ∃ m ex, r = .osl m 0 16 ∧ ob' = ob ++ ex ∧ ob'[m]? = some (.list 3 ((tabS stt).map Wr.rowB))
theorem table_i {s Sg : Nat} {stt : List Int} {opn sq : Int} (h : NandF ob N T ops P down) (hs : StS ob s Sg N stt opn sq) :
    ICall Tryz.prog 103 [.ref s 0] ob (TabK ob stt) := by
  obtain ⟨h1, h2, h3⟩ := hs
  refine icall_dr Tryz.func103 comp_store_Store_Table ?_
  have h1' := fun l => apN h1 l
  have h2' := fun l => apN h2 l
  have hr : rowsO (some (lI stt)) 0 16 = some (stt.map rowI) := rowsO_all (by simp [h3])
  have hl : ((stt.map rowI).length : Int) = 16 := by simp [h3]
  obtain ⟨m, hm⟩ : ∃ m, ob.length = m := ⟨_, rfl⟩
  have hm0 : (ob ++ [AObj.list 3 []])[m]? = some (.list 3 []) := by subst hm; simp
  simp (config := {maxSteps := 4000000}) only [U_store_Store_Table, h1', h2', cellsO, hr, hl, hm, List.length_map, h3, reduceIte, reduceCtorEq, Nat.reduceEqDiff, Nat.reduceAdd, Int.reduceLT, Int.reduceLE, Int.reduceNeg, Int.reduceEq, Nat.reduceLT, Nat.reduceSub, Nat.reduceMul, Nat.reduceBEq, Nat.reduceLeDiff, Int.reduceBEq, Int.reduceBNe, Int.reduceToNat, ne_eq, implies_true, bA]
  refine loopF (fun x : Nat × List AObj => ⟨ofL [(0, .ref s 0), (3, .osl m 0 x.1), (11, .osl Sg 0 16), (12, .int .i64 16), (13, .int .i64 (x.1 : Int))], x.2⟩)
    (fun x => x.1 ≤ 16 ∧ (∃ ex, x.2 = ob ++ ex) ∧ x.2[m]? = some (.list 3 ((tabS (stt.take x.1)).map Wr.rowB))) (fun x => 16 - x.1) (0, ob ++ [.list 3 []]) ?_ ⟨by omega, ⟨_, rfl⟩, hm0⟩ ?_
  · simp (config := {maxSteps := 4000000}) only [U_store_Store_Table, reduceIte, reduceCtorEq, Nat.reduceEqDiff, Nat.reduceAdd, Int.reduceLT, Int.reduceLE, Int.reduceNeg, Int.reduceEq, Nat.reduceLT, Nat.reduceSub, Nat.reduceMul, Nat.reduceBEq, Nat.reduceLeDiff, Int.reduceBEq, Int.reduceBNe, Int.reduceToNat, ne_eq, implies_true, bA]
  · clear hm0
    rintro ⟨i, X⟩ ⟨hi, ⟨ex, hX⟩, hmX⟩
    simp only at hi hX hmX ⊢
    have w1 : IntKind.i64.wrap ((i : Int) + 1) = ((i + 1 : Nat) : Int) := by rw [wrapI (by omega) (by omega)]; omega
    have g1 : ∀ l : List AObj, (X ++ l)[s]? = some (.box (cellsO N (.osl Sg 0 16) zer opn sq)) := fun l => by rw [hX, List.append_assoc]; exact apN h1 _
    have g1' : X[s]? = some (.box (cellsO N (.osl Sg 0 16) zer opn sq)) := by rw [hX]; exact apN h1 _
    have g2 : X[Sg]? = some (lI stt) := by rw [hX]; exact apN h2 _
    by_cases hlt : i < 16
    · have d : decide ((i : Int) < 16) = true := by simp; omega
      have hlt' : i < stt.length := by omega
      obtain ⟨x, hx⟩ : ∃ x, stt[i] = x := ⟨_, rfl⟩
      have i1 := islO_map (g := rowI) (l := stt) (e := 1) (o := Sg) (m := 16) (k := .i64) (i := i) h3.symm hlt'
      have i2 := ldL_map (g := rowI) (l := stt) (e := 1) (len := 16) (off := 0) (n := 1) (i := i) h3.symm hlt' (by simp)
      rw [hx] at i2
      have i3 := fun (OB : List AObj) (fb : List Nat) => zer_isl (OB := OB) (fb := fb) hlt
      have hn : NandF (X ++ [AObj.none]) N T ops P down := by rw [hX, List.append_assoc]; exact h.app _
      have htk : tabS (stt.take (i + 1)) = tabS (stt.take i) ++ [⟨x, 0, 0⟩] := by rw [List.take_succ_eq_append_getElem hlt', hx]; simp [tabS]
      obtain ⟨L, hL⟩ : ∃ L, tabS (stt.take i) = L := ⟨_, rfl⟩
      have hLl : L.length = i := by rw [← hL]; simp [tabS]; omega
      rw [hL] at htk hmX
      have lm := lt_ofN hmX
      have qm : (m == X.length) = false := by simp; omega
      have ls := lt_ofN g1'
      have qs : (s == X.length) = false := by simp; omega
      have ap : ∀ fb nw, fb.contains m = false → appO (X ++ [AObj.none]) fb nw 3 (.osl m 0 i) (some [[.int .i64 x, .int .i64 0, .int .i64 0]]) = some (.osl m 0 (i + 1), (X ++ [AObj.none]).set m (.list 3 ((L ++ [(⟨x, 0, 0⟩ : Wr.Blk)]).map Wr.rowB))) := fun fb nw hf => by
        rw [appO_osl hf (apN hmX [AObj.none]) (by simp [hLl]) (by simp; omega) (by simp [rowsOk]) (by simp)]; simp [Wr.rowB]
      have y0 : ∀ l : List AObj, (X ++ l)[X.length]? = l[0]? := fun l => by rw [List.getElem?_append_right (Nat.le_refl _)]; simp
      simp (config := {maxSteps := 4000000}) only [U_store_Store_Table, d, g1, g1', g2, i1, i2, i3, cellsO, y0, qs, reduceIte, reduceCtorEq, Nat.reduceEqDiff, Nat.reduceAdd, Int.reduceLT, Int.reduceLE, Int.reduceNeg, Int.reduceEq, Nat.reduceLT, Nat.reduceSub, Nat.reduceMul, Nat.reduceBEq, Nat.reduceLeDiff, Int.reduceBEq, Int.reduceBNe, Int.reduceToNat, ne_eq, implies_true, bA]
      refine callR (fWorn_r hn hlt) ?_
      simp (config := {maxSteps := 4000000}) only [U_store_Store_Table, d, g1, g1', g2, i1, i2, i3, cellsO, y0, ap, qm, w1, qs, reduceIte, reduceCtorEq, Nat.reduceEqDiff, Nat.reduceAdd, Int.reduceLT, Int.reduceLE, Int.reduceNeg, Int.reduceEq, Nat.reduceLT, Nat.reduceSub, Nat.reduceMul, Nat.reduceBEq, Nat.reduceLeDiff, Int.reduceBEq, Int.reduceBNe, Int.reduceToNat, ne_eq, implies_true, bA]
      refine ⟨(i + 1, (X ++ [AObj.none]).set m (.list 3 ((L ++ [(⟨x, 0, 0⟩ : Wr.Blk)]).map Wr.rowB))), rfl, ⟨hlt, ?_, ?_⟩, by simp only; omega⟩
      · refine ⟨(ex ++ [AObj.none]).set 0 (.list 3 ((L ++ [(⟨x, 0, 0⟩ : Wr.Blk)]).map Wr.rowB)), ?_⟩
        simp only
        rw [hX, List.append_assoc, List.set_append_right _ _ (by omega)]
        rw [show m - ob.length = 0 by omega]
      · rw [htk]; exact set_get (apN hmX _)
    · have d : decide ((i : Int) < 16) = false := by simp; omega
      have : i = 16 := by omega
      subst this
      rw [List.take_of_length_le (by omega)] at hmX
      simp (config := {maxSteps := 4000000}) only [U_store_Store_Table, d, reduceIte, reduceCtorEq, Nat.reduceEqDiff, Nat.reduceAdd, Int.reduceLT, Int.reduceLE, Int.reduceNeg, Int.reduceEq, Nat.reduceLT, Nat.reduceSub, Nat.reduceMul, Nat.reduceBEq, Nat.reduceLeDiff, Int.reduceBEq, Int.reduceBNe, Int.reduceToNat, ne_eq, implies_true, bA]
      exact ⟨_, rfl, m, ex, rfl, hX, hmX⟩

theorem count_none {l : List Wr.Blk} {s : Int} (h : ∀ x ∈ l, x.st ≠ s) : ∀ n, n ≤ l.length → Wr.countN l s n = 0
  | 0, _ => rfl
  | n + 1, hn => by
    rw [Wr.countN, if_neg, count_none h n (by omega)]
    rw [Wr.bl_at (by omega)]
    exact h _ (List.getElem_mem _)
theorem retired_i {s Sg : Nat} {stt : List Int} {opn sq : Int} (h : NandF ob N T ops P down) (hs : StS ob s Sg N stt opn sq) (h3 : ∀ x ∈ stt, x ≠ 3) :
    ICall Tryz.prog 61 [.ref s 0] ob fun r ob' => r = .int .i64 0 ∧ ∃ ex, ob' = ob ++ ex := by
  refine icall_dr Tryz.func61 comp_store_Store_Retired ?_
  simp (config := {maxSteps := 4000000}) only [U_store_Store_Retired, reduceIte, reduceCtorEq, Nat.reduceEqDiff, Nat.reduceAdd, Int.reduceLT, Int.reduceLE, Int.reduceNeg, Int.reduceEq, Nat.reduceLT, Nat.reduceSub, Nat.reduceMul, Nat.reduceBEq, Nat.reduceLeDiff, Int.reduceBEq, Int.reduceBNe, Int.reduceToNat, ne_eq, implies_true, bA]
  refine callM (table_i h hs) ?_
  rintro r ob' ⟨m, ex, rfl, hX, hm⟩
  have hl : (tabS stt).length = 16 := by simp [tabS, hs.2.2]
  have hr : rowsO (some (.list 3 ((tabS stt).map Wr.rowB))) 0 16 = some ((tabS stt).map Wr.rowB) := rowsO_all (by simp [hl])
  simp (config := {maxSteps := 4000000}) only [U_store_Store_Retired, hm, hr, reduceIte, reduceCtorEq, Nat.reduceEqDiff, Nat.reduceAdd, Int.reduceLT, Int.reduceLE, Int.reduceNeg, Int.reduceEq, Nat.reduceLT, Nat.reduceSub, Nat.reduceMul, Nat.reduceBEq, Nat.reduceLeDiff, Int.reduceBEq, Int.reduceBNe, Int.reduceToNat, ne_eq, implies_true, bA]
  refine callS (Wr.count_spec (tabS stt) 3 (by omega)) rfl ?_
  rw [count_none (by simpa [tabS] using h3) _ (Nat.le_refl _)]
  simp (config := {maxSteps := 4000000}) only [U_store_Store_Retired, reduceIte, reduceCtorEq, Nat.reduceEqDiff, Nat.reduceAdd, Int.reduceLT, Int.reduceLE, Int.reduceNeg, Int.reduceEq, Nat.reduceLT, Nat.reduceSub, Nat.reduceMul, Nat.reduceBEq, Nat.reduceLeDiff, Int.reduceBEq, Int.reduceBNe, Int.reduceToNat, ne_eq, implies_true, bA]
  exact ⟨_, rfl, rfl, ex, hX⟩
theorem worn_r {s Sg : Nat} {stt : List Int} {opn sq : Int} (h : NandF ob N T ops P down) (hs : StS ob s Sg N stt opn sq) (h3 : ∀ x ∈ stt, x ≠ 3) :
    RCall Tryz.prog 24 [.ref s 0] ob (.bool false) := by
  refine RCall.of (K := fun r ob' => r = .bool false ∧ ∃ ex, ob' = ob ++ ex) ?_ (fun r ob' h => h) rfl
  refine icall_dr Tryz.func24 comp_store_Store_Worn ?_
  have hb := hs.1
  have hb' := fun l => apN hb l
  simp (config := {maxSteps := 4000000}) only [U_store_Store_Worn, reduceIte, reduceCtorEq, Nat.reduceEqDiff, Nat.reduceAdd, Int.reduceLT, Int.reduceLE, Int.reduceNeg, Int.reduceEq, Nat.reduceLT, Nat.reduceSub, Nat.reduceMul, Nat.reduceBEq, Nat.reduceLeDiff, Int.reduceBEq, Int.reduceBNe, Int.reduceToNat, ne_eq, implies_true, bA]
  refine ⟨?_, ?_⟩
  · refine callM (retired_i h hs h3) ?_
    rintro r ob' ⟨rfl, ex, rfl⟩
    simp (config := {maxSteps := 4000000}) only [U_store_Store_Worn, hb', hb, cellsO, reduceIte, reduceCtorEq, Nat.reduceEqDiff, Nat.reduceAdd, Int.reduceLT, Int.reduceLE, Int.reduceNeg, Int.reduceEq, Nat.reduceLT, Nat.reduceSub, Nat.reduceMul, Nat.reduceBEq, Nat.reduceLeDiff, Int.reduceBEq, Int.reduceBNe, Int.reduceToNat, ne_eq, implies_true, bA]
    exact ⟨_, rfl, rfl, _, rfl⟩
  · simp (config := {maxSteps := 4000000}) only [U_store_Store_Worn, hb', hb, cellsO, reduceIte, reduceCtorEq, Nat.reduceEqDiff, Nat.reduceAdd, Int.reduceLT, Int.reduceLE, Int.reduceNeg, Int.reduceEq, Nat.reduceLT, Nat.reduceSub, Nat.reduceMul, Nat.reduceBEq, Nat.reduceLeDiff, Int.reduceBEq, Int.reduceBNe, Int.reduceToNat, ne_eq, implies_true, bA]
    refine callM (retired_i h hs h3) ?_
    rintro r ob' ⟨rfl, ex, rfl⟩
    simp (config := {maxSteps := 4000000}) only [U_store_Store_Worn, hb', hb, cellsO, reduceIte, reduceCtorEq, Nat.reduceEqDiff, Nat.reduceAdd, Int.reduceLT, Int.reduceLE, Int.reduceNeg, Int.reduceEq, Nat.reduceLT, Nat.reduceSub, Nat.reduceMul, Nat.reduceBEq, Nat.reduceLeDiff, Int.reduceBEq, Int.reduceBNe, Int.reduceToNat, ne_eq, implies_true, bA]
    exact ⟨_, rfl, rfl, _, rfl⟩

end Go.Proofs.YtdgpiobmncohjaaGreatDoor.Aw
