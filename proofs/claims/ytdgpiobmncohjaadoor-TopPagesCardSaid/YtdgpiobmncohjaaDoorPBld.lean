/-
  strings.Builder: what its functions do to a builder of the caller's own.
-/
import Derived.Test.YtdgpiobmncohjaaDoorCode
import Derived.Lib.Walk
import Derived.Lib.Builder
import Derived.Lib.Strings
import Derived.WalkKit
import Derived.Laws.Externs
set_option linter.unusedSimpArgs false
set_option linter.unusedVariables false
namespace Go.Proofs.YtdgpiobmncohjaaDoor.Aw
open Go.RowKit

set_option maxHeartbeats 1000000 in
set_option maxRecDepth 100000 in
theorem cc_used (b : Nat) (w : World) (h0 : w.cell? ⟨b, 0, none⟩ = some (.pointer (some ⟨b, 0, none⟩))) :
    Calls Tryd.prog 53 #[.pointer (some ⟨b, 0, none⟩)] w fun e w' => e = .returned (.tuple #[]) ∧ w' = w := by
  obtain ⟨j, hj, hjs⟩ := Option.map_eq_some_iff.1 (show (Tryd.prog.info? 76).map (·.size) = some 2 by kernel_rfl)
  go_enter Tryd.func53, Tryd.ntmps53
  go_wp2
  rw [Lib.run_neq_ptr_same w _ Tryd.underlying73 hj]
  go_wp2
  go_end0
  exact ⟨rfl, rfl⟩
set_option maxHeartbeats 1000000 in
set_option maxRecDepth 100000 in
theorem cc_fresh (b : Nat) (w : World) (h0 : w.cell? ⟨b, 0, none⟩ = some (.pointer none)) (hsh : w.shape? b = some (76, 2)) (hfz : w.frozen? ⟨b, 0, none⟩ = false) :
    Calls Tryd.prog 53 #[.pointer (some ⟨b, 0, none⟩)] w fun e w' => e = .returned (.tuple #[]) ∧ w' = w.setCell ⟨b, 0, none⟩ (.pointer (some ⟨b, 0, none⟩)) := by
  obtain ⟨j, hj, hjs⟩ := Option.map_eq_some_iff.1 (show (Tryd.prog.info? 76).map (·.size) = some 2 by kernel_rfl)
  go_enter Tryd.func53, Tryd.ntmps53
  go_wp2
  rw [Lib.run_to_unsafe w ⟨b, 0, none⟩ Tryd.underlying73 Tryd.underlying94 hj (by rw [hjs]; decide) hsh (Nat.zero_lt_succ 1)]
  simp only [Result.andThen]
  rw [Oper.upon_value]
  go_wp2
  rw [run_callFunc_extern Tryd.func61 (by kernel_rfl) (by kernel_rfl) (by kernel_rfl) (e := Extern.AbiNoEscape.same) (by kernel_rfl)]
  rw [Lib.run_noEscape]
  simp only [Result.andThen]
  rw [Oper.upon_value]
  go_wp2
  rw [Lib.run_from_unsafe w ⟨b, 0, none⟩ Tryd.underlying94 Tryd.underlying73 hj hsh (by kernel_rfl)]
  simp only [Result.andThen]
  rw [Oper.upon_value]
  go_wp2
  go_end0
  exact ⟨rfl, rfl⟩

/-- The address that a builder keeps: none yet, or its own. -/
theorem copyCheck_i {o : Nat} {ob : List AObj} {p q : PV} (ho : ob[o]? = some (.tbox 76 [p, q])) (hp : p = .nilp ∨ p = .ref o 0) :
    ICall Tryd.prog 53 [.ref o 0] ob fun r ob' => r = .tup [] ∧ ob' = ob.set o (.tbox 76 [.ref o 0, q]) := by
  refine ⟨⟨okFn_spec (by kernel_rfl), _, _, rfl, rfl⟩, fun c w F l vs R hvs => ?_⟩
  obtain ⟨hl, hv⟩ := hvs
  match vs, hl with
  | [v], _ =>
    have h1 := hv 0 _ _ rfl rfl
    cases h1 with
    | @ref _ _ _ L hlo hb =>
      rcases R.objs o _ ho with h2 | ⟨L', h2, h3⟩
      · cases h2.1
      · rw [hlo] at h2; cases h2
        obtain ⟨_, hnil, cv, hbk, ⟨hcl, hcv⟩, hone⟩ := h3
        match cv, hcl with
        | [x, y], _ =>
          have hx := hcv 0 _ _ rfl rfl
          have hcell : w.cell? ⟨L.blk, 0, none⟩ = some x := by rw [cell_of_block hbk]; rfl
          rcases hp with rfl | rfl
          · have hxe : x = .pointer none := by cases hx; rfl
            subst hxe
            have hsh : w.shape? L.blk = some (76, 2) := by simp [World.shape?, hbk]
            have hfz : w.frozen? ⟨L.blk, 0, none⟩ = false := frozen_of_block hbk (fun j _ hj => by omega) (by simp)
            refine (cc_fresh L.blk w hcell hsh hfz).mono ?_
            rintro e w' ⟨rfl, rfl⟩
            have hst : stC ob [] (.ref o 0) [.ref o 0] = some (ob.set o (.tbox 76 [.ref o 0, q])) := by simp [stC, ho, setAt]
            obtain ⟨b, off, w', l', he, hrun, R', m'⟩ := stC_sound (P := Tryd.prog) R (R1.ref hlo hb) hst (RL.one (R1.ref hlo hb)) (by intro x hx; simp at hx; subst hx; rfl)
            cases he
            have hw : w' = w.setCell ⟨L.blk, 0, none⟩ (.pointer (some ⟨L.blk, 0, none⟩)) := by
              have hadd : (⟨L.blk, 0, none⟩ : Addr).add 0 = ⟨L.blk, 0, none⟩ := by simp [Addr.add]
              have h4 : (store ((⟨L.blk, 0, none⟩ : Addr).add 0) (.pointer (some ⟨L.blk, 0, none⟩))).run Tryd.prog w = .ok () (w.setCell ⟨L.blk, 0, none⟩ (.pointer (some ⟨L.blk, 0, none⟩))) := by
                rw [hadd, run_store Tryd.prog w _ _ _ rfl, hcell]
                simp [hfz]
              simp only [storeCells, Sem.run_bind, h4, Result.andThen_ok] at hrun
              cases hrun; rfl
            subst hw
            exact ⟨_, .tup [], _, F, l', rfl, R', m', R1.tup rfl (fun i c x h => by simp at h), rfl, rfl⟩
          · have hxe : x = .pointer (some ⟨L.blk, 0, none⟩) := by
              cases hx with
              | ref ho' hb' => rw [hlo] at ho'; cases ho'; rfl
            subst hxe
            refine (cc_used L.blk w hcell).mono ?_
            rintro e w' ⟨rfl, rfl⟩
            have hset : ob.set o (.tbox 76 [.ref o 0, q]) = ob := by
              apply List.ext_getElem?
              intro i
              rw [List.getElem?_set]
              split
              · rename_i e; subst e
                obtain ⟨h5, h6⟩ := List.getElem?_eq_some_iff.1 ho
                simp [h5, h6]
              · rfl
            exact ⟨_, .tup [], _, F, l, rfl, by rw [hset]; exact R, ⟨fun _ h => h, fun _ _ => rfl, LocExt.refl l⟩, R1.tup rfl (fun i c x h => by simp at h), rfl, rfl⟩
theorem writeString_i {bs t : List UInt8} {p : PV} (hp : p = .nilp ∨ p = .ref 1 0) (h1 : bs.length ≤ 16777216) (h2 : t.length ≤ 16777216) :
    ICall Tryd.prog 34 [.ref 1 0, .str t] [.buf 5 bs, .tbox 76 [p, .osl 0 0 bs.length]] fun r ob' => r = .tup [.int .i64 t.length, .nili] ∧ ob' = [.buf 5 (bs ++ t), .tbox 76 [.ref 1 0, .osl 0 0 (bs ++ t).length]] := by
  refine icall_dr Tryd.func34 comp_strings_Builder_WriteString ?_
  simp (config := {maxSteps := 4000000}) only [U_strings_Builder_WriteString, reduceIte, reduceCtorEq, Nat.reduceEqDiff, Nat.reduceAdd, Int.reduceLT, Int.reduceLE, Int.reduceNeg, Int.reduceEq, Nat.reduceLT, Nat.reduceSub, Nat.reduceMul, Nat.reduceBEq, Nat.reduceLeDiff, Int.reduceBEq, Int.reduceBNe, Int.reduceToNat, ne_eq, implies_true, bA]
  refine ICall_mono ?_ (copyCheck_i rfl hp)
  rintro r ob' ⟨rfl, rfl⟩
  have ha : appsO [AObj.buf 5 bs, AObj.tbox 76 [PV.ref 1 0, PV.osl 0 0 bs.length]] [] 5 (PV.osl 0 0 bs.length) (PV.str t) = some (.osl 0 0 (bs.length + t.length), [AObj.buf 5 (bs ++ t), AObj.tbox 76 [PV.ref 1 0, PV.osl 0 0 bs.length]]) :=
    appsO_osl rfl rfl rfl h1 h2
  simp (config := {maxSteps := 4000000}) only [U_strings_Builder_WriteString, ha, reduceIte, reduceCtorEq, Nat.reduceEqDiff, Nat.reduceAdd, Int.reduceLT, Int.reduceLE, Int.reduceNeg, Int.reduceEq, Nat.reduceLT, Nat.reduceSub, Nat.reduceMul, Nat.reduceBEq, Nat.reduceLeDiff, Int.reduceBEq, Int.reduceBNe, Int.reduceToNat, ne_eq, implies_true, bA]
  exact ⟨_, rfl, rfl⟩
theorem string_i {bs : List UInt8} {p : PV} (h1 : bs.length ≤ 16777216) :
    ICall Tryd.prog 36 [.ref 1 0] [.buf 5 bs, .tbox 76 [p, .osl 0 0 bs.length]] fun r ob' => r = .str bs := by
  refine icall_dr Tryd.func36 comp_strings_Builder_String ?_
  have hu : usdV [AObj.buf 5 bs, AObj.tbox 76 [p, PV.osl 0 0 bs.length]] [] (.osl 0 0 bs.length) = some (if bs.length = 0 then .nilp else .lref 0 0 0 bs.length) := usdV_at rfl rfl rfl
  by_cases h : bs.length = 0
  · have hb : bs = [] := List.length_eq_zero_iff.1 h
    subst hb
    have hu2 : usdV [AObj.buf 5 [], AObj.tbox 76 [p, PV.osl 0 0 0]] [] (.osl 0 0 0) = some .nilp := hu
    have hr : rowsO (some (AObj.buf 5 [])) 0 0 = some (byteRows []) := rowsO_buf rfl
    simp (config := {maxSteps := 4000000}) only [U_strings_Builder_String, hu2, hr, byteRows_length, reduceIte, reduceCtorEq, Nat.reduceEqDiff, Nat.reduceAdd, Int.reduceLT, Int.reduceLE, Int.reduceNeg, Int.reduceEq, Nat.reduceLT, Nat.reduceSub, Nat.reduceMul, Nat.reduceBEq, Nat.reduceLeDiff, Int.reduceBEq, Int.reduceBNe, Int.reduceToNat, ne_eq, implies_true, bA]
    exact ⟨_, rfl, rfl⟩
  · have hs : ustV [AObj.buf 5 bs, AObj.tbox 76 [p, PV.osl 0 0 bs.length]] [] 5 (.lref 0 0 0 bs.length) (.int .i64 bs.length) = some (.str bs) := ustV_at rfl rfl rfl rfl (by omega) h1
    have hr : rowsO (some (AObj.buf 5 bs)) 0 bs.length = some (byteRows bs) := rowsO_buf rfl
    simp (config := {maxSteps := 4000000}) only [U_strings_Builder_String, hu, h, hs, hr, byteRows_length, reduceIte, reduceCtorEq, Nat.reduceEqDiff, Nat.reduceAdd, Int.reduceLT, Int.reduceLE, Int.reduceNeg, Int.reduceEq, Nat.reduceLT, Nat.reduceSub, Nat.reduceMul, Nat.reduceBEq, Nat.reduceLeDiff, Int.reduceBEq, Int.reduceBNe, Int.reduceToNat, ne_eq, implies_true, bA]
    exact ⟨_, rfl, rfl⟩
end Go.Proofs.YtdgpiobmncohjaaDoor.Aw
