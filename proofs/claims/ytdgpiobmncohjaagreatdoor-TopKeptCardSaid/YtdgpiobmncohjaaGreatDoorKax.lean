/-
 strings.Builder: what its functions do to a builder of the caller's own.; Rows: what the program and the document make of numbers and widths.; Bytes that say how many things there are, and each thing in as many bytes. Plain Lean.; Leaves and inner nodes as bytes. Plain Lean.; What the functions of the package 'leaf' compute, and the document's: writing and reading, one thing behind the other.; What the functions of the package 'leaf' compute, and the document's: which nodes may be.; What the functions of the package 'leaf' compute, and the document's: nodes as bytes, and back.; What is written of a node.
-/
import Derived.Test.YtdgpiobmncohjaaGreatDoorQa
import Derived.Test.YtdgpiobmncohjaaGreatDoorQb
import Derived.Test.YtdgpiobmncohjaaGreatDoorQc
import Derived.Test.YtdgpiobmncohjaaGreatDoorQp
import Derived.Test.YtdgpiobmncohjaaGreatDoorQl
import Derived.Test.YtdgpiobmncohjaaGreatDoorQn
import Derived.Lib.Walk
import Derived.Lib.Builder
import Derived.Lib.Strings
import Derived.WalkKit
import Derived.Laws.Externs
import Derived.Test.YtdgpiobmncohjaaGreatDoorKaw
import Derived.Test.YtdgpiobmncohjaaGreatDoorKaq
import Derived.Test.YtdgpiobmncohjaaGreatDoorKap
set_option linter.all false
set_option maxRecDepth 100000
namespace Go.Proofs.YtdgpiobmncohjaaGreatDoor.Aw
open Go.RowKit
set_option maxHeartbeats 1000000 in
set_option maxRecDepth 100000 in
theorem cc_used (b : Nat) (w : World) (h0 : w.cell? ⟨b, 0, none⟩ = some (.pointer (some ⟨b, 0, none⟩))) :
  Calls Tryz.prog 118 #[.pointer (some ⟨b, 0, none⟩)] w fun e w' => e = .returned (.tuple #[]) ∧ w' = w := by
 obtain ⟨j, hj, hjs⟩ := Option.map_eq_some_iff.1 (show (Tryz.prog.info? 163).map (·.size) = some 2 by kernel_rfl)
 go_enter Tryz.func118, Tryz.ntmps118
 go_wp2
 rw [Lib.run_neq_ptr_same w _ Tryz.underlying160 hj]
 go_wp2
 go_end0
 exact ⟨rfl, rfl⟩
set_option maxHeartbeats 1000000 in
set_option maxRecDepth 100000 in
theorem cc_fresh (b : Nat) (w : World) (h0 : w.cell? ⟨b, 0, none⟩ = some (.pointer none)) (hsh : w.shape? b = some (163, 2)) (hfz : w.frozen? ⟨b, 0, none⟩ = false) :
  Calls Tryz.prog 118 #[.pointer (some ⟨b, 0, none⟩)] w fun e w' => e = .returned (.tuple #[]) ∧ w' = w.setCell ⟨b, 0, none⟩ (.pointer (some ⟨b, 0, none⟩)) := by
 obtain ⟨j, hj, hjs⟩ := Option.map_eq_some_iff.1 (show (Tryz.prog.info? 163).map (·.size) = some 2 by kernel_rfl)
 go_enter Tryz.func118, Tryz.ntmps118
 go_wp2
 rw [Lib.run_to_unsafe w ⟨b, 0, none⟩ Tryz.underlying160 Tryz.underlying237 hj (by rw [hjs]; decide) hsh (Nat.zero_lt_succ 1)]
 simp only [Result.andThen]
 rw [Oper.upon_value]
 go_wp2
 rw [run_callFunc_extern Tryz.func148 (by kernel_rfl) (by kernel_rfl) (by kernel_rfl) (e := Extern.AbiNoEscape.same) (by kernel_rfl)]
 rw [Lib.run_noEscape]
 simp only [Result.andThen]
 rw [Oper.upon_value]
 go_wp2
 rw [Lib.run_from_unsafe w ⟨b, 0, none⟩ Tryz.underlying237 Tryz.underlying160 hj hsh (by kernel_rfl)]
 simp only [Result.andThen]
 rw [Oper.upon_value]
 go_wp2
 go_end0
 exact ⟨rfl, rfl⟩
theorem copyCheck_i {o : Nat} {ob : List AObj} {p q : PV} (ho : ob[o]? = some (.tbox 163 [p, q])) (hp : p = .nilp ∨ p = .ref o 0) :
  ICall Tryz.prog 118 [.ref o 0] ob fun r ob' => r = .tup [] ∧ ob' = ob.set o (.tbox 163 [.ref o 0, q]) := by
 refine ⟨⟨okFn_spec (by kernel_rfl), _, _, rfl, rfl⟩, fun c w F l vs R hvs => ?_⟩
 obtain ⟨hl, hv⟩ := hvs
 match vs, hl with
 | [v], _ =>
  have h1 := hv 0 _ _ rfl rfl
  cases h1 with
  | @ref _ _ _ L hlo hb =>
   rcases R.objs o _ ho with h2 | ⟨L', h2, h3⟩
   ·cases h2.1
   ·rw [hlo] at h2; cases h2
    obtain ⟨_, hnil, cv, hbk, ⟨hcl, hcv⟩, hone⟩ := h3
    match cv, hcl with
    | [x, y], _ =>
     have hx := hcv 0 _ _ rfl rfl
     have hcell : w.cell? ⟨L.blk, 0, none⟩ = some x := by rw [cell_of_block hbk]; rfl
     rcases hp with rfl | rfl
     ·have hxe : x = .pointer none := by cases hx; rfl
      subst hxe
      have hsh : w.shape? L.blk = some (163, 2) := by simp [World.shape?, hbk]
      have hfz : w.frozen? ⟨L.blk, 0, none⟩ = false := frozen_of_block hbk (fun j _ hj => by omega) (by simp)
      refine (cc_fresh L.blk w hcell hsh hfz).mono ?_
      rintro e w' ⟨rfl, rfl⟩
      have hst : stC ob [] (.ref o 0) [.ref o 0] = some (ob.set o (.tbox 163 [.ref o 0, q])) := by simp [stC, ho, setAt]
      obtain ⟨b, off, w', l', he, hrun, R', m'⟩ := stC_sound (P := Tryz.prog) R (R1.ref hlo hb) hst (RL.one (R1.ref hlo hb)) (by intro x hx; simp at hx; subst hx; rfl)
      cases he
      have hw : w' = w.setCell ⟨L.blk, 0, none⟩ (.pointer (some ⟨L.blk, 0, none⟩)) := by
       have hadd : (⟨L.blk, 0, none⟩ : Addr).add 0 = ⟨L.blk, 0, none⟩ := by simp [Addr.add]
       have h4 : (store ((⟨L.blk, 0, none⟩ : Addr).add 0) (.pointer (some ⟨L.blk, 0, none⟩))).run Tryz.prog w = .ok () (w.setCell ⟨L.blk, 0, none⟩ (.pointer (some ⟨L.blk, 0, none⟩))) := by
        rw [hadd, run_store Tryz.prog w _ _ _ rfl, hcell]
        simp [hfz]
       simp only [storeCells, Sem.run_bind, h4, Result.andThen_ok] at hrun
       cases hrun; rfl
      subst hw
      exact ⟨_, .tup [], _, F, l', rfl, R', m', R1.tup rfl (fun i c x h => by simp at h), rfl, rfl⟩
     ·have hxe : x = .pointer (some ⟨L.blk, 0, none⟩) := by
       cases hx with
       | ref ho' hb' => rw [hlo] at ho'; cases ho'; rfl
      subst hxe
      refine (cc_used L.blk w hcell).mono ?_
      rintro e w' ⟨rfl, rfl⟩
      have hset : ob.set o (.tbox 163 [.ref o 0, q]) = ob := by
       apply List.ext_getElem?
       intro i
       rw [List.getElem?_set]
       split
       ·rename_i e; subst e
        obtain ⟨h5, h6⟩ := List.getElem?_eq_some_iff.1 ho
        simp [h5, h6]
       ·rfl
      exact ⟨_, .tup [], _, F, l, rfl, by rw [hset]; exact R, ⟨fun _ h => h, fun _ _ => rfl, LocExt.refl l⟩, R1.tup rfl (fun i c x h => by simp at h), rfl, rfl⟩
theorem writeString_i {bs t : List UInt8} {p : PV} (hp : p = .nilp ∨ p = .ref 1 0) (h1 : bs.length ≤ 16777216) (h2 : t.length ≤ 16777216) :
  ICall Tryz.prog 80 [.ref 1 0, .str t] [.buf 5 bs, .tbox 163 [p, .osl 0 0 bs.length]] fun r ob' => r = .tup [.int .i64 t.length, .nili] ∧ ob' = [.buf 5 (bs ++ t), .tbox 163 [.ref 1 0, .osl 0 0 (bs ++ t).length]] := by
 refine icall_dr Tryz.func80 E80.h ?_
 simp only [U80, seval, bA]
 refine ICall_mono ?_ (copyCheck_i rfl hp)
 rintro r ob' ⟨rfl, rfl⟩
 have ha : appsO [AObj.buf 5 bs, AObj.tbox 163 [PV.ref 1 0, PV.osl 0 0 bs.length]] [] 5 (PV.osl 0 0 bs.length) (PV.str t) = some (.osl 0 0 (bs.length + t.length), [AObj.buf 5 (bs ++ t), AObj.tbox 163 [PV.ref 1 0, PV.osl 0 0 bs.length]]) :=
  appsO_osl rfl rfl rfl h1 h2
 simp only [U80, ha, seval, bA]
 exact ⟨_, rfl, rfl⟩
theorem string_i {bs : List UInt8} {p : PV} (h1 : bs.length ≤ 16777216) :
  ICall Tryz.prog 82 [.ref 1 0] [.buf 5 bs, .tbox 163 [p, .osl 0 0 bs.length]] fun r ob' => r = .str bs := by
 refine icall_dr Tryz.func82 E82.h ?_
 have hu : usdV [AObj.buf 5 bs, AObj.tbox 163 [p, PV.osl 0 0 bs.length]] [] (.osl 0 0 bs.length) = some (if bs.length = 0 then .nilp else .lref 0 0 0 bs.length) := usdV_at rfl rfl rfl
 by_cases h : bs.length = 0
 ·have hb : bs = [] := List.length_eq_zero_iff.1 h
  subst hb
  have hu2 : usdV [AObj.buf 5 [], AObj.tbox 163 [p, PV.osl 0 0 0]] [] (.osl 0 0 0) = some .nilp := hu
  have hr : rowsO (some (AObj.buf 5 [])) 0 0 = some (byteRows []) := rowsO_buf rfl
  simp only [U82, hu2, hr, byteRows_length, seval, bA]
  exact ⟨_, rfl, rfl⟩
 ·have hs : ustV [AObj.buf 5 bs, AObj.tbox 163 [p, PV.osl 0 0 bs.length]] [] 5 (.lref 0 0 0 bs.length) (.int .i64 bs.length) = some (.str bs) := ustV_at rfl rfl rfl rfl (by omega) h1
  have hr : rowsO (some (AObj.buf 5 bs)) 0 bs.length = some (byteRows bs) := rowsO_buf rfl
  simp only [U82, hu, h, hs, hr, byteRows_length, seval, bA]
  exact ⟨_, rfl, rfl⟩
open Go.RowKit
def rowL : List Nat → List Int → Option (List UInt8)
 | n :: ns, w :: ws => if n < 256 ^ w.toNat then (rowL ns ws).map (leB w.toNat n ++ ·) else none
 | _, _ => some []
def rowS (ns : List Nat) (ws : List Int) : List UInt8 × Int :=
 if ns.length ≠ ws.length ∨ badW ws = true then ([], 1) else match rowL ns ws with
 | none => ([], 2)
 | some t => (t, 0)
def goR (ns : List Nat) (ws : List Int) (acc : List UInt8) : List UInt8 × Int :=
 match rowL ns ws with
 | none => ([], 2)
 | some t => (acc ++ t, 0)
theorem goR_nil {acc} : goR [] [] acc = (acc, 0) := by simp [goR, rowL]
theorem goR_bad {n ns} {w : Int} {ws acc} (h : ¬ n < 256 ^ w.toNat) : goR (n :: ns) (w :: ws) acc = ([], 2) := by simp [goR, rowL, h]
theorem goR_one {n ns} {w : Int} {ws acc} (h : n < 256 ^ w.toNat) : goR (n :: ns) (w :: ws) acc = goR ns ws (acc ++ leB w.toNat n) := by
 simp only [goR, rowL, h, if_true]; cases rowL ns ws <;> simp
theorem rowS_ok {ns ws} (h1 : ns.length = ws.length) (h2 : badW ws = false) : rowS ns ws = goR ns ws [] := by
 simp only [rowS, h1, h2, goR]; cases rowL ns ws <;> simp
theorem row_spec (ns : List Nat) (ws : List Int) (hl : ns.length ≤ 300) (hw : ws.length ≤ 300) (hn : ∀ n ∈ ns, n < 18446744073709551616) :
  PCall Tryz.prog 43 [.slc (rowsN .u64 ns), .slc (rowsZ .i64 ws)] (.tup [.str (rowS ns ws).1, .int .i64 (rowS ns ws).2]) := by
 refine pcall_go Tryz.func43 E43.h ?_
 by_cases h1 : ns.length = ws.length
 ·have d1 : ((ns.length : Int) != (ws.length : Int)) = false := by simp; omega
  simp only [U43, d1, seval, bA]
  refine callI (contains_spec _ _ ws (by omega) wrong_spec) ?_
  by_cases hb : badW ws = true
  ·have d : (ws.any fun w => !wid w) = true := hb
   simp only [U43, d, seval, bA]
   simp [rowS, hb]
  ·simp only [Bool.not_eq_true] at hb
   have d : (ws.any fun w => !wid w) = false := hb
   simp only [U43, d, seval, bA]
   refine loopF (fun x : Nat × List UInt8 × PV => ⟨ofL [(1, .slc (rowsZ .i64 ws)), (6, .ref 1 0), (18, .slc (rowsN .u64 ns)), (19, .int .i64 ns.length), (20, .int .i64 x.1)], [.buf 5 x.2.1, .tbox 163 [x.2.2, .osl 0 0 x.2.1.length]]⟩)
    (fun x => x.1 ≤ ns.length ∧ x.2.1.length ≤ 8 * x.1 ∧ (x.2.2 = .nilp ∨ x.2.2 = .ref 1 0) ∧ goR (ns.drop x.1) (ws.drop x.1) x.2.1 = rowS ns ws) (fun x => ns.length - x.1) (0, [], .nilp) ?_ ⟨Nat.zero_le _, by simp, .inl rfl, (rowS_ok h1 hb).symm⟩ ?_
   ·simp only [U43, St.keep, cutO, seval, bA]
    all_goals rfl
   ·intro ⟨i, bs, p⟩ ⟨hi, hbs, hp, he⟩
    simp only [] at hi hbs hp he ⊢
    by_cases h : i < ns.length
    ·have d2 : decide ((i : Int) < (ns.length : Int)) = true := by simpa using h
     have h' : i < ws.length := by omega
     have hwi := badW_get hb h'
     obtain ⟨k, hk⟩ : ∃ k : Nat, ws[i] = k := ⟨ws[i].toNat, by omega⟩
     have hk' : ws[i].toNat = k := by omega
     have e1 : IntKind.i64.wrap ((i : Int) + 1) = ((i + 1 : Nat) : Int) := by rw [wrapI (by omega) (by omega)]; omega
     have hni := hn _ (List.getElem_mem h)
     simp only [U43, d2, islV_N h, islV_Z h', hk, seval, bA]
     refine callI (fits_spec ns[i] k hni (by omega) (by omega)) ?_
     rw [List.drop_eq_getElem_cons h, List.drop_eq_getElem_cons h'] at he
     by_cases hf : ns[i] < 256 ^ k
     ·have d3 : decide (ns[i] < 256 ^ k) = true := by simpa using hf
      rw [goR_one (by rw [hk']; exact hf), hk'] at he
      have hlk : (leB k ns[i]).length = k := leB_len k ns[i]
      simp only [U43, d2, islV_N h, islV_Z h', hk, d3, seval, bA]
      refine callI (laid_spec ns[i] k hni (by omega) (by omega)) ?_
      simp only [U43, d2, islV_N h, islV_Z h', hk, d3, seval, bA]
      refine ICall_mono ?_ (writeString_i hp (by omega) (by omega))
      rintro r ob' ⟨rfl, rfl⟩
      simp only [U43, e1, seval, bA]
      refine ⟨(i + 1, bs ++ leB k ns[i], .ref 1 0), ?_, ⟨h, by simp only [List.length_append]; omega, .inr rfl, he⟩, by show ns.length - (i + 1) < ns.length - i; omega⟩
      ·simp only [List.length_append]
       all_goals rfl
     ·have d3 : decide (ns[i] < 256 ^ k) = false := by simpa using hf
      rw [goR_bad (by rw [hk']; exact hf)] at he
      simp only [U43, d2, islV_N h, islV_Z h', hk, d3, ← he, seval, bA]
    ·have d2 : decide ((i : Int) < (ns.length : Int)) = false := by simpa using h
     have hr : rowS ns ws = (bs, 0) := by
      rw [← he, List.drop_of_length_le (by omega), List.drop_of_length_le (by omega), goR_nil]
     simp only [U43, d2, seval, bA]
     refine ICall_mono ?_ (string_i (by omega))
     rintro r ob' rfl
     simp only [U43, hr, seval, bA]
 ·have d1 : ((ns.length : Int) != (ws.length : Int)) = true := by simp; omega
  simp only [U43, d1, seval, bA]
  simp [rowS, h1]
end Go.Proofs.YtdgpiobmncohjaaGreatDoor.Aw
namespace Go.Proofs.YtdgpiobmncohjaaGreatDoor.Aw.Lf
open Go.RowKit
def gS (s : List UInt8) (a w : Nat) : Int := ((getS s a w).1 : Int)
theorem gS_in {s : List UInt8} {a w : Nat} (h1 : 1 ≤ w) (h8 : w ≤ 8) (h : a + w ≤ s.length) : gS s a w = (leN ((s.drop a).take w) : Int) := by
 have hw : wid (w : Int) = true := wid_iff.2 ⟨by omega, by omega⟩
 rw [gS, getS, if_neg (by rw [hw]; simp), if_neg (by omega)]; simp
theorem leB_of {w : Nat} {x : List UInt8} (h : x.length = w) : leB w (leN x) = x := by rw [← h]; exact leB_leN x
theorem leN_of {w n : Nat} (h : n < 256 ^ w) : leN (leB w n) = n := by rw [leN_leB, Nat.mod_eq_of_lt h]
theorem gS_at {s x y z : List UInt8} {a w : Nat} (h1 : 1 ≤ w) (h8 : w ≤ 8) (hs : s = x ++ (y ++ z)) (hx : x.length = a) (hy : y.length = w) : gS s a w = (leN y : Int) := by
 rw [gS_in h1 h8 (by rw [hs, List.length_append, List.length_append]; omega), hs, List.drop_left' hx, List.take_left' hy]
theorem binS_cat {a b : List UInt8} (h : a.length + b.length ≤ 9223372036854775807) : binS .add a b = some (.str (a ++ b)) := by rw [binS, if_pos h]
theorem wrapU_nat {n : Int} (h0 : 0 ≤ n) (h : n < 18446744073709551616) : IntKind.u64.wrap n = ((n.toNat : Nat) : Int) := by rw [wrap64]; omega
theorem drop_take_drop (t : List UInt8) (a w : Nat) : t.drop a = (t.drop a).take w ++ t.drop (a + w) := by
 rw [← List.drop_drop, List.take_append_drop]
section
variable {α : Type}
def recG (ent : α → List UInt8) (l : List α) : List UInt8 := leB 1 l.length ++ l.flatMap ent
def outG (p : List UInt8 → Nat → α) (k : Nat) (s : List UInt8) (n : Nat) : List α := (List.range n).map fun j => p s (1 + k * j)
def manyG (k : Nat) (s : List UInt8) : Nat := min 8 ((s.length + k - 2) / k)
def goodG (ent : α → List UInt8) (p : List UInt8 → Nat → α) (k : Nat) (may : List α → Bool) (s : List UInt8) : Prop := may (outG p k s (manyG k s)) = true ∧ recG ent (outG p k s (manyG k s)) = s
instance (ent : α → List UInt8) (p : List UInt8 → Nat → α) (k : Nat) (may : List α → Bool) (s : List UInt8) : Decidable (goodG ent p k may s) := by unfold goodG; infer_instance
def readG (ent : α → List UInt8) (p : List UInt8 → Nat → α) (k : Nat) (may : List α → Bool) (s : List UInt8) : List α × Int := if goodG ent p k may s then (outG p k s (manyG k s), 0) else ([], 3)
def writeG (ent : α → List UInt8) (may : List α → Bool) (l : List α) : List UInt8 × Int := if may l = true then (recG ent l, 0) else ([], 1)
def accG (ent : α → List UInt8) (l : List α) (i : Nat) : List UInt8 := leB 1 l.length ++ (l.take i).flatMap ent
variable {ent : α → List UInt8} {p : List UInt8 → Nat → α} {k : Nat} {may : List α → Bool}
theorem outG_len (s : List UInt8) (n : Nat) : (outG p k s n).length = n := by simp [outG]
theorem accG_0 (l : List α) : accG ent l 0 = leB 1 l.length := by simp [accG]
theorem accG_all (l : List α) : accG ent l l.length = recG ent l := by simp [accG, recG]
theorem accG_succ (l : List α) (i : Nat) (h : i < l.length) : accG ent l (i + 1) = accG ent l i ++ ent l[i] := by
 rw [accG, List.take_succ_eq_append_getElem h, List.flatMap_append, accG, List.append_assoc]; simp
theorem flatG_len (hent : ∀ x, (ent x).length = k) : ∀ l : List α, (l.flatMap ent).length = k * l.length
 | [] => by simp
 | x :: l => by rw [List.flatMap_cons, List.length_append, hent, flatG_len hent l, List.length_cons, Nat.mul_add]; omega
theorem accG_len (hent : ∀ x, (ent x).length = k) (l : List α) (i : Nat) (h : i ≤ l.length) : (accG ent l i).length = 1 + k * i := by
 rw [accG, List.length_append, flatG_len hent, leB_len, List.length_take, Nat.min_eq_left h]
theorem recG_len (hent : ∀ x, (ent x).length = k) (l : List α) : (recG ent l).length = 1 + k * l.length := by
 rw [recG, List.length_append, flatG_len hent, leB_len]
theorem many_eq (hk : 0 < k) {s : List UInt8} {n : Nat} (h8 : n ≤ 8) (hl : s.length = 1 + k * n) : manyG k s = n := by
 have : (s.length + k - 2) / k = n := by
  rw [hl]
  apply Nat.div_eq_of_lt_le
  ·rw [Nat.mul_comm]; omega
  ·rw [Nat.add_mul, Nat.mul_comm n k]; omega
 rw [manyG, this]; omega
theorem readG_yes {s : List UInt8} (h : goodG ent p k may s) : readG ent p k may s = (outG p k s (manyG k s), 0) := by rw [readG, if_pos h]
theorem outG_rec' (hent : ∀ x, (ent x).length = k) {l : List α} (hdec : ∀ x ∈ l, ∀ X Y, p (X ++ (ent x ++ Y)) X.length = x) : outG p k (recG ent l) l.length = l := by
 apply List.ext_getElem (by rw [outG_len])
 intro i h1 h2
 have hr : recG ent l = accG ent l i ++ (ent l[i] ++ (l.drop (i + 1)).flatMap ent) := by
  rw [recG, accG, List.append_assoc]
  congr 1
  conv => lhs; rw [← List.take_append_drop i l, List.flatMap_append, List.drop_eq_getElem_cons h2, List.flatMap_cons]
 have := hdec l[i] (List.getElem_mem h2) (accG ent l i) ((l.drop (i + 1)).flatMap ent)
 rw [← hr, accG_len hent l i (by omega)] at this
 simp only [outG, List.getElem_map, List.getElem_range]
 exact this
theorem read_writeG (hk : 0 < k) (hent : ∀ x, (ent x).length = k) {l : List α} (h8 : l.length ≤ 8) (hdec : ∀ x ∈ l, ∀ X Y, p (X ++ (ent x ++ Y)) X.length = x) (hm : may l = true) : readG ent p k may (recG ent l) = (l, 0) := by
 have h1 := many_eq hk h8 (recG_len hent l)
 have h2 := outG_rec' hent hdec
 have hg : goodG ent p k may (recG ent l) := by rw [goodG, h1, h2]; exact ⟨hm, rfl⟩
 rw [readG_yes hg, h1, h2]
end
open Go.RowKit
structure Kd where
 ky : Int
 at_ : Int
deriving DecidableEq
def rowK (k : Kd) : List PV := [.int .i64 k.ky, .int .i64 k.at_]
theorem rowK_len (k : Kd) : (rowK k).length = 2 := rfl
def numE (e : Xt) : List Nat := [e.fr.toNat, e.n.toNat, e.kd.toNat, e.at_.toNat]
def entE (e : Xt) : List UInt8 := leB 3 e.fr.toNat ++ (leB 4 e.n.toNat ++ (leB 1 e.kd.toNat ++ leB 2 e.at_.toNat))
theorem entE_len (e : Xt) : (entE e).length = 10 := by simp [entE, leB_len]
def exAt (s : List UInt8) (a : Nat) : Xt := ⟨gS s a 3, gS s (a + 3) 4, gS s (a + 7) 1, gS s (a + 8) 2⟩
def lowB (e : Xt) : Bool := decide (e.at_ < 2048)
def leafB (l : List Xt) : Bool := decide (1 ≤ l.length) && (decide (l.length ≤ 8) && (okB l && l.all lowB))
theorem leafB_iff {l : List Xt} : leafB l = true ↔ 1 ≤ l.length ∧ l.length ≤ 8 ∧ okB l = true ∧ ∀ e ∈ l, e.at_ < 2048 := by simp [leafB, lowB]
def FitE (e : Xt) : Prop := OneP e ∧ e.at_ < 2048
theorem leaf_fit {l : List Xt} (h : leafB l = true) : ∀ e ∈ l, FitE e := fun e he => ⟨okB_one (leafB_iff.1 h).2.2.1 e he, (leafB_iff.1 h).2.2.2 e he⟩
theorem row_entE (e : Xt) (h : FitE e) : rowS (numE e) [3, 4, 1, 2] = (entE e, 0) := by
 obtain ⟨⟨a, b, c, d, f⟩, g⟩ := h
 have b0 : badW [3, 4, 1, 2] = false := by decide
 have k1 : e.fr.toNat < 256 ^ (3 : Int).toNat := by show e.fr.toNat < 16777216; omega
 have k2 : e.n.toNat < 256 ^ (4 : Int).toNat := by show e.n.toNat < 4294967296; omega
 have k3 : e.kd.toNat < 256 ^ (1 : Int).toNat := by show e.kd.toNat < 256; omega
 have k4 : e.at_.toNat < 256 ^ (2 : Int).toNat := by show e.at_.toNat < 65536; omega
 rw [numE, rowS_ok rfl b0, goR_one k1, goR_one k2, goR_one k3, goR_one k4, goR_nil]
 simp [entE, List.append_assoc]
theorem dec_ext (e : Xt) (h : FitE e) (X Y : List UInt8) : exAt (X ++ (entE e ++ Y)) X.length = e := by
 obtain ⟨⟨a, b, c, d, f⟩, g⟩ := h
 have l1 : (leB 3 e.fr.toNat).length = 3 := leB_len _ _
 have l2 : (leB 4 e.n.toNat).length = 4 := leB_len _ _
 have l3 : (leB 1 e.kd.toNat).length = 1 := leB_len _ _
 have l4 : (leB 2 e.at_.toNat).length = 2 := leB_len _ _
 have n1 : leN (leB 3 e.fr.toNat) = e.fr.toNat := leN_of (by show e.fr.toNat < 16777216; omega)
 have n2 : leN (leB 4 e.n.toNat) = e.n.toNat := leN_of (by show e.n.toNat < 4294967296; omega)
 have n3 : leN (leB 1 e.kd.toNat) = e.kd.toNat := leN_of (by show e.kd.toNat < 256; omega)
 have n4 : leN (leB 2 e.at_.toNat) = e.at_.toNat := leN_of (by show e.at_.toNat < 65536; omega)
 unfold entE exAt
 generalize leB 3 e.fr.toNat = y1 at *
 generalize leB 4 e.n.toNat = y2 at *
 generalize leB 1 e.kd.toNat = y3 at *
 generalize leB 2 e.at_.toNat = y4 at *
 obtain ⟨S, hS⟩ : ∃ S, S = X ++ (y1 ++ (y2 ++ (y3 ++ y4)) ++ Y) := ⟨_, rfl⟩
 rw [← hS]
 have g1 : gS S X.length 3 = (leN y1 : Int) := gS_at (x := X) (z := y2 ++ (y3 ++ (y4 ++ Y))) (by decide) (by decide) (by rw [hS]; simp) rfl l1
 have g2 : gS S (X.length + 3) 4 = (leN y2 : Int) := gS_at (x := X ++ y1) (z := y3 ++ (y4 ++ Y)) (by decide) (by decide) (by rw [hS]; simp) (by simp [l1]) l2
 have g3 : gS S (X.length + 7) 1 = (leN y3 : Int) := gS_at (x := X ++ y1 ++ y2) (z := y4 ++ Y) (by decide) (by decide) (by rw [hS]; simp) (by simp [l1, l2]) l3
 have g4 : gS S (X.length + 8) 2 = (leN y4 : Int) := gS_at (x := X ++ y1 ++ y2 ++ y3) (z := Y) (by decide) (by decide) (by rw [hS]; simp) (by simp [l1, l2, l3]) l4
 rw [g1, g2, g3, g4, n1, n2, n3, n4]
 cases e
 simp only [] at *
 congr 1 <;> omega
theorem take_ext (s : List UInt8) (h : 10 ≤ s.length) : takeS s [3, 4, 1, 2] = ([leN (s.take 3), leN ((s.drop 3).take 4), leN ((s.drop 7).take 1), leN ((s.drop 8).take 2)], s.drop 10, 0) := by
 have b1 : badW [3, 4, 1, 2] = false := by decide
 rw [takeS_ok b1, goOn_one (by simp; omega), goOn_one (by simp; omega), goOn_one (by simp; omega), goOn_one (by simp; omega), goOn_nil]
 simp [List.drop_drop]
def numK (k : Kd) : List Nat := [k.ky.toNat, k.at_.toNat]
def entK (k : Kd) : List UInt8 := leB 3 k.ky.toNat ++ leB 2 k.at_.toNat
theorem entK_len (k : Kd) : (entK k).length = 5 := by simp [entK, leB_len]
def kdAt (s : List UInt8) (a : Nat) : Kd := ⟨gS s a 3, gS s (a + 3) 2⟩
def kidB (k : Kd) : Bool := decide (0 ≤ k.ky) && (decide (k.ky < 16777216) && (decide (0 ≤ k.at_) && decide (k.at_ < 2048)))
def upB (a b : Kd) : Bool := decide (a.ky < b.ky)
def kidsB (l : List Kd) : Bool := decide (2 ≤ l.length) && (decide (l.length ≤ 8) && (lkB kidB upB l && decide (l.map Kd.at_).Nodup))
def FitK (k : Kd) : Prop := 0 ≤ k.ky ∧ k.ky < 16777216 ∧ 0 ≤ k.at_ ∧ k.at_ < 2048
theorem kidB_iff {k : Kd} : kidB k = true ↔ FitK k := by simp [kidB, FitK]
theorem nodup_at {l : List Kd} : (l.map Kd.at_).Nodup ↔ ∀ i (h : i < l.length) j (hj : j < l.length), j < i → l[j].at_ ≠ l[i].at_ := by
 rw [List.Nodup, List.pairwise_iff_getElem]
 constructor
 ·intro h i hi j hj hlt
  have := h j i (by simpa using hj) (by simpa using hi) hlt
  simpa using this
 ·intro h i j hi hj hlt
  have := h j (by simpa using hj) i (by simpa using hi) hlt
  simpa using this
theorem kidsB_iff {l : List Kd} : kidsB l = true ↔ 2 ≤ l.length ∧ l.length ≤ 8 ∧ lkB kidB upB l = true ∧ (l.map Kd.at_).Nodup := by simp [kidsB]
theorem kids_fit' {l : List Kd} (h : kidsB l = true) : ∀ k ∈ l, FitK k := fun k hk => kidB_iff.1 (lkB_one (kidsB_iff.1 h).2.2.1 k hk)
theorem row_entK (k : Kd) (h : FitK k) : rowS (numK k) [3, 2] = (entK k, 0) := by
 obtain ⟨a, b, c, d⟩ := h
 have b0 : badW [3, 2] = false := by decide
 have k1 : k.ky.toNat < 256 ^ (3 : Int).toNat := by show k.ky.toNat < 16777216; omega
 have k4 : k.at_.toNat < 256 ^ (2 : Int).toNat := by show k.at_.toNat < 65536; omega
 rw [numK, rowS_ok rfl b0, goR_one k1, goR_one k4, goR_nil]
 simp [entK]
theorem dec_kid (k : Kd) (h : FitK k) (X Y : List UInt8) : kdAt (X ++ (entK k ++ Y)) X.length = k := by
 obtain ⟨a, b, c, d⟩ := h
 have l1 : (leB 3 k.ky.toNat).length = 3 := leB_len _ _
 have l4 : (leB 2 k.at_.toNat).length = 2 := leB_len _ _
 have n1 : leN (leB 3 k.ky.toNat) = k.ky.toNat := leN_of (by show k.ky.toNat < 16777216; omega)
 have n4 : leN (leB 2 k.at_.toNat) = k.at_.toNat := leN_of (by show k.at_.toNat < 65536; omega)
 unfold entK kdAt
 generalize leB 3 k.ky.toNat = y1 at *
 generalize leB 2 k.at_.toNat = y4 at *
 obtain ⟨S, hS⟩ : ∃ S, S = X ++ (y1 ++ y4 ++ Y) := ⟨_, rfl⟩
 rw [← hS]
 have g1 : gS S X.length 3 = (leN y1 : Int) := gS_at (x := X) (z := y4 ++ Y) (by decide) (by decide) (by rw [hS]; simp) rfl l1
 have g2 : gS S (X.length + 3) 2 = (leN y4 : Int) := gS_at (x := X ++ y1) (z := Y) (by decide) (by decide) (by rw [hS]; simp) (by simp [l1]) l4
 rw [g1, g2, n1, n4]
 cases k
 simp only [] at *
 congr 1 <;> omega
theorem take_kid (s : List UInt8) (h : 5 ≤ s.length) : takeS s [3, 2] = ([leN (s.take 3), leN ((s.drop 3).take 2)], s.drop 5, 0) := by
 have b1 : badW [3, 2] = false := by decide
 rw [takeS_ok b1, goOn_one (by simp; omega), goOn_one (by simp; omega), goOn_nil]
 simp [List.drop_drop]
open Go.RowKit
abbrev pK (k : Kd) : PV := .agg (rowK k)
theorem bytesOf_len (n : Nat) : bytesOf? [[PV.int .u8 (((UInt8.ofNat n).toNat : Nat) : Int)]] = some (leB 1 n) := by
 rw [bytesOf_one]; rfl
theorem extWidths_spec : PCall Tryz.prog 134 [] (.slc (rowsZ .i64 [3, 4, 1, 2])) := by
 refine pcall_go Tryz.func134 E134.h ?_
 simp only [U134, seval, bA]
 rfl
theorem leaf_Leaf_c1_spec (e : Xt) (h : FitE e) : PCall Tryz.prog 135 [pE e] (.slc (rowsN .u64 (numE e))) := by
 refine pcall_go Tryz.func135 E135.h ?_
 obtain ⟨⟨a, b, c, d, f⟩, g⟩ := h
 have u0 : IntKind.u64.wrap e.fr = ((e.fr.toNat : Nat) : Int) := wrapU_nat (by omega) (by omega)
 have u1 : IntKind.u64.wrap e.n = ((e.n.toNat : Nat) : Int) := wrapU_nat (by omega) (by omega)
 have u2 : IntKind.u64.wrap e.kd = ((e.kd.toNat : Nat) : Int) := wrapU_nat (by omega) (by omega)
 have u3 : IntKind.u64.wrap e.at_ = ((e.at_.toNat : Nat) : Int) := wrapU_nat (by omega) (by omega)
 simp only [U135, rowE, u0, u1, u2, u3, seval, bA]
 rfl
theorem writeExt_spec (l : List Xt) (h8 : l.length ≤ 8) (hf : ∀ e ∈ l, FitE e) : PCall Tryz.prog 133 [.slc (l.map rowE), .slc (rowsZ .i64 [3, 4, 1, 2]), .fn (.func 135) [] []] (.tup [.str (recG entE l), .int .i64 0]) := by
 refine pcall_go Tryz.func133 E133.h ?_
 have e0 : IntKind.u8.wrap (l.length : Int) = (((UInt8.ofNat l.length).toNat : Nat) : Int) := byte8 _
 simp only [U133, e0, bytesOf_len, seval, bA]
 refine loopF (fun i : Nat => ⟨ofL [(1, .slc (rowsZ .i64 [3, 4, 1, 2])), (2, .fn (.func 135) [] []), (8, .str (accG entE l i)), (18, .slc (l.map rowE)), (19, .int .i64 l.length), (20, .int .i64 i)], []⟩) (fun i => i ≤ l.length) (fun i => l.length - i) 0 ?_ (Nat.zero_le _) ?_
 ·simp only [U133, accG_0, seval, bA]
  all_goals rfl
 ·intro i hi
  by_cases h : i < l.length
  ·have d : decide ((i : Int) < (l.length : Int)) = true := by simpa using h
   have e1 : IntKind.i64.wrap ((i : Int) + 1) = ((i + 1 : Nat) : Int) := by rw [wrapI (by omega) (by omega)]; omega
   have ho := hf _ (List.getElem_mem h)
   simp only [U133, d, islV_map (g := rowE) h (rowE_len _), rowE, seval, bA]
   refine callI (leaf_Leaf_c1_spec l[i] ho) ?_
   simp only [U133, seval, bA]
   refine callI (row_spec (numE l[i]) [3, 4, 1, 2] (by simp [numE]) (by simp) (by
    intro n hn
    obtain ⟨⟨a, b, c, d, f⟩, g⟩ := ho
    simp only [numE, List.mem_cons, List.not_mem_nil, or_false] at hn
    rcases hn with rfl | rfl | rfl | rfl <;> omega)) ?_
   rw [row_entE l[i] ho]
   have hal := accG_len entE_len l i hi
   have hf2 : binS .add (accG entE l i) (entE l[i]) = some (.str (accG entE l (i + 1))) := by
    rw [binS_cat (by rw [entE_len]; omega), accG_succ l i h]
   simp only [U133, hf2, e1, seval, bA]
   exact ⟨i + 1, rfl, h, by omega⟩
  ·have d : decide ((i : Int) < (l.length : Int)) = false := by simpa using h
   have : i = l.length := by omega
   subst this
   simp only [U133, d, accG_all, seval, bA]
theorem leaf_ReadLeaf_c1_spec (m0 m1 m2 m3 : Nat) (h0 : m0 < 4294967296) (h1 : m1 < 4294967296) (h2 : m2 < 4294967296) (h3 : m3 < 4294967296) : PCall Tryz.prog 142 [.slc (rowsN .u64 [m0, m1, m2, m3])] (pE ⟨(m0 : Int), (m1 : Int), (m2 : Int), (m3 : Int)⟩) := by
 refine pcall_go Tryz.func142 E142.h ?_
 have j0 : ∀ ob fb, islV ob fb 1 (.slc (rowsN .u64 [m0, m1, m2, m3])) (.int .i64 0) = some (.fptr [.int .u64 (m0 : Int)]) := fun _ _ => rfl
 have j1 : ∀ ob fb, islV ob fb 1 (.slc (rowsN .u64 [m0, m1, m2, m3])) (.int .i64 1) = some (.fptr [.int .u64 (m1 : Int)]) := fun _ _ => rfl
 have j2 : ∀ ob fb, islV ob fb 1 (.slc (rowsN .u64 [m0, m1, m2, m3])) (.int .i64 2) = some (.fptr [.int .u64 (m2 : Int)]) := fun _ _ => rfl
 have j3 : ∀ ob fb, islV ob fb 1 (.slc (rowsN .u64 [m0, m1, m2, m3])) (.int .i64 3) = some (.fptr [.int .u64 (m3 : Int)]) := fun _ _ => rfl
 have c0 : IntKind.i64.wrap (m0 : Int) = (m0 : Int) := wrapI (by omega) (by omega)
 have c1 : IntKind.i64.wrap (m1 : Int) = (m1 : Int) := wrapI (by omega) (by omega)
 have c2 : IntKind.i64.wrap (m2 : Int) = (m2 : Int) := wrapI (by omega) (by omega)
 have c3 : IntKind.i64.wrap (m3 : Int) = (m3 : Int) := wrapI (by omega) (by omega)
 simp only [U142, j0, c0, j1, c1, j2, c2, j3, c3, seval, bA]
 rfl
theorem kidWidths_spec : PCall Tryz.prog 138 [] (.slc (rowsZ .i64 [3, 2])) := by
 refine pcall_go Tryz.func138 E138.h ?_
 simp only [U138, seval, bA]
 rfl
theorem leaf_Inner_c1_spec (e : Kd) (h : FitK e) : PCall Tryz.prog 139 [pK e] (.slc (rowsN .u64 (numK e))) := by
 refine pcall_go Tryz.func139 E139.h ?_
 obtain ⟨a, b, c, d⟩ := h
 have u0 : IntKind.u64.wrap e.ky = ((e.ky.toNat : Nat) : Int) := wrapU_nat (by omega) (by omega)
 have u1 : IntKind.u64.wrap e.at_ = ((e.at_.toNat : Nat) : Int) := wrapU_nat (by omega) (by omega)
 simp only [U139, rowK, u0, u1, seval, bA]
 rfl
theorem writeKid_spec (l : List Kd) (h8 : l.length ≤ 8) (hf : ∀ e ∈ l, FitK e) : PCall Tryz.prog 137 [.slc (l.map rowK), .slc (rowsZ .i64 [3, 2]), .fn (.func 139) [] []] (.tup [.str (recG entK l), .int .i64 0]) := by
 refine pcall_go Tryz.func137 E137.h ?_
 have e0 : IntKind.u8.wrap (l.length : Int) = (((UInt8.ofNat l.length).toNat : Nat) : Int) := byte8 _
 simp only [U137, e0, bytesOf_len, seval, bA]
 refine loopF (fun i : Nat => ⟨ofL [(1, .slc (rowsZ .i64 [3, 2])), (2, .fn (.func 139) [] []), (8, .str (accG entK l i)), (18, .slc (l.map rowK)), (19, .int .i64 l.length), (20, .int .i64 i)], []⟩) (fun i => i ≤ l.length) (fun i => l.length - i) 0 ?_ (Nat.zero_le _) ?_
 ·simp only [U137, accG_0, seval, bA]
  all_goals rfl
 ·intro i hi
  by_cases h : i < l.length
  ·have d : decide ((i : Int) < (l.length : Int)) = true := by simpa using h
   have e1 : IntKind.i64.wrap ((i : Int) + 1) = ((i + 1 : Nat) : Int) := by rw [wrapI (by omega) (by omega)]; omega
   have ho := hf _ (List.getElem_mem h)
   simp only [U137, d, islV_map (g := rowK) h (rowK_len _), rowK, seval, bA]
   refine callI (leaf_Inner_c1_spec l[i] ho) ?_
   simp only [U137, seval, bA]
   refine callI (row_spec (numK l[i]) [3, 2] (by simp [numK]) (by simp) (by
    intro n hn
    obtain ⟨a, b, c, d⟩ := ho
    simp only [numK, List.mem_cons, List.not_mem_nil, or_false] at hn
    rcases hn with rfl | rfl <;> omega)) ?_
   rw [row_entK l[i] ho]
   have hal := accG_len entK_len l i hi
   have hf2 : binS .add (accG entK l i) (entK l[i]) = some (.str (accG entK l (i + 1))) := by
    rw [binS_cat (by rw [entK_len]; omega), accG_succ l i h]
   simp only [U137, hf2, e1, seval, bA]
   exact ⟨i + 1, rfl, h, by omega⟩
  ·have d : decide ((i : Int) < (l.length : Int)) = false := by simpa using h
   have : i = l.length := by omega
   subst this
   simp only [U137, d, accG_all, seval, bA]
theorem leaf_ReadInner_c1_spec (m0 m1 : Nat) (h0 : m0 < 4294967296) (h1 : m1 < 4294967296) : PCall Tryz.prog 144 [.slc (rowsN .u64 [m0, m1])] (pK ⟨(m0 : Int), (m1 : Int)⟩) := by
 refine pcall_go Tryz.func144 E144.h ?_
 have j0 : ∀ ob fb, islV ob fb 1 (.slc (rowsN .u64 [m0, m1])) (.int .i64 0) = some (.fptr [.int .u64 (m0 : Int)]) := fun _ _ => rfl
 have j1 : ∀ ob fb, islV ob fb 1 (.slc (rowsN .u64 [m0, m1])) (.int .i64 1) = some (.fptr [.int .u64 (m1 : Int)]) := fun _ _ => rfl
 have c0 : IntKind.i64.wrap (m0 : Int) = (m0 : Int) := wrapI (by omega) (by omega)
 have c1 : IntKind.i64.wrap (m1 : Int) = (m1 : Int) := wrapI (by omega) (by omega)
 simp only [U144, j0, c0, j1, c1, seval, bA]
 rfl
open Go.RowKit
theorem idx_any {α : Type} (c : α → Bool) (l : List α) : decide (0 ≤ idxS c l) = l.any c := by
 rcases idx_cases c l with ⟨i, h, hi, hc, hj⟩ | ⟨hi, hj⟩
 ·rw [hi]
  have : l.any c = true := List.any_eq_true.2 ⟨l[i], List.getElem_mem h, hc⟩
  rw [this]; simp
 ·rw [hi]
  have : l.any c = false := by
   rw [List.any_eq_false]
   intro x hx
   obtain ⟨j, h, rfl⟩ := List.mem_iff_getElem.1 hx
   simpa using hj j h
  rw [this]; rfl
theorem indexExt_spec (c : Xt → Bool) (l : List Xt) (g : Nat) (cap : List PV) (hm : l.length ≤ 9223372036854775807) (hc1 : ownL cap = false) (hu1 : undL 0 cap = true) (hp : ∀ e ∈ l, PCall Tryz.prog g (pE e :: cap) (.bool (c e))) :
  PCall Tryz.prog 179 [.slc (l.map rowE), .fn (.func g) [] cap] (.int .i64 (idxS c l)) := by
 refine pcall_go Tryz.func179 E179.h ?_
 simp only [U179, seval, bA]
 refine loopF (fun i : Nat => ⟨ofL [(0, .slc (l.map rowE)), (1, .fn (.func g) [] cap), (7, .int .i64 l.length), (8, .int .i64 i)], []⟩)
  (fun i => i ≤ l.length ∧ ∀ j (h : j < l.length), j < i → c l[j] = false) (fun i => l.length - i) 0 ?_ ⟨Nat.zero_le _, fun j _ h => absurd h (by omega)⟩ ?_
 ·simp only [U179, hu1, seval, bA]
  all_goals rfl
 ·intro i ⟨hi, hj⟩
  by_cases h : i < l.length
  ·have d : decide ((i : Int) < (l.length : Int)) = true := by simpa using h
   have e1 : IntKind.i64.wrap ((i : Int) + 1) = ((i + 1 : Nat) : Int) := by rw [wrapI (by omega) (by omega)]; omega
   simp only [U179, d, islV_map (g := rowE) h (rowE_len _), rowE, hc1, seval, bA]
   refine callI (hp l[i] (List.getElem_mem h)) ?_
   by_cases hc : c l[i] = true
   ·simp only [U179, hc, idx_hit h hc hj, seval, bA]
   ·simp only [Bool.not_eq_true] at hc
    simp only [U179, hc, e1, hu1, seval, bA]
    refine ⟨i + 1, rfl, ⟨h, fun j hl hlt => ?_⟩, by omega⟩
    by_cases e : j = i
    ·subst e; exact hc
    ·exact hj j hl (by omega)
  ·have d : decide ((i : Int) < (l.length : Int)) = false := by simpa using h
   simp only [U179, d, idx_none fun j hl => hj j hl (by omega), seval, bA]
theorem containsExt_spec (c : Xt → Bool) (l : List Xt) (g : Nat) (cap : List PV) (hm : l.length ≤ 9223372036854775807) (hc1 : ownL cap = false) (hu1 : undL 0 cap = true) (hp : ∀ e ∈ l, PCall Tryz.prog g (pE e :: cap) (.bool (c e))) :
  PCall Tryz.prog 168 [.slc (l.map rowE), .fn (.func g) [] cap] (.bool (l.any c)) := by
 refine pcall_go Tryz.func168 E168.h ?_
 simp only [U168, hc1, seval, bA]
 refine callI (indexExt_spec c l g cap hm hc1 hu1 hp) ?_
 simp only [U168, idx_any, seval, bA]
theorem indexKid_spec (c : Kd → Bool) (l : List Kd) (g : Nat) (cap : List PV) (hm : l.length ≤ 9223372036854775807) (hc1 : ownL cap = false) (hu1 : undL 0 cap = true) (hp : ∀ e ∈ l, PCall Tryz.prog g (pK e :: cap) (.bool (c e))) :
  PCall Tryz.prog 188 [.slc (l.map rowK), .fn (.func g) [] cap] (.int .i64 (idxS c l)) := by
 refine pcall_go Tryz.func188 E188.h ?_
 simp only [U188, seval, bA]
 refine loopF (fun i : Nat => ⟨ofL [(0, .slc (l.map rowK)), (1, .fn (.func g) [] cap), (7, .int .i64 l.length), (8, .int .i64 i)], []⟩)
  (fun i => i ≤ l.length ∧ ∀ j (h : j < l.length), j < i → c l[j] = false) (fun i => l.length - i) 0 ?_ ⟨Nat.zero_le _, fun j _ h => absurd h (by omega)⟩ ?_
 ·simp only [U188, hu1, seval, bA]
  all_goals rfl
 ·intro i ⟨hi, hj⟩
  by_cases h : i < l.length
  ·have d : decide ((i : Int) < (l.length : Int)) = true := by simpa using h
   have e1 : IntKind.i64.wrap ((i : Int) + 1) = ((i + 1 : Nat) : Int) := by rw [wrapI (by omega) (by omega)]; omega
   simp only [U188, d, islV_map (g := rowK) h (rowK_len _), rowK, hc1, seval, bA]
   refine callI (hp l[i] (List.getElem_mem h)) ?_
   by_cases hc : c l[i] = true
   ·simp only [U188, hc, idx_hit h hc hj, seval, bA]
   ·simp only [Bool.not_eq_true] at hc
    simp only [U188, hc, e1, hu1, seval, bA]
    refine ⟨i + 1, rfl, ⟨h, fun j hl hlt => ?_⟩, by omega⟩
    by_cases e : j = i
    ·subst e; exact hc
    ·exact hj j hl (by omega)
  ·have d : decide ((i : Int) < (l.length : Int)) = false := by simpa using h
   simp only [U188, d, idx_none fun j hl => hj j hl (by omega), seval, bA]
theorem containsKid_spec (c : Kd → Bool) (l : List Kd) (g : Nat) (cap : List PV) (hm : l.length ≤ 9223372036854775807) (hc1 : ownL cap = false) (hu1 : undL 0 cap = true) (hp : ∀ e ∈ l, PCall Tryz.prog g (pK e :: cap) (.bool (c e))) :
  PCall Tryz.prog 170 [.slc (l.map rowK), .fn (.func g) [] cap] (.bool (l.any c)) := by
 refine pcall_go Tryz.func170 E170.h ?_
 simp only [U170, hc1, seval, bA]
 refine callI (indexKid_spec c l g cap hm hc1 hu1 hp) ?_
 simp only [U170, idx_any, seval, bA]
theorem low_spec (e : Xt) : PCall Tryz.prog 169 [pE e] (.bool (decide (2048 ≤ e.at_))) := by
 refine pcall_go Tryz.func169 E169.h ?_
 simp only [U169, rowE, seval, bA]
theorem low_all (l : List Xt) : (!(l.any fun e => decide (2048 ≤ e.at_))) = l.all lowB := by
 rw [Bool.eq_iff_iff]
 simp [lowB]
theorem extents_spec (l : List Xt) (hm : l.length ≤ 9223372036854775807) : PCall Tryz.prog 132 [.slc (l.map rowE)] (.bool (leafB l)) := by
 refine pcall_go Tryz.func132 E132.h ?_
 by_cases h1 : 1 ≤ l.length
 ·have d1 : decide ((1 : Int) ≤ (l.length : Int)) = true := by simp only [decide_eq_true_eq]; omega
  by_cases h2 : l.length ≤ 8
  ·have d2 : decide ((l.length : Int) ≤ 8) = true := by simp only [decide_eq_true_eq]; omega
   simp only [U132, d1, d2, seval, bA]
   refine callI (check_spec l hm) ?_
   cases h3 : okB l with
   | true =>
    simp only [U132, d1, d2, seval, bA]
    refine callI (containsExt_spec (fun e => decide (2048 ≤ e.at_)) l 169 [] hm rfl rfl fun e _ => low_spec e) ?_
    have hq : leafB l = !(l.any fun e => decide (2048 ≤ e.at_)) := by rw [low_all]; simp [leafB, h1, h2, h3]
    rw [hq]
    simp only [U132, seval, bA]
   | false =>
    have hq : leafB l = false := by simp [leafB, h3]
    simp only [U132, hq, seval, bA]
  ·have d2 : decide ((l.length : Int) ≤ 8) = false := by simp only [decide_eq_false_iff_not]; omega
   have hq : leafB l = false := by simp [leafB, h2]
   simp only [U132, d1, d2, hq, seval, bA]
 ·have d1 : decide ((1 : Int) ≤ (l.length : Int)) = false := by simp only [decide_eq_false_iff_not]; omega
  have hq : leafB l = false := by simp [leafB, h1]
  simp only [U132, d1, hq, seval, bA]
theorem kidsc_spec (o k : Kd) : PCall Tryz.prog 171 [pK o, .fptr (rowK k)] (.bool (o.at_ == k.at_)) := by
 refine pcall_go Tryz.func171 E171.h ?_
 simp only [U171, rowK, seval, bA]
theorem kids_spec (l : List Kd) (hm : l.length ≤ 9223372036854775807) : PCall Tryz.prog 136 [.slc (l.map rowK)] (.bool (kidsB l)) := by
 refine pcall_go Tryz.func136 E136.h ?_
 by_cases hl2 : l.length < 2
 ·have d1 : decide ((l.length : Int) < 2) = true := by simp only [decide_eq_true_eq]; omega
  have hr : kidsB l = false := by rw [← Bool.not_eq_true, kidsB_iff]; omega
  simp only [U136, d1, hr, seval, bA]
 ·have d1 : decide ((l.length : Int) < 2) = false := by simp only [decide_eq_false_iff_not]; omega
  by_cases hl8 : 8 < l.length
  ·have d0 : decide ((8 : Int) < (l.length : Int)) = true := by simp only [decide_eq_true_eq]; omega
   have hr : kidsB l = false := by rw [← Bool.not_eq_true, kidsB_iff]; omega
   simp only [U136, d1, d0, hr, seval, bA]
  ·have d0 : decide ((8 : Int) < (l.length : Int)) = false := by simp only [decide_eq_false_iff_not]; omega
   simp only [U136, d1, d0, seval, bA]
   refine loopF (fun i : Nat => ⟨ofL [(0, .slc (l.map rowK)), (13, .slc (l.map rowK)), (14, .int .i64 l.length), (15, .int .i64 i)], []⟩)
    (fun i => i ≤ l.length ∧ (∀ j (h : j < l.length), j < i → kidB l[j] = true) ∧ (∀ j (h : j + 1 < l.length), j + 1 < i → upB l[j] l[j + 1] = true) ∧ ∀ a (h : a < l.length) b (hb : b < l.length), a < i → b < a → l[b].at_ ≠ l[a].at_) (fun i => l.length - i) 0 ?_ ⟨Nat.zero_le _, fun j _ h => absurd h (by omega), fun j _ h => absurd h (by omega), fun a _ b _ h => absurd h (by omega)⟩ ?_
   ·simp only [U136, seval, bA]
    all_goals rfl
   ·intro i ⟨hi, h1, h2, h3⟩
    by_cases h : i < l.length
    ·have d : decide ((i : Int) < (l.length : Int)) = true := by simpa using h
     have e1 : IntKind.i64.wrap ((i : Int) + 1) = ((i + 1 : Nat) : Int) := by rw [wrapI (by omega) (by omega)]; omega
     have hno : kidB l[i] = false → kidsB l = false := fun ho => by simp [kidsB, lkB_no1 h ho]
     have hgo : kidB l[i] = true → ∀ j (h : j < l.length), j < i + 1 → kidB l[j] = true := fun ho j hj hlt => by
      by_cases e : j = i
      ·subst e; exact ho
      ·exact h1 j hj (by omega)
     have hap : ∀ b (hb : b < l.length), b < i → l[b].at_ = l[i].at_ → kidsB l = false := fun b hb hlt he => by
      rw [← Bool.not_eq_true, kidsB_iff]; rintro ⟨_, _, _, hn⟩; exact nodup_at.1 hn i h b hb hlt he
     have hgn : (∀ b (hb : b < l.length), b < i → l[b].at_ ≠ l[i].at_) → ∀ a (h : a < l.length) b (hb : b < l.length), a < i + 1 → b < a → l[b].at_ ≠ l[a].at_ := fun hh a ha b hb hlt hba => by
      by_cases e : a = i
      ·subst e; exact hh b hb hba
      ·exact h3 a ha b hb (by omega) hba
     by_cases w0 : l[i].ky < 0
     ·have x0 := decide_eq_true w0
      have ho : kidB l[i] = false := by rw [← Bool.not_eq_true, kidB_iff, FitK]; omega
      simp only [U136, d, islV_map (g := rowK) h (rowK_len _), rowK, x0, hno ho, seval, bA]
     ·have x0 := decide_eq_false w0
      by_cases w1 : 16777216 ≤ l[i].ky
      ·have x1 := decide_eq_true w1
       have ho : kidB l[i] = false := by rw [← Bool.not_eq_true, kidB_iff, FitK]; omega
       simp only [U136, d, islV_map (g := rowK) h (rowK_len _), rowK, x0, x1, hno ho, seval, bA]
      ·have x1 := decide_eq_false w1
       by_cases w2 : l[i].at_ < 0
       ·have x2 := decide_eq_true w2
        have ho : kidB l[i] = false := by rw [← Bool.not_eq_true, kidB_iff, FitK]; omega
        simp only [U136, d, islV_map (g := rowK) h (rowK_len _), rowK, x0, x1, x2, hno ho, seval, bA]
       ·have x2 := decide_eq_false w2
        by_cases w3 : 2048 ≤ l[i].at_
        ·have x3 := decide_eq_true w3
         have ho : kidB l[i] = false := by rw [← Bool.not_eq_true, kidB_iff, FitK]; omega
         simp only [U136, d, islV_map (g := rowK) h (rowK_len _), rowK, x0, x1, x2, x3, hno ho, seval, bA]
        ·have x3 := decide_eq_false w3
         have ho : kidB l[i] = true := kidB_iff.2 ⟨by omega, by omega, by omega, by omega⟩
         have hrk : rowsOk 2 (l.map rowK) = true := rowsOk_map rowK_len l
         by_cases h0 : 0 < i
         ·have d2 : decide ((0 : Int) < (i : Int)) = true := by simpa using h0
          obtain ⟨k, rfl⟩ : ∃ k, i = k + 1 := ⟨i - 1, by omega⟩
          have hk : k < l.length := by omega
          have e2 : IntKind.i64.wrap (((k + 1 : Nat) : Int) - 1) = (k : Int) := by rw [wrapI (by omega) (by omega)]; omega
          have hsl : ∀ ob fb, sslV ob fb 2 (.slc (l.map rowK)) (some none) (some (some ((k + 1 : Nat) : Int))) = some (.slc ((l.take (k + 1)).map rowK)) := fun ob fb => by rw [sslV_to hrk (by simpa using Nat.le_of_lt h), List.map_take]
          by_cases hl : l[k].ky < l[k + 1].ky
          ·have d3 : decide (l[k + 1].ky ≤ l[k].ky) = false := by simp; omega
           simp only [U136, d, islV_map (g := rowK) h (rowK_len _), rowK, x0, x1, x2, x3, d2, d3, e2, islV_map (g := rowK) hk (rowK_len _), hsl, seval, bA]
           have hany : ((l.take (k + 1)).any fun o => o.at_ == l[k + 1].at_) = true → kidsB l = false := fun hh => by
            obtain ⟨x, hx, hxe⟩ := List.any_eq_true.1 hh
            obtain ⟨b, hb, rfl⟩ := List.mem_iff_getElem.1 hx
            simp only [List.length_take] at hb
            exact hap b (by omega) (by omega) (by simpa using hxe)
           have hnone : ((l.take (k + 1)).any fun o => o.at_ == l[k + 1].at_) = false → ∀ b (hb : b < l.length), b < k + 1 → l[b].at_ ≠ l[k + 1].at_ := fun hh b hb hlt he => by
            rw [List.any_eq_false] at hh
            exact hh l[b] (by rw [List.mem_iff_getElem]; exact ⟨b, by simp; omega, by simp⟩) (by simpa using he)
           refine callS (containsKid_spec (fun o => o.at_ == l[k + 1].at_) (l.take (k + 1)) 171 [.fptr (rowK l[k + 1])] (by simp; omega) (by simp [ownL, PV.own?]) (by simp [undL, PV.und]) fun e _ => kidsc_spec e l[k + 1]) rfl ?_
           cases hc : ((l.take (k + 1)).any fun o => o.at_ == l[k + 1].at_) with
           | true =>
            simp only [U136, hany hc, seval, bA]
           | false =>
            simp only [U136, e1, seval, bA]
            refine ⟨k + 1 + 1, rfl, ⟨by omega, hgo ho, fun j hj hlt => ?_, hgn (hnone hc)⟩, by omega⟩
            by_cases e : j = k
            ·subst e; simpa [upB] using hl
            ·exact h2 j hj (by omega)
          ·have d3 : decide (l[k + 1].ky ≤ l[k].ky) = true := by simp; omega
           have hr : kidsB l = false := by simp [kidsB, lkB_no2 (one := kidB) (lk := upB) h (by simpa [upB] using hl)]
           simp only [U136, d, islV_map (g := rowK) h (rowK_len _), rowK, x0, x1, x2, x3, d2, d3, e2, islV_map (g := rowK) hk (rowK_len _), hr, seval, bA]
         ·have d2 : decide ((0 : Int) < (i : Int)) = false := by simpa using h0
          have hsl : ∀ ob fb, sslV ob fb 2 (.slc (l.map rowK)) (some none) (some (some (i : Int))) = some (.slc ((l.take i).map rowK)) := fun ob fb => by rw [sslV_to hrk (by simpa using Nat.le_of_lt h), List.map_take]
          simp only [U136, d, islV_map (g := rowK) h (rowK_len _), rowK, x0, x1, x2, x3, d2, hsl, seval, bA]
          have hany : ((l.take (i)).any fun o => o.at_ == l[i].at_) = true → kidsB l = false := fun hh => by
           obtain ⟨x, hx, hxe⟩ := List.any_eq_true.1 hh
           obtain ⟨b, hb, rfl⟩ := List.mem_iff_getElem.1 hx
           simp only [List.length_take] at hb
           exact hap b (by omega) (by omega) (by simpa using hxe)
          have hnone : ((l.take (i)).any fun o => o.at_ == l[i].at_) = false → ∀ b (hb : b < l.length), b < i → l[b].at_ ≠ l[i].at_ := fun hh b hb hlt he => by
           rw [List.any_eq_false] at hh
           exact hh l[b] (by rw [List.mem_iff_getElem]; exact ⟨b, by simp; omega, by simp⟩) (by simpa using he)
          refine callS (containsKid_spec (fun o => o.at_ == l[i].at_) (l.take (i)) 171 [.fptr (rowK l[i])] (by simp; omega) (by simp [ownL, PV.own?]) (by simp [undL, PV.und]) fun e _ => kidsc_spec e l[i]) rfl ?_
          cases hc : ((l.take (i)).any fun o => o.at_ == l[i].at_) with
          | true =>
           simp only [U136, hany hc, seval, bA]
          | false =>
           simp only [U136, e1, seval, bA]
           exact ⟨i + 1, rfl, ⟨by omega, hgo ho, fun j hj hlt => absurd hlt (by omega), hgn (hnone hc)⟩, by omega⟩
    ·have d : decide ((i : Int) < (l.length : Int)) = false := by simpa using h
     have hr : kidsB l = true := kidsB_iff.2 ⟨by omega, by omega, lkB_at.2 ⟨fun j hj => h1 j hj (by omega), fun j hj => h2 j hj (by omega)⟩, nodup_at.2 fun a ha b hb hba => h3 a ha b hb (by omega) hba⟩
     simp only [U136, d, hr, seval, bA]
open Go.RowKit
theorem Leaf_spec (l : List Xt) (hm : l.length ≤ 9223372036854775807) : PCall Tryz.prog 100 [.slc (l.map rowE)] (.tup [.str (writeG entE leafB l).1, .int .i64 (writeG entE leafB l).2]) := by
 refine pcall_go Tryz.func100 E100.h ?_
 simp only [U100, seval, bA]
 refine callI (extents_spec l hm) ?_
 cases h : leafB l with
 | false =>
  have hw : writeG entE leafB l = ([], 1) := by rw [writeG, if_neg (by rw [h]; simp)]
  rw [hw]
  simp only [U100, seval, bA]
 | true =>
  have hw : writeG entE leafB l = (recG entE l, 0) := by rw [writeG, if_pos h]
  rw [hw]
  simp only [U100, seval, bA]
  refine callI extWidths_spec ?_
  simp only [U100, seval, bA]
  refine callI (writeExt_spec l (by have := (leafB_iff.1 h).2.1; omega) (leaf_fit h)) ?_
  simp only [U100, seval, bA]
theorem Inner_spec (l : List Kd) (hm : l.length ≤ 9223372036854775807) : PCall Tryz.prog 101 [.slc (l.map rowK)] (.tup [.str (writeG entK kidsB l).1, .int .i64 (writeG entK kidsB l).2]) := by
 refine pcall_go Tryz.func101 E101.h ?_
 simp only [U101, seval, bA]
 refine callI (kids_spec l hm) ?_
 cases h : kidsB l with
 | false =>
  have hw : writeG entK kidsB l = ([], 1) := by rw [writeG, if_neg (by rw [h]; simp)]
  rw [hw]
  simp only [U101, seval, bA]
 | true =>
  have hw : writeG entK kidsB l = (recG entK l, 0) := by rw [writeG, if_pos h]
  rw [hw]
  simp only [U101, seval, bA]
  refine callI kidWidths_spec ?_
  simp only [U101, seval, bA]
  refine callI (writeKid_spec l (by have := (kidsB_iff.1 h).2.1; omega) (kids_fit' h)) ?_
  simp only [U101, seval, bA]
end Go.Proofs.YtdgpiobmncohjaaGreatDoor.Aw.Lf
namespace Go.Proofs.YtdgpiobmncohjaaGreatDoor.Aw
open Go.RowKit Ar
def atOf (ob : List AObj) (p : Nat) : Int := match ob[p]? with
 | some (.box (.int _ a :: _)) => a
 | _ => -1
theorem atOf_at {ob : List AObj} {p : Nat} {a : Int} {x : List PV} {k : IntKind} (h : ob[p]? = some (.box (.int k a :: x))) : atOf ob p = a := by simp only [atOf, h]
theorem Node.at_bx [Fr] {ob : List AObj} {h : Nat} {k : Kd} (hN : Node ob h k) : ∃ v, ob[k.p]? = some (.box [.int .i64 (atOf ob k.p), v]) ∧ Fr.W (atOf ob k.p) h k.l k.s := by
 cases h with
 | zero =>
  obtain ⟨q, off, c, hL⟩ := hN; obtain ⟨a, hb, hw⟩ := hL.bx
  rw [atOf_at hb]; exact ⟨_, hb, hw⟩
 | succ h =>
  obtain ⟨q, off, c, ks, hL, _⟩ := hN; obtain ⟨a, hb, hw⟩ := hL.bx
  rw [atOf_at hb]; exact ⟨_, hb, hw⟩
theorem ownL_app (a b : List PV) : ownL (a ++ b) = (ownL a || ownL b) := by
 induction a with
 | nil => simp [ownL]
 | cons x a ih => simp [ownL, ih, Bool.or_assoc]
def LeafP (l : List Xt) : Prop := 1 ≤ l.length ∧ l.length ≤ 8 ∧ OkL l
theorem leafB_of {l : List Xt} (h : LeafP l) : Lf.leafB l = true := by
 refine Lf.leafB_iff.2 ⟨h.1, h.2.1, okB_ok.2 h.2.2, fun e he => ?_⟩
 have := chain_one h.2.2.1 e he
 have h5 := this.2.2.2.2
 have := this.2.1
 omega
theorem leafA {ob : List AObj} {q off n c : Nat} {l : List Xt} (h : LeafP l) (hn : l.length = n) (hA : Arr ob 4 q off n c (XL l)) : RCall Tryz.prog 100 [.asl q off n c] ob (.tup [.str (Lf.recG Lf.entE l), .int .i64 0]) := by
 have hs := Lf.Leaf_spec l (by have := h.2.1; omega)
 rw [show Lf.writeG Lf.entE Lf.leafB l = (Lf.recG Lf.entE l, 0) by rw [Lf.writeG, if_pos (leafB_of h)]] at hs
 exact RCall.ofArr (pre := []) (post := []) (esz := 4) hs hA (fun r hr => by obtain ⟨e, _, rfl⟩ := List.mem_map.1 hr; rfl) (by rw [List.length_map]; exact hn) (by
  have : ∀ l : List Xt, ownL (l.map rowE).flatten = false := fun l => by
   induction l with
   | nil => rfl
   | cons e l ih => rw [List.map_cons, List.flatten_cons, ownL_app, ih]; rfl
  exact this l) rfl rfl rfl
theorem innerA {ob : List AObj} {q off n c : Nat} {l : List Lf.Kd} (h : Lf.kidsB l = true) (hn : l.length = n) (hA : Arr ob 2 q off n c (l.map Lf.rowK).flatten) : RCall Tryz.prog 101 [.asl q off n c] ob (.tup [.str (Lf.recG Lf.entK l), .int .i64 0]) := by
 have hs := Lf.Inner_spec l (by have := (Lf.kidsB_iff.1 h).2.1; omega)
 rw [show Lf.writeG Lf.entK Lf.kidsB l = (Lf.recG Lf.entK l, 0) by rw [Lf.writeG, if_pos h]] at hs
 exact RCall.ofArr (pre := []) (post := []) (esz := 2) hs hA (fun r hr => by obtain ⟨e, _, rfl⟩ := List.mem_map.1 hr; rfl) (by rw [List.length_map]; exact hn) (by
  have : ∀ l : List Lf.Kd, ownL (l.map Lf.rowK).flatten = false := fun l => by
   induction l with
   | nil => rfl
   | cons e l ih => rw [List.map_cons, List.flatten_cons, ownL_app, ih]; rfl
  exact this l) rfl rfl rfl
theorem body_leaf [Fr] {ob : List AObj} {k : Kd} {q off c : Nat} (hL : LeafAt ob k q off c) (h : LeafP k.l) : ICall Tryz.prog 59 [nodeV 0 k] ob fun r ob' => r = .tup [.int .i64 2, .str (Lf.recG Lf.entE k.l)] ∧ Same ob ob' (fun _ => False) := by
 obtain ⟨a, hb, hw⟩ := hL.bx
 rw [nodeV_0]
 refine icall_dr Tryz.func59 E59.h ?_
 simp only [U59, hb, ldB1, seval, bA]
 refine callR (leafA h hL.sz.symm hL.ar) ?_
 simp only [U59, seval, bA]
 exact ⟨_, rfl, rfl, Same.refl _ _⟩
def kidOf (ob : List AObj) (y : Kd) : Lf.Kd := ⟨keyX y.l, atOf ob y.p⟩
theorem body_inner [Fr] {ob : List AObj} {h' : Nat} {k : Kd} {q off c : Nat} {ks : List Kd} (hI : InnerAt ob h' k q off c ks) (hk : ∀ x ∈ ks, Node ob h' x ∧ 1 ≤ x.s) (hkb : Lf.kidsB (ks.map (kidOf ob)) = true) :
  ICall Tryz.prog 59 [nodeV (h' + 1) k] ob fun r ob' => r = .tup [.int .i64 3, .str (Lf.recG Lf.entK (ks.map (kidOf ob)))] ∧ Same ob ob' (fun _ => False) := by
 obtain ⟨a, hb, hw⟩ := hI.bx
 have hA := hI.ar
 have h8 : ks.length ≤ 8 := by have := (Lf.kidsB_iff.1 hkb).2.1; simpa using this
 have h2 : 2 ≤ ks.length := by have := (Lf.kidsB_iff.1 hkb).1; simpa using this
 rw [hI.sz] at hA hb
 rw [nodeV_s]
 refine icall_dr Tryz.func59 E59.h ?_
 simp only [U59, hb, ldB1, seval, bA]
 refine loopF (fun x : Nat × PV × List AObj => ⟨ofL [(8, x.2.1), (32, .asl q off ks.length c), (33, .int .i64 ks.length), (34, .int .i64 x.1)], x.2.2⟩)
  (fun x => x.1 ≤ ks.length ∧ Same ob x.2.2 (fun _ => False) ∧ SlB x.2.2 2 x.2.1 x.1 (((ks.take x.1).map (kidOf ob)).map Lf.rowK).flatten ∧ ∀ r, OnB x.2.1 r → ob.length ≤ r) (fun x => ks.length - x.1) (0, .nils, ob) ?_ ⟨Nat.zero_le _, Same.refl _ _, .inl ⟨rfl, rfl, rfl⟩, fun r hr => by obtain ⟨_, _, _, h⟩ := hr; cases h⟩ ?_
 ·simp only [U59, seval, bA]
  all_goals rfl
 rintro ⟨j, v, ob1⟩ ⟨hj, hS, hv, hq⟩
 simp only at hj hS hv hq
 by_cases h : j < ks.length
 ·have d : decide ((j : Int) < (ks.length : Int)) = true := by simpa using h
  have d' : decide (j < ks.length) = true := by simpa using h
  have e1 : IntKind.i64.wrap ((j : Int) + 1) = ((j + 1 : Nat) : Int) := by rw [wrapI (by omega) (by omega)]; omega
  have hx := hk ks[j] (List.getElem_mem h)
  have hld := ldK (hS.arr hA (fun h => h)) (i := j) (x := nodeV h' ks[j]) (by simp [h])
  have hx1 := hx.1.same hS (fun _ _ h => h)
  obtain ⟨w, hbx, _⟩ := hx.1.at_bx
  have hb1 := hS.get hbx (fun h => h)
  simp only [U59, d, d', hld, nodeV, ldB1, seval, bA]
  refine callJ (mF h') (first_r h' hx1 hx.2) ?_
  try simp only [U59, d, d', hld, nodeV, ldB1, seval, bA]
  refine callX (mW h') (callM (where_i h' ks[j].p) ?_)
  rintro r ob2 ⟨rfl, hob⟩
  rw [hob]; clear hob ob2
  simp only [U59, hb1, ldB1, List.replicate_succ, List.replicate_zero, List.set_cons_zero, List.set_cons_succ, seval, bA]
  have hex : ∃ ex, ex = [AObj.box [.int .i64 (keyX ks[j].l), .int .i64 (atOf ob ks[j].p)]] := ⟨_, rfl⟩
  obtain ⟨ex, hex⟩ := hex
  rw [← hex]
  have hS2 : Same ob1 (ob1 ++ ex) (fun _ => False) := Same.app _ _ _
  have hsrc : arrSrc (ob1 ++ ex) 2 (.asl ob1.length 0 1 1) = some (Lf.rowK (kidOf ob ks[j])) := by
   rw [hex, arrSrc_asl (app0 _ _) (by simp)]; rfl
  refine appB (hv.same hS2 (fun _ _ h => h)) rfl hsrc rfl rfl (by omega) ?_
  intro r off' c' ob3 hA3 hr3 hS3 hc3
  have hr0 : ob.length ≤ r := by
   have := hS.1; have := hS2.1
   rcases hr3 with h | h
   ·exact hq r h
   ·omega
  simp only [U59, e1, seval, bA]
  refine ⟨(j + 1, .asl r off' (j + 1) c', ob3), rfl, ⟨h, ?_, .inr ⟨r, off', c', rfl, ?_, hc3⟩, ?_⟩, by simp only; omega⟩
  ·refine ⟨show ob.length ≤ ob3.length by have := hS.1; have := hS2.1; have := hS3.1; omega, fun i hi _ => ?_⟩
   show ob3[i]? = ob[i]?
   rw [hS3.2 i (by have := hS.1; have := hS2.1; omega) (show ¬ i = r by omega), hS2.2 i (by have := hS.1; omega) (fun h => h)]
   exact hS.2 i hi (fun h => h)
  ·have e2 : ks.take (j + 1) = ks.take j ++ [ks[j]] := by rw [List.take_succ_eq_append_getElem h]
   simp only [e2, List.map_append, List.flatten_append, List.map_cons, List.map_nil, List.flatten_cons, List.flatten_nil, List.append_nil]
   exact hA3
  ·rintro i ⟨o', n', c'', e'⟩
   injection e' with e'
   omega
 ·have d : decide ((j : Int) < (ks.length : Int)) = false := by simpa using h
  have hje : j = ks.length := by omega
  subst hje
  rw [List.take_length] at hv
  rcases hv with ⟨h0, _⟩ | ⟨r, off', c', rfl, hA', hc'⟩
  ·omega
  simp only [U59, d, seval, bA]
  refine callR (innerA hkb (by simp) hA') ?_
  simp only [U59, seval, bA]
  exact ⟨_, rfl, rfl, hS⟩
end Go.Proofs.YtdgpiobmncohjaaGreatDoor.Aw
