/-
 From a program's operations to abstract ones, and that the abstract ones tell the truth: the operations that make no memory.; That the abstract operations tell the truth: comparisons of structs, conversions, slicings, indexes, lengths.
-/
import Derived.Test.YtdgpiobmncohjaaGreatDoorKab
import Derived.Great.FillDense
import Derived.Great.BuildSlice
set_option linter.all false
namespace Go.Proofs.YtdgpiobmncohjaaGreatDoor.Aw
open Go.RowKit
theorem ba_loop (a : ByteArray) : ∀ (n i : Nat) (acc : List UInt8), a.size - i = n → ByteArray.toList.loop a i acc = acc.reverse ++ a.data.toList.drop i := by
 intro n
 induction n with
 | zero =>
  intro i acc h
  unfold ByteArray.toList.loop
  rw [if_neg (by omega)]
  rw [List.drop_eq_nil_of_le (by show a.data.toList.length ≤ i; simp; show a.size ≤ i; omega)]
  simp
 | succ n ih =>
  intro i acc h
  unfold ByteArray.toList.loop
  rw [if_pos (by omega), ih (i + 1) _ (by omega)]
  have hi : i < a.data.toList.length := by simp; show i < a.size; omega
  rw [List.drop_eq_getElem_cons hi]
  simp
  have hi' : i < a.size := by omega
  simp [ByteArray.get!, hi']
theorem ba_toList (a : ByteArray) : a.toList = a.data.toList := by
 unfold ByteArray.toList; rw [ba_loop a _ 0 [] rfl]; simp
def cvS : Value → PV
 | .int k n => .int k n
 | .bool b => .bool b
 | .string s => .str s.data.toList
 | .slice none 0 0 => .slc []
 | .pointer none => .nilp
 | .nilFunc => .nilf
 | .nilIface => .nili
 | .map none => .nilm
 | .func f first cap => if first.size = 0 ∧ cap.size = 0 then .fn f [] [] else .bot
 | _ => .bot
def cv : Value → PV
 | .agg xs => .agg (xs.toList.map cvS)
 | v => cvS v
def opx : Operand → AX
 | .tmp t => .t t
 | .const v => .k (cv v)
 | .func f => .k (.fn (.func f) [] [])
 | .global _ => .k .bot
theorem R1_cvS {w : World} {F : Nat → Prop} {l : Locs} (v : Value) : R1 w F l (cvS v) v := by
 unfold cvS
 split <;> try (first | exact .int _ _ | exact .bool _ | exact .slc0 _ _ | exact .nilp | exact .nilf | exact .nili | exact .nilm | exact .bot _)
 ·rename_i s
  have := R1.str (w := w) (F := F) (l := l) s.data.toList
  simpa using this
 ·rename_i f first cap
  split
  ·rename_i h
   have h1 : first = #[] := Array.eq_empty_of_size_eq_zero h.1
   have h2 : cap = #[] := Array.eq_empty_of_size_eq_zero h.2
   subst h1; subst h2
   exact .fn (xs := []) (ys := []) rfl (fun i c x h => by simp at h) rfl (fun i c x h => by simp at h)
  ·exact .bot _
theorem RL_cvS {w : World} {F : Nat → Prop} {l : Locs} : ∀ (vs : List Value), RL w F l (vs.map cvS) vs
 | [] => .nil
 | v :: vs => .cons (R1_cvS v) (RL_cvS vs)
def cvN : Value → PV
 | .slice none 0 0 => .nils
 | v => cvS v
theorem R1_cvN {w : World} {F : Nat → Prop} {l : Locs} (v : Value) : R1 w F l (cvN v) v := by
 unfold cvN
 split
 ·exact .nils
 ·exact R1_cvS _
theorem RL_cvN {w : World} {F : Nat → Prop} {l : Locs} : ∀ (vs : List Value), RL w F l (vs.map cvN) vs
 | [] => .nil
 | v :: vs => .cons (R1_cvN v) (RL_cvN vs)
theorem R1_cv {w : World} {F : Nat → Prop} {l : Locs} (v : Value) : R1 w F l (cv v) v := by
 unfold cv
 split
 ·rename_i xs
  have := R1.mkAgg (RL_cvS (w := w) (F := F) (l := l) xs.toList)
  simpa using this
 ·exact R1_cvS _
def SlotsOk (w : World) (F : Nat → Prop) (l : Locs) (s : St) (a : Act) : Prop := ∀ t, R1 w F l (s.sl t) (a.tmps.getD t undef)
theorem opx_sound {w : World} {F : Nat → Prop} {l : Locs} {s : St} {a : Act} (h : SlotsOk w F l s a) (x : Operand) : R1 w F l (s.val (opx x)) (a.eval x) := by
 cases x with
 | tmp t => exact h t
 | const v => exact R1_cv v
 | func f => exact .fn (xs := []) (ys := []) rfl (fun i c x h => by simp at h) rfl (fun i c x h => by simp at h)
 | global g => exact .bot _
def cvT : Value → PV
 | .slice none 0 0 => .nils
 | v => cv v
theorem R1_cvT {w : World} {F : Nat → Prop} {l : Locs} (v : Value) : R1 w F l (cvT v) v := by
 unfold cvT
 split
 ·exact .nils
 ·exact R1_cv v
def opxT : Operand → AX
 | .const v => .k (cvT v)
 | x => opx x
theorem opxT_sound {w : World} {F : Nat → Prop} {l : Locs} {s : St} {a : Act} (h : SlotsOk w F l s a) (x : Operand) : R1 w F l (s.val (opxT x)) (a.eval x) := by
 cases x with
 | const v => exact R1_cvT v
 | tmp t => exact opx_sound h (.tmp t)
 | func f => exact opx_sound h (.func f)
 | global g => exact opx_sound h (.global g)
theorem R1.cells {w : World} {F : Nat → Prop} {l : Locs} {p : PV} {v : Value} (h : R1 w F l p v) (hk : p.known = true) : RL w F l p.cellsOf v.cells.toList := by
 cases h with
 | agg hl h => simpa [PV.cellsOf, Value.cells] using (show RL w F l _ _ from ⟨hl, h⟩)
 | bot v => simp [PV.known] at hk
 | osl ho hb hn hv h => obtain ⟨a, m, c, rfl⟩ := hv; exact RL.one (.osl ho hb hn ⟨_, _, _, rfl⟩ h)
 | lref ho hb hn hv h => obtain ⟨a, rfl⟩ := hv; exact RL.one (.lref ho hb hn ⟨_, rfl⟩ h)
 | tup hl h => exact RL.one (.tup hl h)
 | int k n => exact RL.one (.int k n)
 | bool b => exact RL.one (.bool b)
 | str s => exact RL.one (.str s)
 | nils => exact RL.one .nils
 | slc0 a cap => exact RL.one (.slc0 a cap)
 | slcN h1 h2 h3 h4 h5 h6 h7 => exact RL.one (.slcN h1 h2 h3 h4 h5 h6 h7)
 | ref h1 h2 => exact RL.one (.ref h1 h2)
 | bsl h1 h2 h3 => exact RL.one (.bsl h1 h2 h3)
 | asl h1 h2 h3 h4 => exact RL.one (.asl h1 h2 h3 h4)
 | fptr h1 h2 h3 h4 => exact RL.one (.fptr h1 h2 h3 h4)
 | nilp => exact RL.one .nilp
 | fn h1 h2 h3 h4 => exact RL.one (.fn h1 h2 h3 h4)
 | nilf => exact RL.one .nilf
 | ifc h => exact RL.one (.ifc h)
 | nili => exact RL.one .nili
 | mp h1 h2 => exact RL.one (.mp h1 h2)
 | nilm => exact RL.one .nilm
theorem R1.oneCell {w : World} {F : Nat → Prop} {l : Locs} {p : PV} {v : Value} (h : R1 w F l p v) (hk : p.cell? = true) : v.oneCell' = true := by
 cases h <;> first | rfl | (simp [PV.cell?] at hk; done) | skip
 ·rename_i hv _; obtain ⟨a, m, c, rfl⟩ := hv; rfl
 ·rename_i hv _; obtain ⟨a, rfl⟩ := hv; rfl
theorem RL.oneCell {w : World} {F : Nat → Prop} {l : Locs} {ps : List PV} {vs : List Value} (h : RL w F l ps vs) (hk : ps.all PV.cell? = true) : ∀ v ∈ vs, v.oneCell' = true := by
 intro v hv
 obtain ⟨i, hi⟩ := List.mem_iff_getElem?.1 hv
 have hlt : i < ps.length := by rw [h.1]; exact (List.getElem?_eq_some_iff.1 hi).1
 exact (h.2 i ps[i] v (by simp [hlt]) hi).oneCell (List.all_eq_true.1 hk _ (List.getElem_mem hlt))
theorem scal_cell {p : PV} (h : p.scal = true) : p.cell? = true := by cases p <;> simp_all [PV.scal, PV.cell?]
def Out (c : Ctx) (w : World) (F : Nat → Prop) (l : Locs) (res : Result Next) (pv : PV) (ob' : List AObj) : Prop :=
 ∃ v w' F' l', (res = .ok (.value v) w' ∨ (res = .ok .skip w' ∧ v = undef)) ∧ RepW c F' l' ob' w' ∧ R1 w' F' l' pv v ∧ Mono w F l w' F' l'
section
variable {P : Program} {c : Ctx} {F : Nat → Prop} {l : Locs} {w : World} {s : St} {a : Act}
theorem Out.same {res : Result Next} {pv : PV} {v : Value} (R : RepW c F l s.ob w) (h : res = .ok (.value v) w) (hv : R1 w F l pv v) : Out c w F l res pv s.ob :=
 ⟨v, w, F, l, .inl h, R, hv, Mono.refl _ _ _⟩
theorem sizeOf_run {t : TypeId} {i : TypeInfo} (h : P.info? t = some i) : (sizeOf t).run P w = .ok i.size w := by simp [sizeOf, typeInfo, h]
theorem zeroValue_run {t : TypeId} {i : TypeInfo} {z : Value} (h : P.info? t = some i) (hz : i.zero = some z) : (zeroValue t).run P w = .ok z w := by simp [zeroValue, typeInfo, h, hz]
def isAggD : TypeDesc → Bool
 | .struct _ | .array _ _ => true
 | _ => false
theorem isAgg_run {t : TypeId} {d : TypeDesc} (h : P.underlying t = some d) : (isAgg t).run P w = .ok (isAggD d) w := by
 cases d <;> simp [isAgg, run_underlying h, isAggD]
def cLoad (P : Program) (t : TypeId) (x : Operand) : Option AO :=
 match P.underlying t with
 | some d => if isAggD d then (P.info? t).map fun i => .load (some i.size) (opx x) else some (.load none (opx x))
 | none => none
theorem cLoad_sound {forb : List Nat} {nw : Option Nat} {t : TypeId} {x : Operand} {ao : AO} {pv : PV} {ob' : List AObj} (hc : cLoad P t x = some ao) (R : RepW c F l s.ob w) (hs : SlotsOk w F l s a) (he : ev forb nw s ao = some (pv, ob')) :
  ∃ v, ob' = s.ob ∧ (Instr.loadAt t (a.eval x)).run P w = .ok v w ∧ R1 w F l pv v := by
 unfold cLoad at hc
 split at hc
 ·rename_i d hd
  split at hc
  ·rename_i hagg
   cases hi : P.info? t with
   | none => simp [hi] at hc
   | some i =>
    simp only [hi, Option.map_some, Option.some.injEq] at hc
    subst hc
    simp only [ev, Option.map_eq_some_iff, Prod.mk.injEq] at he
    obtain ⟨cs, hcs, rfl, rfl⟩ := he
    obtain ⟨⟨b, off, cvv, hv, hr, hcell, _⟩, hlen⟩ := ldC_sound R (opx_sound hs x) hcs
    refine ⟨.agg cvv.toArray, rfl, ?_, R1.mkAgg hr⟩
    rw [hv]
    have hl : cvv.length = i.size := by rw [← hr.1, hlen]
    simp [Instr.loadAt, Instr.sureAddr, loadVar, isAgg_run hd, hagg, sizeOf_run hi, run_loadCells_ptr hl hcell]
  ·rename_i hagg
   simp only [Option.some.injEq] at hc
   subst hc
   simp only [ev] at he
   split at he
   ·rename_i v hld
    simp only [Option.some.injEq, Prod.mk.injEq] at he
    obtain ⟨rfl, rfl⟩ := he
    obtain ⟨⟨b, off, cvv, hv, hr, hcell, _⟩, hlen⟩ := ldC_sound R (opx_sound hs x) hld
    obtain ⟨u, us, rfl, hu, hus⟩ := hr.cons_inv
    have hc0 := hcell 0 u rfl
    refine ⟨u, rfl, ?_, hu⟩
    rw [hv]
    simp only [Nat.add_zero] at hc0
    simp [Instr.loadAt, Instr.sureAddr, loadVar, isAgg_run hd, hagg, hc0]
   ·cases he
 ·cases hc
def cStore (P : Program) (t : TypeId) (x y : Operand) : Option AO := (P.info? t).map fun i => .store i.size (opx x) (opxT y)
theorem store_known {p : PV} (h : p.cellsOf.all PV.cell? = true) : p.known = true := by
 cases p <;> simp_all [PV.cellsOf, PV.cell?, PV.known]
theorem cStore_sound {forb : List Nat} {nw : Option Nat} {t : TypeId} {x y : Operand} {ao : AO} {pv : PV} {ob' : List AObj} (hc : cStore P t x y = some ao) (R : RepW c F l s.ob w) (hs : SlotsOk w F l s a) (he : ev forb nw s ao = some (pv, ob')) :
  pv = .bot ∧ ∃ w' l', (Instr.storeAt t (a.eval x) (a.eval y)).run P w = .ok () w' ∧ RepW c F l' ob' w' ∧ Mono w F l w' F l' := by
 unfold cStore at hc
 cases hi : P.info? t with
 | none => simp [hi] at hc
 | some i =>
  simp only [hi, Option.map_some, Option.some.injEq] at hc
  subst hc
  simp only [ev] at he
  split at he
  ·rename_i hcond
   simp only [Option.map_eq_some_iff, Prod.mk.injEq] at he
   obtain ⟨ob1, hst, rfl, rfl⟩ := he
   have hcs := (opxT_sound hs y).cells (store_known hcond.2)
   obtain ⟨b, off, w', l', hv, hrun, R', m'⟩ := stC_sound (P := P) R (opx_sound hs x) hst hcs (hcs.oneCell hcond.2)
   refine ⟨rfl, w', l', ?_, R', m'⟩
   have hsz : (a.eval y).cells.size = i.size := by
    have := hcs.1; rw [hcond.1] at this; simpa using this.symm
   rw [hv]
   simp [Instr.storeAt, Instr.sureAddr, storeVar, sizeOf_run hi, hsz, hrun]
  ·cases he
def cFaddr (P : Program) (t : TypeId) (x : Operand) (f : Nat) : Option AO :=
 match P.underlying t with
 | some (.struct fs) => match fs[f]? with
  | some fd => match P.info? fd.type with
   | some i => if i.size = 0 then none else some (.faddr fd.offset (opx x))
   | none => none
  | none => none
 | _ => none
theorem drop_ptr {cells : List PV} {b off k : Nat} (h : R1 w F l (.fptr cells) (.pointer (some ⟨b, off, none⟩))) (hk : k ≤ cells.length) : R1 w F l (.fptr (cells.drop k)) (.pointer (some ⟨b, off + k, none⟩)) := by
 cases h with
 | @fptr l cells b off cvv hF hc hl hh =>
  obtain ⟨⟨cc, e, fr, h1, h2⟩, h3⟩ := hc
  refine .fptr (cv := cvv.drop k) hF ⟨⟨cc, e, fr, h1, fun j hj => ?_⟩, fun v hv => h3 v (List.mem_of_mem_drop hv)⟩ (by simp; omega) fun i c x hc hx => ?_
  ·rw [List.getElem?_drop, ← h2 (k + j) (by simp at hj; omega)]; congr 1; omega
  ·rw [List.getElem?_drop] at hc hx; exact hh _ c x hc hx
theorem R1.fptr_inv {cells : List PV} {v : Value} (h : R1 w F l (.fptr cells) v) : ∃ b off, v = .pointer (some ⟨b, off, none⟩) := by cases h; exact ⟨_, _, rfl⟩
theorem R1.ref_inv {o off : Nat} {v : Value} (h : R1 w F l (.ref o off) v) : ∃ L, l o = some L ∧ L.box = true ∧ v = .pointer (some ⟨L.blk, off, none⟩) := by cases h; exact ⟨_, ‹_›, ‹_›, rfl⟩
theorem cFaddr_sound {forb : List Nat} {nw : Option Nat} {t : TypeId} {x : Operand} {f : Nat} {ao : AO} {pv : PV} {ob' : List AObj} (hc : cFaddr P t x f = some ao) (hs : SlotsOk w F l s a) (he : ev forb nw s ao = some (pv, ob')) :
  ∃ v, ob' = s.ob ∧ ((Instr.fieldAt t (a.eval x) f).run P w = .ok v w) ∧ R1 w F l pv v := by
 unfold cFaddr at hc
 split at hc
 ·rename_i fs hfs
  split at hc
  ·rename_i fd hfd
   split at hc
   ·rename_i i hi
    split at hc
    ·cases hc
    ·rename_i hsz
     simp only [Option.some.injEq] at hc
     subst hc
     have hx := opx_sound hs x
     have hrun : ∀ ad : Addr, (Instr.fieldAt t (.pointer (some ad)) f).run P w = .ok (.pointer (some (ad.add fd.offset))) w := by
      intro ad
      simp [Instr.fieldAt, run_underlying hfs, hfd, Instr.sureAddr, fieldPlace, sizeOf_run hi, hsz]
     simp only [ev] at he
     split at he
     ·rename_i o j hv
      simp only [Option.some.injEq, Prod.mk.injEq] at he
      obtain ⟨rfl, rfl⟩ := he
      rw [hv] at hx
      obtain ⟨L, h1, h2, h3⟩ := hx.ref_inv
      exact ⟨_, rfl, by rw [h3, hrun, Addr.add_lit], .ref h1 h2⟩
     ·rename_i o i' j n hv
      simp only [Option.some.injEq, Prod.mk.injEq] at he
      obtain ⟨rfl, rfl⟩ := he
      rw [hv] at hx
      generalize a.eval x = u at hx
      cases hx with
      | @lref l o i' off len L v ho hb hn hv' hh =>
       obtain ⟨ad, rfl⟩ := hv'
       exact ⟨_, rfl, hrun ad, .lref ho hb hn ⟨_, rfl⟩ fun e => by
         obtain ⟨h1, h2⟩ := hh e
         simp only [Value.pointer.injEq, Option.some.injEq] at h2
         refine ⟨h1, ?_⟩
         rw [h2, Addr.add_lit, Nat.add_assoc]⟩
     ·rename_i cs hv
      split at he
      ·rename_i hle
       simp only [Option.some.injEq, Prod.mk.injEq] at he
       obtain ⟨rfl, rfl⟩ := he
       rw [hv] at hx
       obtain ⟨b, off, h1⟩ := hx.fptr_inv
       rw [h1] at hx
       exact ⟨_, rfl, by rw [h1, hrun, Addr.add_lit], drop_ptr hx hle⟩
      ·cases he
     ·cases he
   ·cases hc
  ·cases hc
 ·cases hc
def cIaddr (P : Program) (t : TypeId) (x i : Operand) : Option AO :=
 match P.underlying t with
 | some (.array n e) => (P.info? e).map fun ie => .iarr ie.size n (opx x) (opx i)
 | some (.slice e) => (P.info? e).map fun ie => .isl ie.size (opx x) (opx i)
 | _ => none
theorem R1.slc_row {rows : List (List PV)} {v : Value} {i : Nat} {r : List PV} (h : R1 w F l (.slc rows) v) (hr : rows[i]? = some r) :
  ∃ b off cap, v = .slice (some ⟨b, off, none⟩) rows.length cap ∧ R1 w F l (.fptr r) (.pointer (some ⟨b, off + i * r.length, none⟩)) := by
 cases h with
 | slc0 a cap => simp at hr
 | @slcN l rows b off cap cvv esz hne hcap hF hc hrr hl hh =>
  have hlen : r.length = esz := hrr r (List.mem_of_getElem? hr)
  have hil : i < rows.length := (List.getElem?_eq_some_iff.1 hr).1
  obtain ⟨⟨cc, e, fr, h1, h2⟩, h3⟩ := hc
  have hfl := flatten_len rows hrr
  have hrow := flatten_row hrr hr
  have hle : i * esz + esz ≤ rows.length * esz := by rw [← Nat.succ_mul]; exact Nat.mul_le_mul_right _ (by omega)
  have hrl : RL w F (fun _ => none) r ((cvv.drop (i * esz)).take esz) := by
   rw [← hrow]; exact (RL.drop _ ⟨hl, hh⟩).take _
  refine ⟨b, off, cap, rfl, .fptr hF ⟨⟨cc, e, fr, h1, fun j hj => ?_⟩, fun v hv => h3 v (List.mem_of_mem_drop (List.mem_of_mem_take hv))⟩ hrl.1 hrl.2⟩
  simp only [List.length_take, List.length_drop] at hj
  rw [hlen, List.getElem?_take, if_pos (by omega), List.getElem?_drop, ← h2 _ (by omega)]
  congr 1; omega
theorem cIaddr_sound {forb : List Nat} {nw : Option Nat} {t : TypeId} {x i : Operand} {ao : AO} {pv : PV} {ob' : List AObj} (hc : cIaddr P t x i = some ao) (R : RepW c F l s.ob w) (hs : SlotsOk w F l s a) (he : ev forb nw s ao = some (pv, ob')) :
  ∃ v, ob' = s.ob ∧ (Instr.indexAt t (a.eval x) (a.eval i)).run P w = .ok v w ∧ R1 w F l pv v := by
 have hx := opx_sound hs x
 have hi := opx_sound hs i
 unfold cIaddr at hc
 split at hc
 ·rename_i n e hu
  cases hie : P.info? e with
  | none => simp [hie] at hc
  | some ie =>
   simp only [hie, Option.map_some, Option.some.injEq] at hc
   subst hc
   simp only [ev] at he
   split at he
   ·rename_i o j k m hv1 hv2
    rw [hv1] at hx; rw [hv2] at hi
    split at he
    ·rename_i hm
     simp only [Option.some.injEq, Prod.mk.injEq] at he
     obtain ⟨rfl, rfl⟩ := he
     obtain ⟨L, h1, h2, h3⟩ := hx.ref_inv
     refine ⟨.pointer (some ⟨L.blk, j + m.toNat * ie.size, none⟩), rfl, ?_, .ref h1 h2⟩
     rw [h3, hi.int_inv]
     simp [Instr.indexAt, run_underlying hu, asIntOf, Instr.sureAddr, hm, sizeOf_run hie, Addr.add_lit]
    ·cases he
   ·rename_i cs k m hv1 hv2
    rw [hv1] at hx; rw [hv2] at hi
    split at he
    ·rename_i hm
     simp only [Option.some.injEq, Prod.mk.injEq] at he
     obtain ⟨rfl, rfl⟩ := he
     obtain ⟨b, off, h3⟩ := hx.fptr_inv
     rw [h3] at hx
     refine ⟨.pointer (some ⟨b, off + m.toNat * ie.size, none⟩), rfl, ?_, drop_ptr hx hm.2.2⟩
     rw [h3, hi.int_inv]
     simp [Instr.indexAt, run_underlying hu, asIntOf, Instr.sureAddr, hm, sizeOf_run hie, Addr.add_lit]
    ·cases he
   ·cases he
 ·rename_i e hu
  cases hie : P.info? e with
  | none => simp [hie] at hc
  | some ie =>
   simp only [hie, Option.map_some, Option.some.injEq] at hc
   subst hc
   simp only [ev] at he
   split at he
   ·rename_i rows k m hv1 hv2
    rw [hv1] at hx; rw [hv2] at hi
    split at he
    ·rename_i hm
     split at he
     ·rename_i r hr
      split at he
      ·rename_i hlen
       simp only [Option.some.injEq, Prod.mk.injEq] at he
       obtain ⟨rfl, rfl⟩ := he
       obtain ⟨b, off, cap, h3, h4⟩ := hx.slc_row hr
       have hil : m.toNat < rows.length := (List.getElem?_eq_some_iff.1 hr).1
       refine ⟨_, rfl, ?_, h4⟩
       rw [h3, hi.int_inv, hlen]
       have : m < (rows.length : Int) := by omega
       simp [Instr.indexAt, run_underlying hu, asIntOf, hm, this, sizeOf_run hie, Addr.add_lit]
      ·cases he
     ·cases he
    ·cases he
   ·rename_i o j m k n hv1 hv2
    rw [hv1] at hx; rw [hv2] at hi
    split at he
    ·cases he
    split at he
    ·rename_i z rows hob
     split at he
     ·rename_i hcond
      obtain ⟨hz, hcur, hn0, hnm⟩ := hcond
      simp only [Option.some.injEq, Prod.mk.injEq] at he
      obtain ⟨rfl, rfl⟩ := he
      generalize hxv : a.eval x = xv at hx
      cases hx with
      | @osl l o j m L v ho hb hlen hv' hh =>
       rcases R.objs o _ hob with h1 | ⟨L', h1, h2⟩
       ·simp at h1
       rw [ho] at h1; cases h1
       obtain ⟨h3, h4, h5, h6, h7⟩ := h2
       rcases hh (by omega) with ⟨k1, k2, k3, k4⟩ | ⟨k1, k2, ad, k3, k4⟩
       ·omega
       ·rcases h7 with ⟨h7, h8⟩ | ⟨h7, h8, h9, h10⟩
        ·rw [h7] at k1; cases k1
        have had := k4 (by omega)
        refine ⟨.pointer (some ⟨L.blk, L.off + (j + n.toNat - L.st) * L.esz, none⟩), rfl, ?_, .lref ho hb (by omega) ⟨_, rfl⟩ fun _ => ⟨by omega, by simp⟩⟩
        rw [k3, hi.int_inv, had]
        have e2 : L.off + (j - L.st) * L.esz + n.toNat * ie.size = L.off + (j + n.toNat - L.st) * L.esz := by
         rw [h5, hz, Nat.add_assoc, ← Nat.add_mul]; congr 2; omega
        simp [Instr.indexAt, run_underlying hu, asIntOf, hn0, hnm, sizeOf_run hie, Addr.add_lit, e2]
     ·cases he
    ·cases he
   ·rename_i o off m k n hv1 hv2
    rw [hv1] at hx; rw [hv2] at hi
    split at he
    ·rename_i hcond
     simp only [Option.some.injEq, Prod.mk.injEq] at he
     obtain ⟨rfl, rfl⟩ := he
     generalize hxv : a.eval x = xv at hx
     cases hx with
     | @bsl l o off m cap L ho hb hn =>
      refine ⟨.pointer (some ⟨L.blk, off + n.toNat * ie.size, none⟩), rfl, ?_, .ref ho hb⟩
      rw [hi.int_inv]
      simp [Instr.indexAt, run_underlying hu, asIntOf, hcond.1, hcond.2, sizeOf_run hie, Addr.add_lit]
    ·cases he
   ·cases he
 ·cases hc
theorem nilck_sound {forb : List Nat} {nw : Option Nat} {x : Operand} {pv : PV} {ob' : List AObj} {o : Oper} (ho : o.op = .nilCheck x) (hs : SlotsOk w F l s a) (he : ev forb nw s (.nilck (opx x)) = some (pv, ob')) :
  ∃ v, ob' = s.ob ∧ (execOp a.eval o).run P w = .ok (.value v) w ∧ R1 w F l pv v := by
 have hx := opx_sound hs x
 simp only [ev] at he
 split at he
 ·rename_i o' j hv
  simp only [Option.some.injEq, Prod.mk.injEq] at he
  obtain ⟨rfl, rfl⟩ := he
  rw [hv] at hx
  obtain ⟨L, h1, h2, h3⟩ := hx.ref_inv
  exact ⟨_, rfl, by simp [execOp, ho, h3], .ref h1 h2⟩
 ·rename_i o' i j n hv
  simp only [Option.some.injEq, Prod.mk.injEq] at he
  obtain ⟨rfl, rfl⟩ := he
  rw [hv] at hx
  have hx' := hx
  generalize hxv : a.eval x = xv at hx
  cases hx with
  | lref ho' hb hn hv' hh =>
   obtain ⟨ad, rfl⟩ := hv'
   rw [hxv] at hx'
   exact ⟨_, rfl, by simp [execOp, ho, hxv], hx'⟩
 ·rename_i cs hv
  simp only [Option.some.injEq, Prod.mk.injEq] at he
  obtain ⟨rfl, rfl⟩ := he
  rw [hv] at hx
  obtain ⟨b, off, h3⟩ := hx.fptr_inv
  rw [h3] at hx
  exact ⟨_, rfl, by simp [execOp, ho, h3], hx⟩
 ·cases he
theorem pick_sound {forb : List Nat} {nw : Option Nat} {x y z : Operand} {pv : PV} {ob' : List AObj} {o : Oper} (ho : o.op = .pick x y z) (hs : SlotsOk w F l s a) (he : ev forb nw s (.pick (opx x) (opx y) (opx z)) = some (pv, ob')) :
  ∃ v, ob' = s.ob ∧ (execOp a.eval o).run P w = .ok (.value v) w ∧ R1 w F l pv v := by
 have hx := opx_sound hs x
 simp only [ev] at he
 split at he
 ·rename_i t hv
  simp only [Option.some.injEq, Prod.mk.injEq] at he
  obtain ⟨rfl, rfl⟩ := he
  rw [hv] at hx
  refine ⟨if t then a.eval y else a.eval z, rfl, by simp [execOp, ho, hx.bool_inv, asBool], ?_⟩
  cases t
  ·exact opx_sound hs z
  ·exact opx_sound hs y
 ·cases he
def cBin (P : Program) (op : BinOp) (t : TypeId) (x y : Operand) : Option AO :=
 match op, P.underlying t with
 | .eql, some .bool => some (.eqb false (opx x) (opx y))
 | .neq, some .bool => some (.eqb true (opx x) (opx y))
 | .eql, some (.int _) => some (.bin .eql (opx x) (opx y))
 | .neq, some (.int _) => some (.bin .neq (opx x) (opx y))
 | .eql, some .string => some (.bin .eql (opx x) (opx y))
 | .neq, some .string => some (.bin .neq (opx x) (opx y))
 | .eql, some (.slice _) => match y with | .const (.slice none 0 0) => some (.nilsl false (opx x)) | _ => none
 | .neq, some (.slice _) => match y with | .const (.slice none 0 0) => some (.nilsl true (opx x)) | _ => none
 | .eql, some (.pointer _) => match y with | .const (.pointer none) => some (.isn .p false (opx x)) | _ => none
 | .neq, some (.pointer _) => match y with | .const (.pointer none) => some (.isn .p true (opx x)) | _ => none
 | .eql, some (.interface _) => match y with | .const .nilIface => some (.isn .i false (opx x)) | _ => none
 | .neq, some (.interface _) => match y with | .const .nilIface => some (.isn .i true (opx x)) | _ => none
 | .eql, some (.map _ _) => match y with | .const (.map none) => some (.isn .m false (opx x)) | _ => none
 | .neq, some (.map _ _) => match y with | .const (.map none) => some (.isn .m true (opx x)) | _ => none
 | .eql, _ => none
 | .neq, _ => none
 | op, _ => some (.bin op (opx x) (opx y))
theorem toArray_beq (x y : List UInt8) : ((⟨x.toArray⟩ : ByteArray).toList == (⟨y.toArray⟩ : ByteArray).toList) = (x == y) := by
 rw [ba_toList, ba_toList]
theorem bin_sound {forb : List Nat} {nw : Option Nat} {op : BinOp} {t : TypeId} {x y : Operand} {pv : PV} {ob' : List AObj} (hs : SlotsOk w F l s a) (he : ev forb nw s (.bin op (opx x) (opx y)) = some (pv, ob')) :
  ∃ v, ob' = s.ob ∧ (do eqGuard op t x y (a.eval x) (a.eval y); binOp op t (a.eval x) (a.eval y)).run P w = .ok v w ∧ R1 w F l pv v := by
 have hx := opx_sound hs x
 have hy := opx_sound hs y
 simp only [ev, Option.map_eq_some_iff, Prod.mk.injEq] at he
 obtain ⟨v, hv, rfl, rfl⟩ := he
 unfold binV at hv
 split at hv
 ·rename_i k m k' n h1 h2
  rw [h1] at hx; rw [h2] at hy
  rw [hx.int_inv, hy.int_inv]
  cases op <;> simp only [] at hv <;> (try (
   simp only [shI] at hv
   split at hv
   ·cases hv
   ·rename_i hn
    simp only [Option.some.injEq] at hv
    subst hv
    exact ⟨_, rfl, by simp [eqGuard, binOp, Op.shift, hn], .int _ _⟩)) <;> (
   split at hv
   ·rename_i hk
    subst hk
    simp only [binI] at hv
    first
     | (simp only [Option.some.injEq] at hv; subst hv; exact ⟨.int _ _, rfl, by simp [eqGuard, binOp, Op.intArith, Op.intBits, Op.intCmp]; rfl, .int _ _⟩)
     | (simp only [Option.some.injEq] at hv; subst hv; exact ⟨.bool _, rfl, by simp [eqGuard, binOp, Op.intArith, Op.intBits, Op.intCmp]; rfl, .bool _⟩)
     | (simp only [Option.some.injEq] at hv; subst hv; exact ⟨_, rfl, by simp [eqGuard, binOp, Op.intArith, Op.intBits, Op.intCmp], .int _ _⟩)
     | (simp only [Option.some.injEq] at hv; subst hv; exact ⟨_, rfl, by simp [eqGuard, binOp, Op.intArith, Op.intBits, Op.intCmp], .bool _⟩)
     | (split at hv
        ·cases hv
        ·rename_i hn
         simp only [Option.some.injEq] at hv; subst hv
         exact ⟨_, rfl, by simp [eqGuard, binOp, Op.intDiv, hn], .int _ _⟩)
   ·cases hv)
 ·rename_i m n h1 h2
  rw [h1] at hx; rw [h2] at hy
  rw [hx.str_inv, hy.str_inv]
  unfold binS at hv
  split at hv
  ·split at hv
   ·rename_i hlen
    simp only [Option.some.injEq] at hv; subst hv
    refine ⟨.string ⟨(m ++ n).toArray⟩, rfl, ?_, .str _⟩
    have e : ((⟨m.toArray⟩ : ByteArray) ++ ⟨n.toArray⟩) = ⟨(m ++ n).toArray⟩ := by
     apply ByteArray.ext; simp [ByteArray.data_append]
    have h2 : ¬ (((⟨m.toArray⟩ : ByteArray).size + (⟨n.toArray⟩ : ByteArray).size : Nat) : Int) > IntKind.i64.max := by
     simp only [ByteArray.size, List.size_toArray, IntKind.max_i64]; omega
    simp only [eqGuard, binOp, Op.stringOp]
    simp [e]
    simp only [ByteArray.size, List.size_toArray] at h2 ⊢
    simpa using h2
   ·cases hv
  ·simp only [Option.some.injEq] at hv; subst hv
   exact ⟨_, rfl, by simp [eqGuard, binOp, Op.stringOp, toArray_beq], .bool _⟩
  ·simp only [Option.some.injEq] at hv; subst hv
   exact ⟨_, rfl, by simp [eqGuard, binOp, Op.stringOp, toArray_beq], .bool _⟩
  ·cases hv
 ·cases hv
end
open Go.RowKit
section
variable {P : Program} {c : Ctx} {F : Nat → Prop} {l : Locs} {w : World} {s : St} {a : Act}
theorem eqb_sound {forb : List Nat} {nw : Option Nat} {neg : Bool} {t : TypeId} {x y : Operand} {pv : PV} {ob' : List AObj} (hu : P.underlying t = some .bool) (hs : SlotsOk w F l s a) (he : ev forb nw s (.eqb neg (opx x) (opx y)) = some (pv, ob')) :
  ∃ v, ob' = s.ob ∧ (do eqGuard (if neg then .neq else .eql) t x y (a.eval x) (a.eval y); binOp (if neg then .neq else .eql) t (a.eval x) (a.eval y)).run P w = .ok v w ∧ R1 w F l pv v := by
 have hx := opx_sound hs x
 have hy := opx_sound hs y
 simp only [ev] at he
 split at he
 ·rename_i m n h1 h2
  simp only [Option.some.injEq, Prod.mk.injEq] at he
  obtain ⟨rfl, rfl⟩ := he
  rw [h1] at hx; rw [h2] at hy
  rw [hx.bool_inv, hy.bool_inv]
  cases neg
  ·exact ⟨.bool (m == n), rfl, by simp [eqGuard, run_eql_bool w t m n hu], .bool _⟩
  ·exact ⟨.bool (!(m == n)), rfl, by simp [eqGuard, run_neq_bool w t m n hu], .bool _⟩
 ·cases he
theorem nslice (w : World) (t e : TypeId) (ad : Option Addr) (n c n' c' : Nat) (h : P.underlying t = some (.slice e)) :
  (binOp .neq t (.slice ad n c) (.slice none n' c')).run P w = .ok (.bool (!ad.isNone)) w := by
 have := Lib.run_eql_slice_nil (P := P) w t e ad n c n' c' h
 simp only [binOp, Sem.run_bind, Result.andThen] at this ⊢
 cases hr : (Op.equal t (.slice ad n c) (.slice none n' c')).run P w with
 | ok b w' => simp [hr] at this ⊢; simp [this]
 | halt x w' => simp [hr] at this
theorem nilsl_sound {forb : List Nat} {nw : Option Nat} {neg : Bool} {t e : TypeId} {x : Operand} {pv : PV} {ob' : List AObj} (hu : P.underlying t = some (.slice e)) (hs : SlotsOk w F l s a) (he : ev forb nw s (.nilsl neg (opx x)) = some (pv, ob')) :
  ∃ v, ob' = s.ob ∧ (do eqGuard (if neg then .neq else .eql) t x (.const (.slice none 0 0)) (a.eval x) (.slice none 0 0); binOp (if neg then .neq else .eql) t (a.eval x) (.slice none 0 0)).run P w = .ok v w ∧ R1 w F l pv v := by
 have hx := opx_sound hs x
 simp only [ev] at he
 split at he
 ·rename_i h1
  simp only [Option.some.injEq, Prod.mk.injEq] at he
  obtain ⟨rfl, rfl⟩ := he
  rw [h1] at hx
  generalize a.eval x = u at hx
  cases hx
  refine ⟨.bool (!neg), rfl, ?_, .bool _⟩
  cases neg
  ·have := Lib.run_eql_slice_nil (P := P) w t e none 0 0 0 0 hu
   simpa [eqGuard] using this
  ·have := nslice (P := P) w t e none 0 0 0 0 hu
   simpa [eqGuard] using this
 ·rename_i r rs h1
  simp only [Option.some.injEq, Prod.mk.injEq] at he
  obtain ⟨rfl, rfl⟩ := he
  rw [h1] at hx
  generalize a.eval x = u at hx
  cases hx
  rename_i b off cap cvv esz _ _ _ _ _ _ _
  refine ⟨.bool neg, rfl, ?_, .bool _⟩
  cases neg
  ·have := Lib.run_eql_slice_nil (P := P) w t e (some ⟨b, off, none⟩) (r :: rs).length cap 0 0 hu
   simpa [eqGuard] using this
  ·have := nslice (P := P) w t e (some ⟨b, off, none⟩) (r :: rs).length cap 0 0 hu
   simpa [eqGuard] using this
 ·cases he
theorem eq_run {t : TypeId} {d : TypeDesc} (hu : P.underlying t = some d) (v z : Value) (r : Result Bool) (h : ((do match d, v, z with
  | .pointer _, .pointer none, .pointer b => pure b.isNone
  | .pointer _, .pointer _, .pointer none => pure false
  | .interface _, .nilIface, .nilIface => pure true
  | .interface _, .iface _ _, .nilIface => pure false
  | _, _, _ => stuck "" : Sem Bool)).run P w = r) (hk : (∃ e p, d = .pointer e ∧ v = .pointer p ∧ z = .pointer none) ∨ (∃ ms, d = .interface ms ∧ (v = .nilIface ∨ ∃ u x, v = .iface u x) ∧ z = .nilIface)) :
  (Op.equal t v z).run P w = r := by
 show (Op.equalIn (9999 + 1) t v z).run P w = r
 unfold Op.equalIn
 rcases hk with ⟨e, p, rfl, rfl, rfl⟩ | ⟨ms, rfl, rfl | ⟨u, x, rfl⟩, rfl⟩
 ·cases p <;> simp only [Sem.run_bind, run_underlying hu, Result.andThen_ok] <;> exact h
 ·simp only [Sem.run_bind, run_underlying hu, Result.andThen_ok]; exact h
 ·simp only [Sem.run_bind, run_underlying hu, Result.andThen_ok]; exact h
theorem bin_eq {t : TypeId} {v z : Value} {b : Bool} (neg : Bool) (he : (Op.equal t v z).run P w = .ok b w) (hv : (∃ p, v = .pointer p) ∨ v = .nilIface ∨ (∃ u x, v = .iface u x)) (hz : z = .pointer none ∨ z = .nilIface) :
  (binOp (if neg then .neq else .eql) t v z).run P w = .ok (.bool (if neg then !b else b)) w := by
 rcases hv with ⟨p, rfl⟩ | rfl | ⟨u, x, rfl⟩ <;> rcases hz with rfl | rfl <;> cases neg <;> simp only [binOp, Sem.run_bind, he, Result.andThen_ok, Sem.run_pure, if_true, if_false, Bool.false_eq_true]
theorem isn_run {k : NK} {t : TypeId} {x : Operand} {v z : Value} {p : PV} {b : Bool} (neg : Bool) (hv : R1 w F l p v) (hb : isNil? k p = some b)
  (hk : (∃ e, k = .p ∧ P.underlying t = some (.pointer e) ∧ z = .pointer none) ∨ (∃ ms, k = .i ∧ P.underlying t = some (.interface ms) ∧ z = .nilIface) ∨ (∃ a e, k = .m ∧ P.underlying t = some (.map a e) ∧ z = .map none)) :
  (do eqGuard (if neg then .neq else .eql) t x (.const z) v z; binOp (if neg then .neq else .eql) t v z).run P w = .ok (.bool (if neg then !b else b)) w := by
 have hg : (eqGuard (if neg then .neq else .eql) t x (.const z) v z).run P w = .ok () w := by
  rcases hk with ⟨e, rfl, hu, rfl⟩ | ⟨ms, rfl, hu, rfl⟩ | ⟨a, e, rfl, hu, rfl⟩
  ·cases v <;> cases neg <;> rfl
  ·cases x <;> cases v <;> cases neg <;> rfl
  ·cases v <;> cases neg <;> rfl
 rw [Sem.run_bind, hg, Result.andThen_ok]
 ·rcases hk with ⟨e, rfl, hu, rfl⟩ | ⟨ms, rfl, hu, rfl⟩ | ⟨a, e, rfl, hu, rfl⟩
  ·have : ∃ q, v = .pointer q ∧ q.isNone = b := by
    cases p <;> simp [isNil?] at hb <;> subst hb
    ·cases hv; exact ⟨_, rfl, rfl⟩
    ·cases hv with
     | lref _ _ _ h _ => obtain ⟨a, rfl⟩ := h; exact ⟨_, rfl, rfl⟩
    ·cases hv; exact ⟨_, rfl, rfl⟩
    ·cases hv; exact ⟨_, rfl, rfl⟩
   obtain ⟨q, rfl, rfl⟩ := this
   refine bin_eq neg (eq_run hu _ _ _ ?_ (.inl ⟨e, q, rfl, rfl, rfl⟩)) (.inl ⟨_, rfl⟩) (.inl rfl)
   cases q <;> rfl
  ·have : (v = .nilIface ∧ b = true) ∨ ((∃ u x, v = .iface u x) ∧ b = false) := by
    cases p <;> simp [isNil?] at hb <;> subst hb
    ·cases hv; exact .inr ⟨⟨_, _, rfl⟩, rfl⟩
    ·cases hv; exact .inl ⟨rfl, rfl⟩
   rcases this with ⟨rfl, rfl⟩ | ⟨⟨u, y, rfl⟩, rfl⟩
   ·exact bin_eq neg (eq_run hu _ _ _ rfl (.inr ⟨ms, rfl, .inl rfl, rfl⟩)) (.inr (.inl rfl)) (.inr rfl)
   ·exact bin_eq neg (eq_run hu _ _ _ rfl (.inr ⟨ms, rfl, .inr ⟨_, _, rfl⟩, rfl⟩)) (.inr (.inr ⟨_, _, rfl⟩)) (.inr rfl)
  ·have : ∃ q, v = .map q ∧ q.isNone = b := by
    cases p <;> simp [isNil?] at hb <;> subst hb
    ·cases hv; exact ⟨_, rfl, rfl⟩
    ·cases hv; exact ⟨_, rfl, rfl⟩
   obtain ⟨q, rfl, rfl⟩ := this
   cases neg
   ·exact run_eql_map_nil w t a e q hu
   ·have := run_eql_map_nil (P := P) w t a e q hu
    simp only [binOp, Sem.run_bind, Result.andThen] at this ⊢
    cases hr : (Op.equal t (.map q) (.map none)).run P w with
    | ok b w' => simp [hr] at this ⊢; simp [this]
    | halt x w' => simp [hr] at this
theorem un_sound {forb : List Nat} {nw : Option Nat} {op : UnOp} {x : Operand} {pv : PV} {ob' : List AObj} (hs : SlotsOk w F l s a) (he : ev forb nw s (.un op (opx x)) = some (pv, ob')) :
  ∃ v, ob' = s.ob ∧ (Op.unary op (a.eval x)).run P w = .ok v w ∧ R1 w F l pv v := by
 have hx := opx_sound hs x
 simp only [ev, Option.map_eq_some_iff, Prod.mk.injEq] at he
 obtain ⟨v, hv, rfl, rfl⟩ := he
 unfold unV at hv
 split at hv
 ·rename_i b h1
  simp only [Option.some.injEq] at hv; subst hv
  rw [h1] at hx
  exact ⟨.bool (!b), rfl, by simp [hx.bool_inv, Op.unary], .bool _⟩
 ·rename_i k n h1
  simp only [Option.some.injEq] at hv; subst hv
  rw [h1] at hx
  exact ⟨.int k (k.wrap (0 - n)), rfl, by simp [hx.int_inv, Op.unary, Op.intArith], .int _ _⟩
 ·rename_i k n h1
  simp only [Option.some.injEq] at hv; subst hv
  rw [h1] at hx
  exact ⟨.int k (k.wrap (BitVec.ofInt k.bits (if k.signed then -1 else k.max) ^^^ BitVec.ofInt k.bits n).toNat), rfl, by simp [hx.int_inv, Op.unary, Op.intBits], .int _ _⟩
 ·cases hv
def cConv (P : Program) (own : Bool) (src dst : TypeId) (x : Operand) : Option AO :=
 match P.underlying src, P.underlying dst with
 | some (.int _), some (.int k) => some (.conv k (opx x))
 | some (.slice e), some .string => match P.underlying e with | some (.int .u8) => some (.b2s (opx x)) | _ => none
 | some .string, some (.slice e) => match P.underlying e with | some (.int .u8) => some (.s2b own (opx x)) | _ => none
 | _, _ => none
theorem conv_sound {forb : List Nat} {nw : Option Nat} {src dst : TypeId} {k q : IntKind} {x : Operand} {pv : PV} {ob' : List AObj} (h1 : P.underlying src = some (.int q)) (h2 : P.underlying dst = some (.int k)) (hs : SlotsOk w F l s a) (he : ev forb nw s (.conv k (opx x)) = some (pv, ob')) :
  ∃ v, ob' = s.ob ∧ (convert src dst (a.eval x)).run P w = .ok v w ∧ R1 w F l pv v := by
 have hx := opx_sound hs x
 simp only [ev] at he
 split at he
 ·rename_i k' n h3
  simp only [Option.some.injEq, Prod.mk.injEq] at he
  obtain ⟨rfl, rfl⟩ := he
  rw [h3] at hx
  exact ⟨.int k (k.wrap n), rfl, by simp [hx.int_inv, convert, run_underlying h1, run_underlying h2, Conv.intToInt], .int _ _⟩
 ·cases he
theorem bytesOf_spec : ∀ (rows : List (List PV)) (b : List UInt8) (cv : List Value), bytesOf? rows = some b → RL w F l rows.flatten cv → ∃ ns : List Int, cv = ns.map (Value.int .u8) ∧ b = ns.map (fun n => UInt8.ofNat n.toNat) ∧ rows.length = ns.length
 | [], b, cv, h, hr => by
  simp only [bytesOf?, Option.some.injEq] at h; subst h
  have := hr.nil_inv; subst this
  exact ⟨[], rfl, rfl, rfl⟩
 | r :: rs, b, cv, h, hr => by
  simp only [bytesOf?] at h
  split at h
  ·rename_i b0 bs hb hbs
   simp only [Option.some.injEq] at h; subst h
   unfold byteOf? at hb
   split at hb
   ·rename_i n
    simp only [Option.some.injEq] at hb; subst hb
    rw [List.flatten_cons, List.singleton_append] at hr
    obtain ⟨v, vs, rfl, hv, hvs⟩ := hr.cons_inv
    obtain ⟨ns, e1, e2, e3⟩ := bytesOf_spec rs bs vs hbs hvs
    exact ⟨n :: ns, by rw [hv.int_inv, e1]; rfl, by rw [e2]; rfl, by simp [e3]⟩
   ·cases hb
  ·cases h
theorem foldl_push : ∀ (ns : List Int) (r : ByteArray), ns.foldl (fun r n => r.push (UInt8.ofNat n.toNat)) r = ⟨r.data ++ (ns.map fun n => UInt8.ofNat n.toNat).toArray⟩
 | [], r => by simp
 | n :: ns, r => by
  simp only [List.foldl_cons, List.map_cons]
  rw [foldl_push ns]
  simp [ByteArray.push]
theorem b2s_sound {forb : List Nat} {nw : Option Nat} {src dst e : TypeId} {x : Operand} {pv : PV} {ob' : List AObj} (h1 : P.underlying src = some (.slice e)) (h2 : P.underlying dst = some .string) (h3 : P.underlying e = some (.int .u8)) (R : RepW c F l s.ob w) (hs : SlotsOk w F l s a) (he : ev forb nw s (.b2s (opx x)) = some (pv, ob')) :
  ∃ v, ob' = s.ob ∧ (convert src dst (a.eval x)).run P w = .ok v w ∧ R1 w F l pv v := by
 have hx := opx_sound hs x
 simp only [ev, Option.map_eq_some_iff, Prod.mk.injEq, Option.bind_eq_some_iff] at he
 obtain ⟨b, ⟨rows, hrows, hb⟩, rfl, rfl⟩ := he
 obtain ⟨ad, cap, hv, hcap, hcells⟩ := rowsOf_sound R hx hrows
 have hstep : (convert src dst (a.eval x)).run P w = (Conv.bytesToString (a.eval x)).run P w := by
  rw [hv]; simp [convert, run_underlying h1, run_underlying h2, run_underlying h3]
 refine ⟨.string ⟨b.toArray⟩, rfl, ?_, .str _⟩
 rw [hstep, hv]
 rcases hcells with rfl | ⟨blk, off, cv, esz, rfl, hr, hrl, hcell, hone⟩
 ·simp only [bytesOf?, Option.some.injEq] at hb; subst hb
  cases ad with
  | none => simp [Conv.bytesToString]; rfl
  | some ad =>
   exact run_bytesToString (P := P) w ad 0 cap [] (by simp [loadCells, loadCellsFrom])
 ·obtain ⟨ns, e1, e2, e3⟩ := bytesOf_spec rows b cv hb hrl
  have hl : cv.length = rows.length := by rw [e1, e3]; simp
  have := run_bytesToString (P := P) w ⟨blk, off, none⟩ rows.length cap ns (by rw [run_loadCells_ptr hl hcell, e1])
  rw [this, foldl_push, e2]
  simp
def scalD : TypeDesc → Option CK
 | .int _ => some .i
 | .bool => some .b
 | .string => some .s
 | _ => none
def eqFs (P : Program) (g : TypeId → Option (List CK)) : List CK → List Field → Option (List CK)
 | ks, [] => some ks
 | ks, f :: fs =>
  if f.offset = ks.length ∧ f.name ≠ "_" then
   match g f.type with
   | some ms => if (P.info? f.type).map (·.size) = some ms.length then eqFs P g (ks ++ ms) fs else none
   | none => none
  else none
def eqN (P : Program) : Nat → TypeId → Option (List CK)
 | 0, _ => none
 | k + 1, t =>
  match P.underlying t with
  | some (.struct fs) => if P.stoodInHeld t then none else eqFs P (eqN P k) [] fs.toList
  | some d => (scalD d).map fun k => [k]
  | none => none
def cEqs (P : Program) (neg : Bool) (t : TypeId) (x y : Operand) : Option AO :=
 match P.underlying t with
 | some (.struct _) => if P.eqGuardType P.depth t then none else (eqN P 8 t).map fun ks => .eqs neg ks (opx x) (opx y)
 | _ => none
theorem scal_eq {d : Nat} {t : TypeId} {dd : TypeDesc} {ck : CK} {p q : PV} {x y : Value} {b : Bool} (hu : P.underlying t = some dd) (hd : scalD dd = some ck) (hp : R1 w F l p x) (hq : R1 w F l q y) (he : eqC ck p q = some b) :
  (Op.equalIn (d + 1) t x y).run P w = .ok b w := by
 unfold eqC at he
 split at he
 ·split at he
  ·rename_i k m k' n hk
   simp only [Option.some.injEq] at he; subst he; subst hk
   rw [hp.int_inv, hq.int_inv]
   cases dd <;> simp [scalD] at hd
   simp [Op.equalIn, run_underlying hu]
  ·cases he
 ·simp only [Option.some.injEq] at he; subst he
  rw [hp.bool_inv, hq.bool_inv]
  cases dd <;> simp [scalD] at hd
  simp [Op.equalIn, run_underlying hu]
 ·rename_i m n
  simp only [Option.some.injEq] at he; subst he
  rw [hp.str_inv, hq.str_inv]
  cases dd <;> simp [scalD] at hd
  simp [Op.equalIn, run_underlying hu, beq_toListBytes, ba_toList]
 ·cases he
theorem eqCs_split : ∀ (ks ms : List CK) (ps qs : List PV) (b : Bool), eqCs (ks ++ ms) ps qs = some b →
  ∃ b1 b2, eqCs ks (ps.take ks.length) (qs.take ks.length) = some b1 ∧ eqCs ms (ps.drop ks.length) (qs.drop ks.length) = some b2 ∧ b = (b1 && b2)
 | [], ms, ps, qs, b, h => ⟨true, b, by simp [eqCs], by simpa using h, by simp⟩
 | k :: ks, ms, [], qs, b, h => by cases qs <;> simp [eqCs] at h
 | k :: ks, ms, p :: ps, [], b, h => by simp [eqCs] at h
 | k :: ks, ms, p :: ps, q :: qs, b, h => by
  simp only [List.cons_append, eqCs] at h
  split at h
  ·rename_i x y hx hy
   simp only [Option.some.injEq] at h; subst h
   obtain ⟨b1, b2, h1, h2, rfl⟩ := eqCs_split ks ms ps qs y hy
   exact ⟨x && b1, b2, by simp [eqCs, hx, h1], by simpa using h2, by simp [Bool.and_assoc]⟩
  ·cases h
theorem eqCs_len : ∀ (ks : List CK) (ps qs : List PV) (b : Bool), eqCs ks ps qs = some b → ps.length = ks.length ∧ qs.length = ks.length
 | [], [], [], _, _ => ⟨rfl, rfl⟩
 | [], _ :: _, _, _, h => by simp [eqCs] at h
 | [], [], _ :: _, _, h => by simp [eqCs] at h
 | _ :: _, [], qs, _, h => by cases qs <;> simp [eqCs] at h
 | _ :: _, _ :: _, [], _, h => by simp [eqCs] at h
 | k :: ks, p :: ps, q :: qs, b, h => by
  simp only [eqCs] at h
  split at h
  ·rename_i x y hx hy
   have := eqCs_len ks ps qs y hy
   simp [this.1, this.2]
  ·cases h
theorem eqFs_ext (g : TypeId → Option (List CK)) : ∀ (fs : List Field) (ks : List CK) (ns : List CK), eqFs P g ks fs = some ns → ∃ ms, ns = ks ++ ms
 | [], ks, ns, h => by simp only [eqFs, Option.some.injEq] at h; exact ⟨[], by simp [h]⟩
 | f :: fs, ks, ns, h => by
  simp only [eqFs] at h
  split at h
  ·split at h
   ·split at h
    ·obtain ⟨ms, rfl⟩ := eqFs_ext g fs _ _ h
     exact ⟨_, List.append_assoc _ _ _⟩
    ·cases h
   ·cases h
  ·cases h
def valOf (P : Program) (t : TypeId) (xs : List Value) : Value :=
 match P.underlying t with
 | some (.struct _) => .agg xs.toArray
 | _ => xs.headD undef
theorem part_run {t : TypeId} {g : TypeId → Option (List CK)} {k : Nat} {ms : List CK} (hg : eqN P k t = some ms) (hsz : (P.info? t).map (·.size) = some ms.length) (xs : List Value) (off : Nat) (hle : off + ms.length ≤ xs.length) :
  (part t xs.toArray off).run P w = .ok (valOf P t ((xs.drop off).take ms.length)) w := by
 cases hi : P.info? t with
 | none => simp [hi] at hsz
 | some i =>
  simp only [hi, Option.map_some, Option.some.injEq] at hsz
  cases k with
  | zero => simp [eqN] at hg
  | succ k =>
   simp only [eqN] at hg
   split at hg
   ·rename_i fs hu
    simp only [part, Sem.run_bind, isAgg_run hu, isAggD, Result.andThen_ok, sizeOf_run hi, valOf, hu, hsz, if_true, Sem.run_pure]
    congr 2
    apply Array.ext'
    simp
   ·rename_i d hd hu
    cases hsd : scalD d with
    | none => simp [hsd] at hg
    | some ck =>
     simp only [hsd, Option.map_some, Option.some.injEq] at hg
     subst hg
     have hagg : isAggD d = false := by cases d <;> simp_all [isAggD, scalD]
     simp only [List.length_singleton] at hle
     have hlt : off < xs.length := by omega
     have hv : valOf P t ((xs.drop off).take [ck].length) = xs[off] := by
      unfold valOf
      rw [hu]
      cases d <;> simp [scalD] at hsd <;> simp [List.take_one, List.head?_drop, hlt]
     rw [hv]
     simp [part, isAgg_run hu, hagg, hlt]
   ·cases hg
theorem eqN_sound : ∀ (k : Nat) (t : TypeId) (ks : List CK), eqN P k t = some ks → ∀ (d : Nat), k ≤ d + 1 → ∀ (ps qs : List PV) (xs ys : List Value) (b : Bool), RL w F l ps xs → RL w F l qs ys → eqCs ks ps qs = some b →
  (Op.equalIn (d + 1) t (valOf P t xs) (valOf P t ys)).run P w = .ok b w
 | 0, t, ks, h, _, _, _, _, _, _, _, _, _, _ => by simp [eqN] at h
 | k + 1, t, ks, h, d, hd, ps, qs, xs, ys, b, hp, hq, he => by
  simp only [eqN] at h
  split at h
  ·rename_i fs hu
   split at h
   ·cases h
   ·rename_i hst
    have hfo : P.fieldsOf t = fs := by simp [Program.fieldsOf, hu]
    have hv : ∀ zs, valOf P t zs = .agg zs.toArray := fun zs => by simp [valOf, hu]
    rw [hv, hv, run_equalIn_struct w d t _ _ (by rw [hfo]; exact hu) (by simpa using hst), hfo]
    have key : ∀ (fl : List Field) (ks0 ms : List CK), eqFs P (eqN P k) ks0 fl = some (ks0 ++ ms) → ∀ b, eqCs ms (ps.drop ks0.length) (qs.drop ks0.length) = some b → ks0.length + ms.length ≤ xs.length → ks0.length + ms.length ≤ ys.length →
      (Op.eqFields d xs.toArray ys.toArray fl).run P w = .ok b w := by
     intro fl
     induction fl with
     | nil =>
      intro ks0 ms h1 b h2 _ _
      simp only [eqFs, Option.some.injEq] at h1
      have : ms = [] := by
       have := congrArg List.length h1; simp at this; exact this
      subst this
      have hl := eqCs_len _ _ _ _ h2
      have e1 : ps.drop ks0.length = [] := List.eq_nil_of_length_eq_zero hl.1
      have e2 : qs.drop ks0.length = [] := List.eq_nil_of_length_eq_zero hl.2
      rw [e1, e2] at h2
      simp only [eqCs, Option.some.injEq] at h2
      subst h2
      simp [Op.eqFields]
     | cons f fl ih =>
      intro ks0 ms h1 b h2 hlx hly
      simp only [eqFs] at h1
      split at h1
      ·rename_i hoff
       split at h1
       ·rename_i m1 hg
        split at h1
        ·rename_i hsz
         obtain ⟨m2, hm2⟩ := eqFs_ext (eqN P k) fl _ _ h1
         have hms : ms = m1 ++ m2 := by
          rw [List.append_assoc] at hm2
          exact List.append_cancel_left hm2
         subst hms
         obtain ⟨b1, b2, e1, e2, rfl⟩ := eqCs_split m1 m2 _ _ b h2
         rw [List.length_append] at hlx hly
         have hd1 : 1 ≤ k := by cases k with | zero => simp [eqN] at hg | succ k => omega
         obtain ⟨d', rfl⟩ : ∃ d', d = d' + 1 := ⟨d - 1, by omega⟩
         have hfield := eqN_sound k f.type m1 hg d' (by omega) _ _ ((xs.drop ks0.length).take m1.length) ((ys.drop ks0.length).take m1.length) b1 ((hp.drop _).take _) ((hq.drop _).take _) e1
         have hpx := part_run (w := w) (g := eqN P k) hg hsz xs ks0.length (by omega)
         have hpy := part_run (w := w) (g := eqN P k) hg hsz ys ks0.length (by omega)
         have hrest := ih (ks0 ++ m1) m2 (by rw [List.append_assoc]; exact h1) b2 (by rw [List.length_append, ← List.drop_drop, ← List.drop_drop]; exact e2) (by rw [List.length_append]; omega) (by rw [List.length_append]; omega)
         simp only [Op.eqFields, hoff.2, ne_eq, not_false_eq_true, if_true, Sem.run_bind, hoff.1, hpx, hpy, Result.andThen_ok, hfield]
         cases b1
         ·simp
         ·simp [hrest]
        ·cases h1
       ·cases h1
      ·cases h1
    have hlen := eqCs_len _ _ _ _ he
    exact key fs.toList [] ks (by simpa using h) b (by simpa using he) (by simp; rw [← hp.1]; omega) (by simp; rw [← hq.1]; omega)
  ·rename_i dd hdd hu
   cases hsd : scalD dd with
   | none => simp [hsd] at h
   | some ck =>
    simp only [hsd, Option.map_some, Option.some.injEq] at h
    subst h
    have hlen := eqCs_len _ _ _ _ he
    match ps, qs, hlen with
    | [p], [q], _ =>
     obtain ⟨x, xs', rfl, hx, hxs⟩ := hp.cons_inv
     obtain ⟨y, ys', rfl, hy, hys⟩ := hq.cons_inv
     simp only [eqCs] at he
     split at he
     ·rename_i b1 b2 h1 h2
      simp only [Option.some.injEq] at h2 he
      subst h2; subst he
      have hv : ∀ z zs, valOf P t (z :: zs) = z := fun z zs => by
       unfold valOf; rw [hu]; cases dd <;> simp [scalD] at hsd <;> rfl
      rw [hv, hv, Bool.and_true]
      exact scal_eq hu hsd hx hy h1
     ·cases he
  ·cases h
theorem eqs_sound {forb : List Nat} {nw : Option Nat} {neg : Bool} {t : TypeId} {x y : Operand} {ao : AO} {pv : PV} {ob' : List AObj} (hc : cEqs P neg t x y = some ao) (hs : SlotsOk w F l s a) (he : ev forb nw s ao = some (pv, ob')) :
  ∃ v, ob' = s.ob ∧ (do eqGuard (if neg then .neq else .eql) t x y (a.eval x) (a.eval y); binOp (if neg then .neq else .eql) t (a.eval x) (a.eval y)).run P w = .ok v w ∧ R1 w F l pv v := by
 have hx := opx_sound hs x
 have hy := opx_sound hs y
 unfold cEqs at hc
 split at hc
 ·rename_i fs hu
  split at hc
  ·cases hc
  ·rename_i hg
   cases hn : eqN P 8 t with
   | none => simp [hn] at hc
   | some ks =>
    simp only [hn, Option.map_some, Option.some.injEq] at hc
    subst hc
    simp only [ev] at he
    split at he
    ·rename_i ps qs h1 h2
     simp only [Option.map_eq_some_iff, Prod.mk.injEq] at he
     obtain ⟨b, hb, rfl, rfl⟩ := he
     rw [h1] at hx; rw [h2] at hy
     obtain ⟨xs, hxv, hxr⟩ := hx.agg_inv
     obtain ⟨ys, hyv, hyr⟩ := hy.agg_inv
     have key := eqN_sound (w := w) 8 t ks hn 9999 (by omega) ps qs xs ys b hxr hyr hb
     have hv : ∀ zs, valOf P t zs = .agg zs.toArray := fun zs => by simp [valOf, hu]
     rw [hv, hv] at key
     have hgd : ∀ op, (eqGuard op t x y (.agg xs.toArray) (.agg ys.toArray)).run P w = .ok () w := fun op => run_eqGuard_agg w op t x y _ _ (by simpa using hg)
     rw [hxv, hyv]
     cases neg
     ·exact ⟨.bool b, rfl, by simp [hgd, run_eql_struct, key], .bool _⟩
     ·exact ⟨.bool (!b), rfl, by simp [hgd, run_neq_struct, key], .bool _⟩
    ·cases he
 ·cases hc
end
end Go.Proofs.YtdgpiobmncohjaaGreatDoor.Aw
