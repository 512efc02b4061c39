/-
 That the abstract operations tell the truth: fields, indexes, slicings, tuples, function values, lengths, least and greatest, struct values.; That the abstract operations tell the truth: those that make memory: variables, boxes, slice literals, bytes of a string, make, append.
-/
import Derived.Test.YtdgpiobmncohjaaGreatDoorKac
import Derived.Lib.Strings
set_option linter.all false
namespace Go.Proofs.YtdgpiobmncohjaaGreatDoor.Aw
open Go.RowKit
section
variable {P : Program} {c : Ctx} {F : Nat → Prop} {l : Locs} {w : World} {s : St} {a : Act}
def nOf (P : Program) (t : TypeId) : Option (Option Nat) :=
 match P.underlying t with
 | some d => if isAggD d then (P.info? t).map fun i => some i.size else some none
 | none => none
def cFld (P : Program) (t : TypeId) (x : Operand) (f : Nat) : Option AO :=
 match P.underlying t with
 | some (.struct fs) => match fs[f]? with
  | some fd => (nOf P fd.type).map fun n => .fld n fd.offset (opx x)
  | none => none
 | _ => none
theorem part_sound {t : TypeId} {n : Option Nat} {cs : List PV} {xs : List Value} {off : Nat} {pv : PV} (hn : nOf P t = some n) (h : RL w F l cs xs)
  (he : partPV n off cs = some pv) :
  ∃ v, (part t xs.toArray off).run P w = .ok v w ∧ R1 w F l pv v := by
 unfold nOf at hn
 split at hn
 ·rename_i d hu
  split at hn
  ·rename_i hagg
   cases hi : P.info? t with
   | none => simp [hi] at hn
   | some i =>
    simp only [hi, Option.map_some, Option.some.injEq] at hn
    subst hn
    simp only [partPV] at he
    split at he
    ·rename_i hle
     simp only [Option.some.injEq] at he
     subst he
     refine ⟨.agg ((xs.drop off).take i.size).toArray, ?_, R1.mkAgg ((h.drop _).take _)⟩
     simp only [part, Sem.run_bind, isAgg_run hu, Result.andThen_ok, hagg, if_true, sizeOf_run hi, Sem.run_pure]
     congr 2
     apply Array.ext'
     simp
    ·cases he
  ·rename_i hagg
   simp only [Option.some.injEq] at hn
   subst hn
   simp only [partPV] at he
   obtain ⟨v, hv, hr⟩ := h.get he
   exact ⟨v, by simp [part, isAgg_run hu, hagg, hv], hr⟩
 ·cases hn
theorem fld_sound {forb : List Nat} {nw : Option Nat} {t : TypeId} {x : Operand} {f : Nat} {ao : AO} {pv : PV} {ob' : List AObj} (hc : cFld P t x f = some ao) (hs : SlotsOk w F l s a) (he : ev forb nw s ao = some (pv, ob')) :
  ∃ v, ob' = s.ob ∧ (Instr.field t (a.eval x) f).run P w = .ok v w ∧ R1 w F l pv v := by
 have hx := opx_sound hs x
 unfold cFld at hc
 split at hc
 ·rename_i fs hu
  split at hc
  ·rename_i fd hfd
   cases hn : nOf P fd.type with
   | none => simp [hn] at hc
   | some n =>
    simp only [hn, Option.map_some, Option.some.injEq] at hc
    subst hc
    simp only [ev] at he
    split at he
    ·rename_i cs hv
     rw [hv] at hx
     obtain ⟨xs, hxv, hr⟩ := hx.agg_inv
     simp only [Option.map_eq_some_iff, Prod.mk.injEq] at he
     obtain ⟨p, hp, rfl, rfl⟩ := he
     obtain ⟨v, h1, h2⟩ := part_sound (w := w) hn hr hp
     refine ⟨v, rfl, ?_, h2⟩
     rw [hxv]
     simp [Instr.field, run_underlying hu, hfd, asAgg, h1]
    ·cases he
  ·cases hc
 ·cases hc
def cIdx (P : Program) (t : TypeId) (x i : Operand) : Option AO :=
 match P.underlying t with
 | some .string => some (.idxs (opx x) (opx i))
 | some (.array n e) => match nOf P e, P.info? e with
  | some m, some ie => some (.idxa m ie.size n (opx x) (opx i))
  | _, _ => none
 | _ => none
theorem idx_sound {forb : List Nat} {nw : Option Nat} {t : TypeId} {x i : Operand} {ao : AO} {pv : PV} {ob' : List AObj} (hc : cIdx P t x i = some ao) (hs : SlotsOk w F l s a) (he : ev forb nw s ao = some (pv, ob')) :
  ∃ v, ob' = s.ob ∧ (Instr.index t (a.eval x) (a.eval i)).run P w = .ok v w ∧ R1 w F l pv v := by
 have hx := opx_sound hs x
 have hi := opx_sound hs i
 unfold cIdx at hc
 split at hc
 ·rename_i hu
  simp only [Option.some.injEq] at hc; subst hc
  simp only [ev] at he
  split at he
  ·rename_i m k n h1 h2
   split at he
   ·rename_i hn
    simp only [Option.map_eq_some_iff, Prod.mk.injEq] at he
    obtain ⟨b, hb, rfl, rfl⟩ := he
    rw [h1] at hx; rw [h2] at hi
    refine ⟨.int .u8 b.toNat, rfl, ?_, .int _ _⟩
    rw [hx.str_inv, hi.int_inv]
    have hlt : n.toNat < m.length := (List.getElem?_eq_some_iff.1 hb).1
    have hg : (⟨m.toArray⟩ : ByteArray)[n.toNat]? = some b := by
     have hlt' : n.toNat < (⟨m.toArray⟩ : ByteArray).size := by simpa [ByteArray.size] using hlt
     have e1 : (⟨m.toArray⟩ : ByteArray)[n.toNat]? = some ((⟨m.toArray⟩ : ByteArray)[n.toNat]'hlt') := by simp [getElem?_def, hlt']
     rw [e1]
     have := List.getElem?_eq_getElem hlt
     rw [hb] at this
     simp only [Option.some.injEq] at this
     rw [this]; rfl
    simp [Instr.index, run_underlying hu, asIntOf, hn, hg]
   ·cases he
  ·cases he
 ·rename_i n e hu
  split at hc
  ·rename_i m ie hm hie
   simp only [Option.some.injEq] at hc; subst hc
   simp only [ev] at he
   split at he
   ·rename_i cs k j h1 h2
    split at he
    ·rename_i hj
     rw [h1] at hx; rw [h2] at hi
     obtain ⟨xs, hxv, hr⟩ := hx.agg_inv
     simp only [Option.map_eq_some_iff, Prod.mk.injEq] at he
     obtain ⟨p, hp, rfl, rfl⟩ := he
     obtain ⟨v, h3, h4⟩ := part_sound (w := w) hm hr hp
     refine ⟨v, rfl, ?_, h4⟩
     rw [hxv, hi.int_inv]
     simp [Instr.index, run_underlying hu, asIntOf, hj, sizeOf_run hie, h3]
    ·cases he
   ·cases he
  ·cases hc
 ·cases hc
theorem optI_none {s : St} {n : Option Int} (h : optI s none = some n) : n = none := by simp only [optI, Option.some.injEq] at h; exact h.symm
theorem optI_some {x : Operand} {n : Option Int} (hs : SlotsOk w F l s a) (h : optI s (some (opx x)) = some n) : ∃ k m, n = some m ∧ a.eval x = .int k m := by
 have hx := opx_sound hs x
 simp only [optI, Option.map_eq_some_iff] at h
 obtain ⟨m, hm, rfl⟩ := h
 unfold asI at hm
 split at hm
 ·rename_i k m' hv
  simp only [Option.some.injEq] at hm; subst hm
  rw [hv] at hx
  exact ⟨k, m', rfl, hx.int_inv⟩
 ·cases hm
theorem bounds_sound {isSlice : Bool} {len cap : Nat} {lo hi : Option Operand} {p q : Option Int} {i j : Nat} (hs : SlotsOk w F l s a) (hlo : optI s (lo.map opx) = some p) (hhi : optI s (hi.map opx) = some q) (hb : bounds len p q = some (i, j)) (hcap : len ≤ cap) :
  (Instr.sliceBounds isSlice len cap (lo.map a.eval) (hi.map a.eval) none).run P w = .ok (i, j, cap) w ∧ i ≤ j ∧ j ≤ len := by
 unfold bounds at hb
 simp only [] at hb
 split at hb
 ·rename_i hcond
  simp only [Option.some.injEq, Prod.mk.injEq] at hb
  obtain ⟨rfl, rfl⟩ := hb
  refine ⟨?_, by omega, by omega⟩
  cases lo with
  | none =>
   have := optI_none hlo; subst this
   simp only [Option.getD_none] at hcond
   cases hi with
   | none =>
    have := optI_none hhi; subst this
    simp [Instr.sliceBounds]
   | some y =>
    obtain ⟨k, m, rfl, hy⟩ := optI_some hs hhi
    simp only [Option.getD_some] at hcond
    have h1 : 0 ≤ m ∧ m ≤ (cap : Int) := by omega
    simp [Instr.sliceBounds, hy, run_sliceBound w k m cap _ h1.1 h1.2]
  | some x =>
   obtain ⟨k, m, rfl, hx⟩ := optI_some hs hlo
   simp only [Option.getD_some] at hcond
   cases hi with
   | none =>
    have := optI_none hhi; subst this
    simp only [Option.getD_none] at hcond
    have h1 : 0 ≤ m ∧ m ≤ (len : Int) := by omega
    simp [Instr.sliceBounds, hx, run_sliceBound w k m len _ h1.1 h1.2]
   | some y =>
    obtain ⟨k', m', rfl, hy⟩ := optI_some hs hhi
    simp only [Option.getD_some] at hcond
    have h1 : 0 ≤ m' ∧ m' ≤ (cap : Int) := by omega
    have h2 : 0 ≤ m ∧ m ≤ (m'.toNat : Int) := by omega
    simp [Instr.sliceBounds, hx, hy, run_sliceBound w k' m' cap _ h1.1 h1.2, run_sliceBound w k m m'.toNat _ h2.1 h2.2]
 ·cases hb
def cSlice (P : Program) (t : TypeId) (x : Operand) (lo hi : Option Operand) : Option AO :=
 match P.underlying t with
 | some .string => some (.sstr (opx x) (lo.map opx) (hi.map opx))
 | some (.slice e) => (P.info? e).map fun i => .ssl i.size (opx x) (lo.map opx) (hi.map opx)
 | some (.array n e) => (P.info? e).map fun i => .sarr i.size n (opx x) (lo.map opx) (hi.map opx)
 | _ => none
theorem slice_slc {rows : List (List PV)} {b off cap esz i j : Nat} (h : R1 w F l (.slc rows) (.slice (some ⟨b, off, none⟩) rows.length cap)) (hok : rowsOk esz rows = true) (hij : i ≤ j) (hj : j ≤ rows.length) :
  R1 w F l (.slc ((rows.take j).drop i)) (.slice (some (if cap = i then ⟨b, off, none⟩ else ⟨b, off + i * esz, none⟩)) (j - i) (cap - i)) := by
 by_cases he : (rows.take j).drop i = []
 ·have hl : j - i = 0 := by have := congrArg List.length he; simp at this; omega
  rw [he, hl]
  exact .slc0 _ _
 ·have hlen : ((rows.take j).drop i).length = j - i := by simp; omega
  have hij' : i < j := by
   rcases Nat.lt_or_ge i j with h1 | h1
   ·exact h1
   ·exact absurd (List.eq_nil_of_length_eq_zero (by omega)) he
  generalize hv : Value.slice (some ⟨b, off, none⟩) rows.length cap = v at h
  cases h with
  | slc0 a cap => simp at hj; omega
  | @slcN l rows b' off' cap' cvv z hne hcap hF hc hrr hl hh =>
   simp only [Value.slice.injEq, Option.some.injEq, Addr.mk.injEq, true_and, and_true] at hv
   obtain ⟨⟨rfl, rfl⟩, rfl⟩ := hv
   have hok' := rowsOk_iff.1 hok
   have hz : z = esz := by
    cases rows with
    | nil => exact absurd rfl hne
    | cons r rs => rw [← hrr r (by simp), ← hok' r (by simp)]
   subst hz
   obtain ⟨⟨cc, e, fr, h1, h2⟩, h3⟩ := hc
   rw [if_neg (by omega), ← hlen]
   have hsub : ∀ r ∈ (rows.take j).drop i, r.length = z := fun r hr => hrr r (List.mem_of_mem_take (List.mem_of_mem_drop hr))
   have hrt : ∀ r ∈ rows.take j, r.length = z := fun r hr => hrr r (List.mem_of_mem_take hr)
   have hfl : ((rows.take j).drop i).flatten = (rows.flatten.take (j * z)).drop (i * z) := by
    rw [flatten_drop _ _ hrt, flatten_take _ _ hrr]
   have hrl : RL w F (fun _ => none) ((rows.take j).drop i).flatten ((cvv.take (j * z)).drop (i * z)) := by
    rw [hfl]; exact ((show RL w F _ _ _ from ⟨hl, hh⟩).take _).drop _
   refine .slcN he (by omega) hF ⟨⟨cc, e, fr, h1, fun k hk => ?_⟩, fun v hv => h3 v (List.mem_of_mem_take (List.mem_of_mem_drop hv))⟩ hsub hrl.1 hrl.2
   simp only [List.length_drop, List.length_take] at hk
   rw [List.getElem?_drop, List.getElem?_take, if_pos (by omega), ← h2 _ (by omega)]
   congr 1; omega
theorem slice_sound {forb : List Nat} {nw : Option Nat} {t : TypeId} {x : Operand} {lo hi : Option Operand} {ao : AO} {pv : PV} {ob' : List AObj} (hc : cSlice P t x lo hi = some ao) (R : RepW c F l s.ob w) (hs : SlotsOk w F l s a) (he : ev forb nw s ao = some (pv, ob')) :
  ∃ v, ob' = s.ob ∧ (Instr.sliceAt t (a.eval x) (lo.map a.eval) (hi.map a.eval) none).run P w = .ok v w ∧ R1 w F l pv v := by
 have hx := opx_sound hs x
 unfold cSlice at hc
 split at hc
 ·rename_i hu
  simp only [Option.some.injEq] at hc; subst hc
  simp only [ev] at he
  split at he
  ·rename_i m p q h1 h2 h3
   simp only [Option.map_eq_some_iff, Prod.mk.injEq] at he
   obtain ⟨⟨i, j⟩, hb, rfl, rfl⟩ := he
   rw [h1] at hx
   have hsz : (⟨m.toArray⟩ : ByteArray).size = m.length := by simp [ByteArray.size]
   obtain ⟨hrun, hij, hj⟩ := bounds_sound (P := P) (w := w) (isSlice := false) (cap := m.length) hs h2 h3 hb (Nat.le_refl _)
   refine ⟨.string ⟨((m.take j).drop i).toArray⟩, rfl, ?_, .str _⟩
   rw [hx.str_inv]
   simp only [Instr.sliceAt, Sem.run_bind, run_underlying hu, Result.andThen_ok, Instr.slice, hsz]
   simp only [Option.isSome_none, Bool.false_eq_true, if_false, Sem.run_bind, hrun, Result.andThen_ok, Sem.run_pure]
   congr 2
   apply ByteArray.ext
   apply Array.ext'
   simp [Lib.extract_data, List.drop_take]
  ·cases he
 ·rename_i e hu
  cases hie : P.info? e with
  | none => simp [hie] at hc
  | some ie =>
   simp only [hie, Option.map_some, Option.some.injEq] at hc
   subst hc
   simp only [ev] at he
   split at he
   ·rename_i p q h2 h3
    split at he
    ·rename_i rows h1
     split at he
     ·rename_i hok
      simp only [Option.map_eq_some_iff, Prod.mk.injEq] at he
      obtain ⟨⟨i, j⟩, hb, rfl, rfl⟩ := he
      rw [h1] at hx
      have hform : ∃ ad cap, a.eval x = .slice ad rows.length cap ∧ rows.length ≤ cap ∧ (ad = none → rows = []) := by
       generalize a.eval x = u at hx
       cases hx with
       | slc0 ad cap => exact ⟨ad, cap, rfl, Nat.zero_le _, fun _ => rfl⟩
       | slcN h1 h2 => exact ⟨_, _, rfl, h2, fun h => nomatch h⟩
      obtain ⟨ad, cap, hv, hcap, hnil⟩ := hform
      obtain ⟨hrun, hij, hj⟩ := bounds_sound (P := P) (w := w) (isSlice := true) (cap := cap) hs h2 h3 hb hcap
      have hstep : (Instr.sliceAt t (a.eval x) (lo.map a.eval) (hi.map a.eval) none).run P w = .ok (.slice (if cap = i then ad else ad.map (·.add (i * ie.size))) (j - i) (cap - i)) w := by
       rw [hv]
       simp only [Instr.sliceAt, Sem.run_bind, run_underlying hu, Result.andThen_ok, Instr.slice, hrun, sizeOf_run hie, Sem.run_pure]
      refine ⟨_, rfl, hstep, ?_⟩
      cases ad with
      | none =>
       have hr := hnil rfl
       subst hr
       have : j - i = 0 := by simp at hj; omega
       simp only [List.take_nil, List.drop_nil, this]
       exact .slc0 _ _
      | some ad =>
       by_cases hrn : rows = []
       ·subst hrn
        have : j - i = 0 := by simp at hj; omega
        simp only [List.take_nil, List.drop_nil, this]
        exact .slc0 _ _
       ·have hb : ∃ b off, ad = ⟨b, off, none⟩ := by
         rw [hv] at hx
         cases hx with
         | slc0 => exact absurd rfl hrn
         | slcN => exact ⟨_, _, rfl⟩
        obtain ⟨b, off, rfl⟩ := hb
        rw [hv] at hx
        have := slice_slc hx hok hij hj
        by_cases hci : cap = i
        ·rw [if_pos hci] at this ⊢; exact this
        ·rw [if_neg hci] at this ⊢; simpa [Addr.add_lit] using this
     ·cases he
    ·rename_i h1
     simp only [Option.map_eq_some_iff, Prod.mk.injEq] at he
     obtain ⟨⟨i, j⟩, hb, rfl, rfl⟩ := he
     rw [h1] at hx
     generalize hv : a.eval x = u at hx
     cases hx
     obtain ⟨hrun, hij, hj⟩ := bounds_sound (P := P) (w := w) (isSlice := true) (cap := 0) hs h2 h3 hb (Nat.le_refl _)
     have hi0 : i = 0 := by omega
     have hj0 : j = 0 := by omega
     subst hi0; subst hj0
     exact ⟨.slice none 0 0, rfl, by simp [Instr.sliceAt, run_underlying hu, Instr.slice, hrun, sizeOf_run hie], .nils⟩
    ·rename_i o j m h1
     split at he
     ·cases he
     split at he
     ·rename_i z rows hob
      split at he
      ·rename_i hcond
       obtain ⟨hz, hcur⟩ := hcond
       simp only [Option.bind_eq_some_iff] at he
       obtain ⟨⟨i, k⟩, hb, he⟩ := he
       simp only [] at he
       split at he
       ·rename_i hkm
        subst hkm
        simp only [Option.some.injEq, Prod.mk.injEq] at he
        obtain ⟨rfl, rfl⟩ := he
        rw [h1] at hx
        generalize hxv : a.eval x = xv at hx
        cases hx with
        | @osl l o j m L v ho hbx hlen hv' hh =>
         rcases R.objs o _ hob with h4 | ⟨L', h4, h5⟩
         ·simp at h4
         rw [ho] at h4; cases h4
         obtain ⟨g1, g2, g3, g4, g5⟩ := h5
         rcases hh (by omega) with ⟨k1, k2, k3, k4⟩ | ⟨k1, k2, ad, k3, k4⟩
         ·subst k2; subst k3; subst k4
          obtain ⟨hrun, hij, hj⟩ := bounds_sound (P := P) (w := w) (isSlice := true) (cap := 0) hs h2 h3 hb (Nat.le_refl _)
          have hi0 : i = 0 := by omega
          subst hi0
          exact ⟨.slice none 0 0, rfl, by simp [Instr.sliceAt, run_underlying hu, Instr.slice, hrun, sizeOf_run hie], .osl ho hbx (by omega) ⟨_, _, _, rfl⟩ fun _ => .inl ⟨k1, by omega, by omega, rfl⟩⟩
         ·subst k3
          rcases g5 with ⟨g5, g6⟩ | ⟨g5, g6, g7, g8⟩
          ·rw [g5] at k1; cases k1
          obtain ⟨hrun, hij, hj⟩ := bounds_sound (P := P) (w := w) (isSlice := true) (cap := L.cap - j) hs h2 h3 hb (by omega)
          refine ⟨.slice (if L.cap - j = i then some ad else some (ad.add (i * ie.size))) (k - i) (L.cap - j - i), rfl, ?_, ?_⟩
          ·simp only [Instr.sliceAt, Sem.run_bind, run_underlying hu, Result.andThen_ok, Instr.slice, hrun, sizeOf_run hie, Sem.run_pure, Option.map_some]
          ·refine .osl ho hbx (by omega) ⟨_, _, _, rfl⟩ fun hcur' => .inr ⟨k1, by omega, ?_⟩
           by_cases hci : L.cap - j = i
           ·exact ⟨ad, by rw [if_pos hci, Nat.sub_sub], fun hlt => by omega⟩
           ·refine ⟨ad.add (i * ie.size), by rw [if_neg hci, Nat.sub_sub], fun hlt => ?_⟩
            rw [k4 (by omega), Addr.add_lit, g3, hz, Nat.add_assoc, ← Nat.add_mul]
            congr 3; omega
       ·cases he
      ·cases he
     ·cases he
    ·cases he
   ·cases he
 ·rename_i n e hu
  cases hie : P.info? e with
  | none => simp [hie] at hc
  | some ie =>
   simp only [hie, Option.map_some, Option.some.injEq] at hc
   subst hc
   simp only [ev] at he
   split at he
   ·rename_i p q h2 h3
    split at he
    ·rename_i o off h1
     split at he
     ·rename_i hsz
      simp only [Option.map_eq_some_iff, Prod.mk.injEq] at he
      obtain ⟨⟨i, j⟩, hb, rfl, rfl⟩ := he
      rw [h1] at hx
      obtain ⟨L, g1, g2, g3⟩ := hx.ref_inv
      obtain ⟨hrun, hij, hj⟩ := bounds_sound (P := P) (w := w) (isSlice := false) (cap := n) hs h2 h3 hb (Nat.le_refl _)
      refine ⟨.slice (some ⟨L.blk, if i = n then off else off + i, none⟩) (j - i) (n - i), rfl, ?_, .bsl g1 g2 (by omega)⟩
      rw [g3]
      simp only [Instr.sliceAt, Sem.run_bind, run_underlying hu, Result.andThen_ok, Instr.sureAddr, hrun, sizeOf_run hie, Sem.run_pure, hsz]
      by_cases hin : i = n
      ·simp [hin]
      ·rw [if_neg hin, if_neg (by omega), Addr.add_lit, Nat.mul_one]
     ·cases he
    ·cases he
   ·cases he
 ·cases hc
theorem ext_sound {forb : List Nat} {nw : Option Nat} {i : Nat} {x : Operand} {pv : PV} {ob' : List AObj} (hs : SlotsOk w F l s a) (he : ev forb nw s (.ext i (opx x)) = some (pv, ob')) :
  ∃ v, ob' = s.ob ∧ (Instr.extract (a.eval x) i).run P w = .ok v w ∧ R1 w F l pv v := by
 have hx := opx_sound hs x
 simp only [ev] at he
 split at he
 ·rename_i cs hv
  simp only [Option.map_eq_some_iff, Prod.mk.injEq] at he
  obtain ⟨p, hp, rfl, rfl⟩ := he
  rw [hv] at hx
  obtain ⟨xs, hxv, hr⟩ := hx.tup_inv
  obtain ⟨v, h1, h2⟩ := hr.get hp
  exact ⟨v, rfl, by rw [hxv]; simp [Instr.extract, h1], h2⟩
 ·cases he
theorem opxs_sound (hs : SlotsOk w F l s a) : ∀ xs : List Operand, RL w F l ((xs.map opx).map s.val) (xs.map a.eval)
 | [] => .nil
 | x :: xs => .cons (opx_sound hs x) (opxs_sound hs xs)
theorem mkfn_sound {forb : List Nat} {nw : Option Nat} {f : Fn} {first cap : Array Operand} {pv : PV} {ob' : List AObj} (hs : SlotsOk w F l s a) (he : ev forb nw s (.mkfn f (first.toList.map opx) (cap.toList.map opx)) = some (pv, ob')) :
  ∃ v, ob' = s.ob ∧ (Instr.makeFunc f (first.map a.eval) (cap.map a.eval)).run P w = .ok v w ∧ R1 w F l pv v := by
 simp only [ev, Option.some.injEq, Prod.mk.injEq] at he
 obtain ⟨rfl, rfl⟩ := he
 have h1 := opxs_sound hs first.toList
 have h2 := opxs_sound hs cap.toList
 refine ⟨.func f (first.map a.eval) (cap.map a.eval), rfl, by simp [Instr.makeFunc], ?_⟩
 have e1 : first.map a.eval = (first.toList.map a.eval).toArray := by apply Array.ext'; simp
 have e2 : cap.map a.eval = (cap.toList.map a.eval).toArray := by apply Array.ext'; simp
 rw [e1, e2]
 exact .fn h1.1 h1.2 h2.1 h2.2
def cMki (P : Program) (t : TypeId) (x : Operand) : Option AO :=
 match P.underlying t with
 | some (.interface _) => none
 | some _ => some (.mki t (opx x))
 | none => none
theorem mki_sound {forb : List Nat} {nw : Option Nat} {t : TypeId} {x : Operand} {ao : AO} {pv : PV} {ob' : List AObj} (hc : cMki P t x = some ao) (hs : SlotsOk w F l s a) (he : ev forb nw s ao = some (pv, ob')) :
  ∃ v, ob' = s.ob ∧ (Instr.makeInterface t (a.eval x)).run P w = .ok v w ∧ R1 w F l pv v := by
 unfold cMki at hc
 split at hc
 ·cases hc
 ·rename_i d hne hu
  simp only [Option.some.injEq] at hc; subst hc
  simp only [ev, Option.some.injEq, Prod.mk.injEq] at he
  obtain ⟨rfl, rfl⟩ := he
  refine ⟨.iface t (a.eval x), rfl, ?_, .ifc (opx_sound hs x)⟩
  simp only [Instr.makeInterface, Sem.run_bind, run_underlying hu, Result.andThen]
  cases d with
  | interface m => exact (hne m rfl).elim
  | _ => rfl
 ·cases hc
def nilZero : Option (Option Value) → Bool
 | some (some (.pointer none)) => true
 | _ => false
theorem nilZero_eq {z : Option (Option Value)} (h : nilZero z = true) : z = some (some (.pointer none)) := by
 unfold nilZero at h
 split at h
 ·rfl
 ·cases h
def cTas (P : Program) (t : TypeId) (x : Operand) : Option AO :=
 match P.underlying t with
 | some (.pointer _) => if nilZero ((P.info? t).map (·.zero)) = true then some (.tas t (opx x)) else none
 | _ => none
theorem tas_sound {forb : List Nat} {nw : Option Nat} {xT t : TypeId} {x : Operand} {ao : AO} {pv : PV} {ob' : List AObj} (hc : cTas P t x = some ao) (hs : SlotsOk w F l s a) (he : ev forb nw s ao = some (pv, ob')) :
  ∃ v, ob' = s.ob ∧ (Instr.typeAssert (a.eval x) xT t true).run P w = .ok v w ∧ R1 w F l pv v := by
 unfold cTas at hc
 split at hc
 ·rename_i e hu
  split at hc
  case isFalse => cases hc
  rename_i hz
  simp only [Option.some.injEq] at hc; subst hc
  obtain ⟨i, hi, hz⟩ := Option.map_eq_some_iff.1 (nilZero_eq hz)
  have hx := opx_sound hs x
  simp only [ev] at he
  split at he
  ·rename_i t' p hv
   rw [hv] at hx
   simp only [Option.some.injEq, Prod.mk.injEq] at he
   obtain ⟨rfl, rfl⟩ := he
   generalize a.eval x = xv at hx
   cases hx with
   | @ifc _ _ _ v' hp =>
    by_cases ht : t' = t
    ·subst ht
     refine ⟨.tuple #[v', .bool true], rfl, by simp [Instr.typeAssert, run_underlying hu], ?_⟩
     rw [if_pos rfl]
     exact R1.mkTup (.cons hp (.one (.bool true)))
    ·refine ⟨.tuple #[.pointer none, .bool false], rfl, by simp [Instr.typeAssert, run_underlying hu, ht, zeroValue, typeInfo, hi, hz], ?_⟩
     rw [if_neg ht]
     exact R1.mkTup (.cons .nilp (.one (.bool false)))
  ·rename_i hv
   rw [hv] at hx
   simp only [Option.some.injEq, Prod.mk.injEq] at he
   obtain ⟨rfl, rfl⟩ := he
   generalize a.eval x = xv at hx
   cases hx with
   | nili =>
    refine ⟨.tuple #[.pointer none, .bool false], rfl, by simp [Instr.typeAssert, run_underlying hu, zeroValue, typeInfo, hi, hz], ?_⟩
    exact R1.mkTup (.cons .nilp (.one (.bool false)))
  ·cases he
 ·cases hc
def cLen (P : Program) (t : TypeId) (x : Operand) : Option AO :=
 match P.underlying t with
 | some .string => some (.lens (opx x))
 | some (.slice _) => some (.len (opx x))
 | some (.array n _) => some (.lenc n)
 | _ => none
theorem len_sound {forb : List Nat} {nw : Option Nat} {t ty : TypeId} {x : Operand} {ao : AO} {pv : PV} {ob' : List AObj} (hc : cLen P t x = some ao) (R : RepW c F l s.ob w) (hs : SlotsOk w F l s a) (he : ev forb nw s ao = some (pv, ob')) :
  ∃ v, ob' = s.ob ∧ (Builtin.len_ #[t] ty #[a.eval x]).run P w = .ok v w ∧ R1 w F l pv v := by
 have hx := opx_sound hs x
 unfold cLen at hc
 split at hc
 ·rename_i hu
  simp only [Option.some.injEq] at hc; subst hc
  simp only [ev] at he
  split at he
  ·rename_i m hv
   simp only [Option.some.injEq, Prod.mk.injEq] at he
   obtain ⟨rfl, rfl⟩ := he
   rw [hv] at hx
   refine ⟨.int .i64 m.length, rfl, ?_, .int _ _⟩
   rw [hx.str_inv]
   have e1 : (⟨m.toArray⟩ : ByteArray).size = m.length := by simp [ByteArray.size]
   simp [Builtin.len_, run_underlying hu, goInt, e1]
  ·cases he
 ·rename_i e hu
  simp only [Option.some.injEq] at hc; subst hc
  simp only [ev, Option.map_eq_some_iff, Prod.mk.injEq] at he
  obtain ⟨rows, hrows, rfl, rfl⟩ := he
  obtain ⟨ad, cap, hv, _, _⟩ := rowsOf_sound R hx hrows
  exact ⟨.int .i64 rows.length, rfl, by rw [hv]; simp [Builtin.len_, run_underlying hu, goInt], .int _ _⟩
 ·rename_i n e hu
  simp only [Option.some.injEq] at hc; subst hc
  simp only [ev, Option.some.injEq, Prod.mk.injEq] at he
  obtain ⟨rfl, rfl⟩ := he
  exact ⟨.int .i64 n, rfl, by simp [Builtin.len_, run_underlying hu, goInt], .int _ _⟩
 ·cases hc
theorem mm_max_sound : ∀ (ps : List PV) (xs : List Value) (k : IntKind) (m n : Int), RL w F l ps xs → mmI true k m ps = some n → (xs.foldlM Builtin.max2 (.int k m)).run P w = .ok (.int k n) w
 | [], xs, k, m, n, h, he => by
  have := h.nil_inv; subst this
  simp only [mmI, Option.some.injEq] at he; subst he
  simp
 | p :: ps, xs, k, m, n, h, he => by
  obtain ⟨x, xs', rfl, hx, hxs⟩ := h.cons_inv
  cases p <;> simp only [mmI] at he <;> try (cases he; done)
  rename_i k' q
  split at he
  ·rename_i hk
   subst hk
   rw [hx.int_inv]
   simp only [if_true] at he
   have := mm_max_sound ps xs' k (if q > m then q else m) n hxs he
   rw [List.foldlM_cons, Sem.run_bind]
   simpa [Builtin.max2] using this
  ·cases he
theorem mm_min_sound : ∀ (ps : List PV) (xs : List Value) (k : IntKind) (m n : Int), RL w F l ps xs → mmI false k m ps = some n → (xs.foldlM Builtin.min2 (.int k m)).run P w = .ok (.int k n) w
 | [], xs, k, m, n, h, he => by
  have := h.nil_inv; subst this
  simp only [mmI, Option.some.injEq] at he; subst he
  simp
 | p :: ps, xs, k, m, n, h, he => by
  obtain ⟨x, xs', rfl, hx, hxs⟩ := h.cons_inv
  cases p <;> simp only [mmI] at he <;> try (cases he; done)
  rename_i k' q
  split at he
  ·rename_i hk
   subst hk
   rw [hx.int_inv]
   simp only [Bool.false_eq_true, if_false] at he
   have := mm_min_sound ps xs' k (if q < m then q else m) n hxs he
   rw [List.foldlM_cons, Sem.run_bind]
   simpa [Builtin.min2] using this
  ·cases he
theorem mm_sound {forb : List Nat} {nw : Option Nat} {isMax : Bool} {xs : Array Operand} {ts : Array TypeId} {ty : TypeId} {pv : PV} {ob' : List AObj} (hs : SlotsOk w F l s a) (he : ev forb nw s (.mm isMax (xs.toList.map opx)) = some (pv, ob')) :
  ∃ v, ob' = s.ob ∧ ((if isMax then Builtin.max_ ts ty (xs.map a.eval) else Builtin.min_ ts ty (xs.map a.eval)).run P w = .ok v w) ∧ R1 w F l pv v := by
 have hxs := opxs_sound hs xs.toList
 simp only [ev] at he
 split at he
 ·rename_i k m r hv
  simp only [Option.map_eq_some_iff, Prod.mk.injEq] at he
  obtain ⟨n, hn, rfl, rfl⟩ := he
  rw [hv] at hxs
  obtain ⟨x, us, hl, hx, hus⟩ := hxs.cons_inv
  refine ⟨.int k n, rfl, ?_, .int _ _⟩
  cases isMax
  ·have := mm_min_sound (P := P) (w := w) r us k m n hus hn
   simp [Builtin.min_, hl, hx.int_inv, this]
  ·have := mm_max_sound (P := P) (w := w) r us k m n hus hn
   simp [Builtin.max_, hl, hx.int_inv, this]
 ·cases he
end
open Go.RowKit
theorem foldl_set_list (cells v : Array Value) (off : Nat) (h : off + v.size ≤ cells.size) :
  (v.zipIdx.foldl (fun cs (x : Value × Nat) => cs.setIfInBounds (off + x.2) x.1) cells).toList = cells.toList.take off ++ (v.toList ++ cells.toList.drop (off + v.size)) := by
 rw [← Array.foldl_toList, Array.toList_zipIdx]
 obtain ⟨h1, h2⟩ := Great.foldl_set off v.toList 0 cells
 apply List.ext_getElem?
 intro k
 have h3 := h2 k
 simp only [Nat.add_zero, Array.length_toList] at h3
 have e1 : (cells.toList.take off).length = off := by rw [List.length_take]; simp; omega
 rw [Array.getElem?_toList, h3]
 by_cases k1 : k < off
 ·rw [if_neg (by omega), List.getElem?_append_left (by omega), List.getElem?_take, if_pos k1]; simp
 ·by_cases k2 : k < off + v.size
  ·rw [if_pos (by omega), List.getElem?_append_right (by omega), e1, List.getElem?_append_left (by simp; omega)]
  ·rw [if_neg (by omega), List.getElem?_append_right (by omega), e1, List.getElem?_append_right (by simp; omega), List.getElem?_drop]
   simp only [Array.length_toList]
   rw [show off + v.size + (k - off - v.size) = k by omega]; simp
theorem made_list (z : Array Value) (n : Nat) : (madeCells z (n * z.size)).toList = (List.replicate n z.toList).flatten := by
 by_cases hz : z.size = 0
 ·have : z = #[] := Array.eq_empty_of_size_eq_zero hz
  subst this
  simp [madeCells]
 ·have e1 : (List.replicate n z.toList).flatten = (List.replicate n (Value.agg z)).flatMap fun v => v.cells.toList := by
   induction n with
   | zero => rfl
   | succ n ih => rw [List.replicate_succ, List.flatten_cons, ih, List.replicate_succ, List.flatMap_cons]; rfl
  rw [e1]
  apply List.ext_getElem?
  intro k
  rw [Great.flat_get (s := z.size) (by omega) _ (fun v hv => by rw [List.eq_of_mem_replicate hv]; rfl)]
  by_cases hk : k < n * z.size
  ·have hd : k / z.size < n := Nat.div_lt_of_lt_mul (by rw [Nat.mul_comm]; exact hk)
   have hm : k % z.size < z.size := Nat.mod_lt _ (by omega)
   simp [madeCells, hk, hd, Value.cells, hm]
  ·have hd : ¬ k / z.size < n := by
    intro hlt
    have : k < n * z.size := by
     have := Nat.div_add_mod k z.size
     have hm : k % z.size < z.size := Nat.mod_lt _ (by omega)
     have : (k / z.size + 1) * z.size ≤ n * z.size := Nat.mul_le_mul_right _ hlt
     rw [Nat.add_mul, Nat.mul_comm (k / z.size)] at this
     omega
    exact hk this
   simp [madeCells, hk, hd]
section
variable {P : Program} {c : Ctx} {F : Nat → Prop} {l : Locs} {w : World} {s : St} {a : Act}
theorem below_alloc {o : Obj} : Below w.heap.size w (w.alloc o) := (Below.refl _ _).alloc (Nat.le_refl _) _
theorem below_drew_alloc {o : Obj} : Below w.heap.size w (w.drew.alloc o) := ((Below.refl _ _).drew).alloc (Nat.le_refl _) _
theorem alloc_heap (w : World) (o : Obj) : (w.alloc o).heap[w.heap.size]? = some o := by show (w.heap.push o)[w.heap.size]? = _; simp
theorem drew_alloc_heap (w : World) (o : Obj) : (w.drew.alloc o).heap[w.heap.size]? = some o := by show (w.heap.push o)[w.heap.size]? = _; simp
theorem free00 (n : Nat) : Free (0, 0) n := fun j _ h => by omega
theorem new_box (R : RepW c F l s.ob w) {w' : World} (hB : Below w.heap.size w w') {e : TypeId} {cells : List PV} {cv : List Value} (hblk : w'.heap[w.heap.size]? = some (.cells cv.toArray e)) (hr : RL w F l cells cv) (hone : ∀ x ∈ cv, x.oneCell' = true)
  {nw : Option Nat} {i : Nat} {ob' : List AObj} (hmk : mkO s nw (.box cells) = some (i, ob')) :
  ∃ l', RepW c F l' ob' w' ∧ Mono w F l w' F l' ∧ R1 w' F l' (.ref i 0) (.pointer (some ⟨w.heap.size, 0, none⟩)) := by
 obtain ⟨R1', m1⟩ := R.ext hB
 obtain ⟨h1, h2, h3, h4, h5⟩ := mkO_spec R rfl hmk
 let L : Loc := ⟨w.heap.size, 0, 0, 0, 0, 0, false, true⟩
 obtain ⟨R2, m2⟩ := R1'.new (L := L) (i := i) (a := .box cells) h1 h2 h3 h4 h5 (fun m => ⟨rfl, rfl, cv, e, hblk, (hr.up m1).up m, hone⟩)
  (fun _ => ⟨R.below.size, lt_of_cells hblk, fun hF => absurd (R.flt _ hF) (Nat.lt_irrefl _), fun o L' ho hn e => by have := (R.own o L' ho hn).2.1; simp only [L] at e; omega⟩)
 exact ⟨_, R2, m1.trans m2, .ref (updL_same _ _ _) rfl⟩
theorem new_list (R : RepW c F l s.ob w) {w' : World} (hB : Below w.heap.size w w') {e : TypeId} {cc : Array Value} {fr : Nat × Nat} {esz cap : Nat} {rows : List (List PV)} {cv : List Value} (hblk : w'.heap[w.heap.size]? = some (.cells cc e fr)) (hfree : Free fr cc.size)
  (hr : ∀ r ∈ rows, r.length = esz) (hrl : RL w F (fun _ => none) rows.flatten cv) (hc : ∀ j, j < cv.length → cc[j]? = cv[j]?) (hone : ∀ x ∈ cv, x.oneCell' = true) (hcap : rows.length ≤ cap) (hsz : cap * esz ≤ cc.size)
  {nw : Option Nat} {i : Nat} {ob' : List AObj} (hmk : mkO s nw (.list esz rows) = some (i, ob')) :
  ∃ l', RepW c F l' ob' w' ∧ Mono w F l w' F l' ∧ R1 w' F l' (.osl i 0 rows.length) (.slice (some ⟨w.heap.size, 0, none⟩) rows.length cap) := by
 obtain ⟨R1', m1⟩ := R.ext hB
 obtain ⟨h1, h2, h3, h4, h5⟩ := mkO_spec R rfl hmk
 let L : Loc := ⟨w.heap.size, 0, 0, cap, rows.length, esz, false, false⟩
 obtain ⟨R2, m2⟩ := R1'.new (L := L) (i := i) (a := .list esz rows) h1 h2 h3 h4 h5
  (fun m => ⟨rfl, rfl, rfl, hr, .inr ⟨rfl, Nat.zero_le _, hcap, cc, e, fr, cv, hblk, hfree, by simpa [L] using hsz, by simpa [L] using (hrl.up ⟨m1.frz, m1.heap, LocExt.refl _⟩).up ⟨m.frz, m.heap, LocExt.refl _⟩, fun j hj => by simpa [L] using hc j hj, hone⟩⟩)
  (fun _ => ⟨R.below.size, lt_of_cells hblk, fun hF => absurd (R.flt _ hF) (Nat.lt_irrefl _), fun o L' ho hn e => by have := (R.own o L' ho hn).2.1; simp only [L] at e; omega⟩)
 exact ⟨_, R2, m1.trans m2, .osl (updL_same _ _ _) rfl (by simp [L]) ⟨_, _, _, rfl⟩ fun _ => .inr ⟨rfl, Nat.zero_le _, _, rfl, fun _ => by simp [L]⟩⟩
theorem new_nil (R : RepW c F l s.ob w) {esz : Nat} {nw : Option Nat} {i : Nat} {ob' : List AObj} (hmk : mkO s nw (.list esz []) = some (i, ob')) :
  ∃ l', RepW c F l' ob' w ∧ Mono w F l w F l' ∧ R1 w F l' (.osl i 0 0) (.slice none 0 0) := by
 obtain ⟨h1, h2, h3, h4, h5⟩ := mkO_spec R rfl hmk
 let L : Loc := ⟨0, 0, 0, 0, 0, esz, true, false⟩
 obtain ⟨R2, m2⟩ := R.new (L := L) (i := i) (a := .list esz []) h1 h2 h3 h4 h5 (fun m => ⟨rfl, rfl, rfl, by simp, .inl ⟨rfl, rfl⟩⟩) (fun h => nomatch h)
 exact ⟨_, R2, m2, .osl (updL_same _ _ _) rfl (by simp [L]) ⟨_, _, _, rfl⟩ fun _ => .inl ⟨rfl, rfl, rfl, rfl⟩⟩
theorem new_frozen (R : RepW c F l s.ob w) {w' : World} (hB : Below w.heap.size w w') {e : TypeId} {cc : Array Value} {fr : Nat × Nat} {esz cap : Nat} {rows : List (List PV)} {cv : List Value} (hblk : w'.heap[w.heap.size]? = some (.cells cc e fr))
  (hr : ∀ r ∈ rows, r.length = esz) (hrl : RL w F (fun _ => none) rows.flatten cv) (hc : ∀ j, j < cv.length → cc[j]? = cv[j]?) (hone : ∀ x ∈ cv, x.oneCell' = true) (hcap : rows.length ≤ cap) :
  ∃ F', RepW c F' l s.ob w' ∧ Mono w F l w' F' l ∧ R1 w' F' l (.slc rows) (.slice (some ⟨w.heap.size, 0, none⟩) rows.length cap) := by
 obtain ⟨R1', m1⟩ := R.ext hB
 obtain ⟨R2, m2⟩ := R1'.freeze (b := w.heap.size) R.below.size (lt_of_cells hblk) (fun o L ho hn e => by have := (R.own o L ho hn).2.1; omega)
 refine ⟨_, R2, m1.trans m2, ?_⟩
 by_cases hne : rows = []
 ·subst hne; exact .slc0 _ _
 ·have h2 := (hrl.up ⟨m1.frz, m1.heap, LocExt.refl _⟩).up ⟨m2.frz, m2.heap, LocExt.refl _⟩
  exact .slcN hne hcap (.inr rfl) ⟨⟨cc, e, fr, hblk, fun j hj => by simpa using hc j hj⟩, hone⟩ hr h2.1 h2.2
def zcells (P : Program) (e : TypeId) : Option (TypeInfo × Value) :=
 match P.info? e with
 | some i => match i.zero with
  | some z => if z.cells.size = i.size ∧ z.cells.toList.all Value.oneCell' then some (i, z) else none
  | none => none
 | none => none
theorem zcells_spec {e : TypeId} {i : TypeInfo} {z : Value} (h : zcells P e = some (i, z)) : P.info? e = some i ∧ i.zero = some z ∧ z.cells.size = i.size ∧ ∀ v ∈ z.cells.toList, v.oneCell' = true := by
 unfold zcells at h
 split at h
 ·rename_i j hj
  split at h
  ·rename_i y hy
   split at h
   ·rename_i hcond
    simp only [Option.some.injEq, Prod.mk.injEq] at h
    obtain ⟨rfl, rfl⟩ := h
    exact ⟨hj, hy, hcond.1, fun v hv => List.all_eq_true.1 hcond.2 v hv⟩
   ·cases h
  ·cases h
 ·cases h
def cAlloc (P : Program) (own : Bool) (e : TypeId) : Option AO := (zcells P e).map fun (_, z) => .alloc (z.cells.toList.map (if own then cvN else cvS))
theorem alloc_sound {forb : List Nat} {nw : Option Nat} {own : Bool} {e : TypeId} {ao : AO} {pv : PV} {ob' : List AObj} (hc : cAlloc P own e = some ao) (R : RepW c F l s.ob w) (he : ev forb nw s ao = some (pv, ob')) :
  ∃ v w' l', (Instr.alloc e true (.tuple #[])).run P w = .ok v w' ∧ RepW c F l' ob' w' ∧ Mono w F l w' F l' ∧ R1 w' F l' pv v := by
 unfold cAlloc at hc
 cases hz : zcells P e with
 | none => simp [hz] at hc
 | some iz =>
  obtain ⟨i, z⟩ := iz
  simp only [hz, Option.map_some, Option.some.injEq] at hc
  subst hc
  obtain ⟨h1, h2, h3, h4⟩ := zcells_spec hz
  simp only [ev, Option.map_eq_some_iff] at he
  obtain ⟨⟨k, ob1⟩, hmk, he⟩ := he
  simp only [Prod.mk.injEq] at he
  obtain ⟨rfl, rfl⟩ := he
  obtain ⟨l', R', m', hv⟩ := new_box R (w' := w.alloc (.cells z.cells e)) below_alloc (e := e) (cv := z.cells.toList) (by rw [alloc_heap]) (by cases own with | true => exact RL_cvN _ | false => exact RL_cvS _) h4 hmk
  exact ⟨_, _, l', by simp [Instr.alloc, zeroValue_run h1 h2, newVar, newRow], R', m', hv⟩
theorem box_sound {forb : List Nat} {nw : Option Nat} {e : TypeId} {x : Operand} {pv : PV} {ob' : List AObj} (R : RepW c F l s.ob w) (hs : SlotsOk w F l s a) (he : ev forb nw s (.box (opx x)) = some (pv, ob')) :
  ∃ v w' l', (Instr.box e (a.eval x)).run P w = .ok v w' ∧ RepW c F l' ob' w' ∧ Mono w F l w' F l' ∧ R1 w' F l' pv v := by
 simp only [ev] at he
 split at he
 ·rename_i hcond
  simp only [Option.map_eq_some_iff] at he
  obtain ⟨⟨k, ob1⟩, hmk, he⟩ := he
  simp only [Prod.mk.injEq] at he
  obtain ⟨rfl, rfl⟩ := he
  have hcs := (opx_sound hs x).cells hcond.1
  obtain ⟨l', R', m', hv⟩ := new_box R (w' := w.alloc (.cells (a.eval x).cells e)) below_alloc (e := e) (cv := (a.eval x).cells.toList) (by rw [alloc_heap]) hcs (hcs.oneCell hcond.2) hmk
  exact ⟨_, _, l', by simp [Instr.box, newVar, newRow], R', m', hv⟩
 ·cases he
theorem fill_sound {place : Nat → Option (Nat × Nat)} (hs : SlotsOk w F l s a) : ∀ (ps : List (Nat × Operand)) (ap : List (Nat × Nat × AX)), ps.mapM (fun p => (place p.1).map fun q => (q.1, q.2, opx p.2)) = some ap →
  ∀ (z z' : List PV) (cells : Array Value), RL w F l z cells.toList → fillA s z ap = some z' → ∃ cells', Instr.fill place cells (ps.map fun p => (p.1, a.eval p.2)) = some cells' ∧ RL w F l z' cells'.toList
 | [], ap, h, z, z', cells, hr, hf => by
  simp only [List.mapM_nil, Option.pure_def, Option.some.injEq] at h
  subst h
  simp only [fillA, Option.some.injEq] at hf
  subst hf
  exact ⟨cells, rfl, hr⟩
 | (i, x) :: ps, ap, h, z, z', cells, hr, hf => by
  simp only [List.mapM_cons, Option.bind_eq_bind, Option.pure_def, Option.bind_eq_some_iff, Option.map_eq_some_iff, Option.some.injEq] at h
  obtain ⟨q, ⟨⟨off, sz⟩, hp, rfl⟩, ap', hap, rfl⟩ := h
  simp only [fillA] at hf
  split at hf
  ·rename_i hcond
   obtain ⟨hk, hl, hle⟩ := hcond
   have hcs := (opx_sound hs x).cells hk
   have hvs : (a.eval x).cells.size = sz := by have := hcs.1; rw [hl] at this; simpa using this.symm
   have hzl : z.length = cells.size := by simpa using hr.1
   have hset := foldl_set_list cells (a.eval x).cells off (by omega)
   have hnew : RL w F l (setAt z off (s.val (opx x)).cellsOf) (((a.eval x).cells.zipIdx.foldl (fun cs (y : Value × Nat) => cs.setIfInBounds (off + y.2) y.1) cells).toList) := by
    rw [hset]
    unfold setAt
    rw [hl, hvs]
    exact (hr.take off).append (hcs.append (hr.drop _))
   obtain ⟨cells', h1, h2⟩ := fill_sound hs ps ap' hap _ z' _ hnew hf
   refine ⟨cells', ?_, h2⟩
   simp only [List.map_cons, Instr.fill, hp]
   rw [if_neg (by simp [hvs]; omega)]
   exact h1
  ·cases hf
def placesOf (P : Program) (t : TypeId) : Option (Nat → Option (Nat × Nat)) :=
 match P.underlying t with
 | some (.struct fs) => (fs.toList.mapM (fun f => (P.info? f.type).map fun i => (f.offset, i.size))).map fun ps => (ps.toArray[·]?)
 | some (.array _ e) => (P.info? e).map fun ie => fun i => some (i * ie.size, ie.size)
 | _ => none
def cBuild (P : Program) (own : Bool) (t : TypeId) (parts : Array (Nat × Operand)) : Option AO :=
 match P.info? t with
 | some i => match i.zero, placesOf P t with
  | some z, some place => (parts.toList.mapM (fun p => (place p.1).map fun q => (q.1, q.2, opx p.2))).map fun ap => .build (z.cells.toList.map (if own then cvN else cvS)) ap
  | _, _ => none
 | none => none
theorem build_sound {forb : List Nat} {nw : Option Nat} {own : Bool} {t : TypeId} {parts : Array (Nat × Operand)} {ao : AO} {pv : PV} {ob' : List AObj} (hc : cBuild P own t parts = some ao) (hs : SlotsOk w F l s a) (he : ev forb nw s ao = some (pv, ob')) :
  ∃ v, ob' = s.ob ∧ (Instr.build t (parts.map fun (i, x) => (i, a.eval x))).run P w = .ok v w ∧ R1 w F l pv v := by
 unfold cBuild at hc
 split at hc
 ·rename_i i hi
  split at hc
  ·rename_i z place hz hplace
   simp only [Option.map_eq_some_iff] at hc
   obtain ⟨ap, hap, rfl⟩ := hc
   simp only [ev, Option.map_eq_some_iff, Prod.mk.injEq] at he
   obtain ⟨cs, hcs, rfl, rfl⟩ := he
   obtain ⟨cells', h1, h2⟩ := fill_sound (place := place) hs parts.toList ap hap _ cs z.cells (by cases own with | true => exact RL_cvN _ | false => exact RL_cvS _) hcs
   have hb : P.built t (parts.map fun (i, x) => (i, a.eval x)).toList = some cells' := by
    rw [Array.toList_map]
    unfold placesOf at hplace
    unfold Program.built
    split at hplace
    ·rename_i fs hu
     simp only [Option.map_eq_some_iff] at hplace
     obtain ⟨ps, hps, rfl⟩ := hplace
     simp only [hi, hu, hz, hps]
     exact h1
    ·rename_i n e hu
     simp only [Option.map_eq_some_iff] at hplace
     obtain ⟨ie, hie, rfl⟩ := hplace
     simp only [hi, hu, hz, hie]
     exact h1
    ·cases hplace
   refine ⟨.agg cells', rfl, run_build w t _ cells' hb, ?_⟩
   have := R1.mkAgg h2
   simpa using this
  ·cases hc
 ·cases hc
theorem fillR_fillA {n : Nat} : ∀ (parts : List (Nat × AX)) (rows rows' : List (List PV)), (∀ r ∈ rows, r.length = n) → fillR s n rows parts = some rows' →
  fillA s rows.flatten (parts.map fun p => (p.1 * n, n, p.2)) = some rows'.flatten ∧ (∀ r ∈ rows', r.length = n) ∧ rows'.length = rows.length
 | [], rows, rows', hr, h => by
  simp only [fillR, Option.some.injEq] at h
  subst h
  exact ⟨rfl, hr, rfl⟩
 | (i, x) :: parts, rows, rows', hr, h => by
  simp only [fillR] at h
  split at h
  ·rename_i hcond
   obtain ⟨hk, hl, hi⟩ := hcond
   have hr2 : ∀ r ∈ rows.set i (s.val x).cellsOf, r.length = n := by
    intro r hrm
    rcases List.mem_or_eq_of_mem_set hrm with h1 | rfl
    ·exact hr r h1
    ·exact hl
   obtain ⟨h1, h2, h3⟩ := fillR_fillA parts _ rows' hr2 h
   refine ⟨?_, h2, by simpa using h3⟩
   have hfl := flatten_len rows hr
   have hle : i * n + n ≤ rows.length * n := by rw [← Nat.succ_mul]; exact Nat.mul_le_mul_right _ hi
   simp only [List.map_cons, fillA]
   rw [if_pos ⟨hk, hl, by omega⟩]
   have e : setAt rows.flatten (i * n) (s.val x).cellsOf = (rows.set i (s.val x).cellsOf).flatten := by
    rw [flatten_set hr (List.getElem?_eq_getElem hi) hl]
    unfold setAt
    rw [hl, List.append_assoc]
   rw [e]
   exact h1
  ·cases h
theorem mapM_some (m : Nat) : ∀ ps : List (Nat × Operand), ps.mapM (fun p => ((fun j => some (j * m, m)) p.1 : Option (Nat × Nat)).map fun q => (q.1, q.2, opx p.2)) = some (ps.map fun p => (p.1 * m, m, opx p.2))
 | [] => rfl
 | p :: ps => by rw [List.mapM_cons, mapM_some m ps]; rfl
def cBlds (P : Program) (own : Bool) (t : TypeId) (len : Nat) (parts : Array (Nat × Operand)) : Option AO :=
 match P.underlying t with
 | some (.slice e) => match zcells P e with
  | some (i, z) => if len * i.size ≤ 2 ^ 24 ∧ (len * i.size = 0 → parts.toList = [] ∧ len = 0) then some (.blds own (z.cells.toList.map cvS) len (parts.toList.map fun p => (p.1, opx p.2))) else none
  | none => none
 | _ => none
theorem scal_all {rows : List (List PV)} (h : rows.all (fun r => r.all PV.scal && !ownL r) = true) : rows.flatten.all PV.cell? = true ∧ ownL rows.flatten = false := by
 have h1 : ∀ r ∈ rows, r.all PV.scal = true ∧ ownL r = false := fun r hr => by
  have := List.all_eq_true.1 h r hr
  simpa using this
 constructor
 ·rw [List.all_eq_true]
  intro p hp
  obtain ⟨r, hr, hpr⟩ := List.mem_flatten.1 hp
  exact scal_cell (List.all_eq_true.1 (h1 r hr).1 p hpr)
 ·rw [ownL_iff]
  intro p hp
  obtain ⟨r, hr, hpr⟩ := List.mem_flatten.1 hp
  exact (ownL_iff r).1 (h1 r hr).2 p hpr
theorem blds_sound {forb : List Nat} {nw : Option Nat} {own : Bool} {t : TypeId} {len : Nat} {parts : Array (Nat × Operand)} {ao : AO} {pv : PV} {ob' : List AObj} (hc : cBlds P own t len parts = some ao) (R : RepW c F l s.ob w) (hs : SlotsOk w F l s a) (he : ev forb nw s ao = some (pv, ob')) :
  ∃ v w' F' l', (Instr.buildSlice t len (parts.map fun (i, x) => (i, a.eval x))).run P w = .ok v w' ∧ RepW c F' l' ob' w' ∧ Mono w F l w' F' l' ∧ R1 w' F' l' pv v := by
 unfold cBlds at hc
 split at hc
 ·rename_i e hu
  split at hc
  ·rename_i i z hz
   split at hc
   ·rename_i hcond
    simp only [Option.some.injEq] at hc
    subst hc
    obtain ⟨h1, h2, h3, h4⟩ := zcells_spec hz
    simp only [ev, Option.bind_eq_some_iff] at he
    obtain ⟨rows, hrows, he⟩ := he
    have hzl : (z.cells.toList.map cvS).length = i.size := by simp [h3]
    rw [hzl] at hrows he
    have hrep : ∀ r ∈ List.replicate len (z.cells.toList.map cvS), r.length = i.size := fun r hr => by rw [List.eq_of_mem_replicate hr, hzl]
    obtain ⟨hfill, hlen, hcount⟩ := fillR_fillA _ _ rows hrep hrows
    rw [List.length_replicate] at hcount
    split at he
    ·rename_i hall
     obtain ⟨hcell, hown⟩ := scal_all hall
     have hrun : ∃ cells, (Instr.buildSlice t len (parts.map fun (i, x) => (i, a.eval x))).run P w = .ok (.slice (some ⟨w.heap.size, 0, none⟩) len len) (w.alloc (.cells cells e)) ∧ RL w F l rows.flatten cells.toList := by
      by_cases h0 : len * i.size = 0
      ·obtain ⟨hp, hl0⟩ := hcond.2 h0
       subst hl0
       have hpe : parts = #[] := by apply Array.ext'; simpa using hp
       have hre : rows = [] := List.eq_nil_of_length_eq_zero hcount
       subst hpe; subst hre
       exact ⟨#[], by simp [Instr.buildSlice, run_underlying hu, sizeOf_run h1, Instr.fill, newRow, Array.range_zero'], RL.nil⟩
      ·have hmade : RL w F l (List.replicate len (z.cells.toList.map cvS)).flatten (madeCells z.cells (len * i.size)).toList := by
        rw [← h3, made_list]
        have : ∀ n, RL w F l (List.replicate n (z.cells.toList.map cvS)).flatten (List.replicate n z.cells.toList).flatten := by
         intro n
         induction n with
         | zero => exact RL.nil
         | succ n ih => rw [List.replicate_succ, List.replicate_succ, List.flatten_cons, List.flatten_cons]; exact (RL_cvS _).append ih
        exact this len
       obtain ⟨cells', hf, hr⟩ := fill_sound (place := fun j => some (j * i.size, i.size)) hs parts.toList (parts.toList.map fun p => (p.1 * i.size, i.size, opx p.2)) (mapM_some _ _) _ rows.flatten _ hmade (by
        rw [List.map_map] at hfill
        exact hfill)
       refine ⟨cells', ?_, hr⟩
       refine run_buildSlice w t e len _ cells' i z hu h1 h2 (by omega) h0 ?_
       rw [Array.toList_map]
       exact hf
     obtain ⟨cells, hrun, hr⟩ := hrun
     have hone := hr.oneCell hcell
     have hr0 := hr.noOwn hown (fun _ => none)
     split at he
     ·simp only [Option.map_eq_some_iff] at he
      obtain ⟨⟨k, ob1⟩, hmk, he⟩ := he
      simp only [Prod.mk.injEq] at he
      obtain ⟨rfl, rfl⟩ := he
      have hsz : cells.size = len * i.size := by
       have := hr.1
       rw [flatten_len rows hlen, hcount] at this
       simpa using this.symm
      obtain ⟨l', R', m', hv⟩ := new_list R (cap := len) below_alloc (alloc_heap w (.cells cells e)) (free00 _) hlen hr0 (fun j hj => by simp) hone (by omega) (by omega) hmk
      rw [hcount] at hv ⊢
      exact ⟨_, _, F, l', hrun, R', m', hv⟩
     ·simp only [Option.some.injEq, Prod.mk.injEq] at he
      obtain ⟨rfl, rfl⟩ := he
      obtain ⟨F', R', m', hv⟩ := new_frozen R (cap := len) below_alloc (alloc_heap w (.cells cells e)) hlen hr0 (fun j hj => by simp) hone (by omega)
      rw [hcount] at hv
      exact ⟨_, _, F', l, hrun, R', m', hv⟩
    ·cases he
   ·cases hc
  ·cases hc
 ·cases hc
end
end Go.Proofs.YtdgpiobmncohjaaGreatDoor.Aw
