/-
  That the abstract operations tell the truth: fields, indexes, slicings, tuples, function values, lengths, least and greatest, struct values.
-/
import Derived.Test.YtdgpiobmncohjaaGreatAwSnd2
import Derived.Lib.Strings
namespace Go.Proofs.YtdgpiobmncohjaaGreat.Aw
open Go.RowKit

section
variable {P : Program} {c : Ctx} {F : Nat → Prop} {l : Locs} {w : World} {s : St} {a : Act}

/- a part of a value -/
def nOf (P : Program) (t : TypeId) : Option (Option Nat) :=
  match P.underlying t with
  | some d => if isAggD d then (P.info? t).map fun i => some i.size else some none
  | none => none

def cFld (P : Program) (t : TypeId) (x : Operand) (f : Nat) : Option AO :=
  match P.underlying t with
  | some (.struct fs) => match fs[f]? with
    | some fd => (nOf P fd.type).map fun n => .fld n fd.offset (opx x)
    | none => none
  | _ => none

theorem part_sound {t : TypeId} {n : Option Nat} {cs : List PV} {xs : List Value} {off : Nat} {pv : PV} (hn : nOf P t = some n) (h : RL w F l cs xs)
    (he : partPV n off cs = some pv) :
    ∃ v, (part t xs.toArray off).run P w = .ok v w ∧ R1 w F l pv v := by
  unfold nOf at hn
  split at hn
  · rename_i d hu
    split at hn
    · rename_i hagg
      cases hi : P.info? t with
      | none => simp [hi] at hn
      | some i =>
        simp only [hi, Option.map_some, Option.some.injEq] at hn
        subst hn
        simp only [partPV] at he
        split at he
        · rename_i hle
          simp only [Option.some.injEq] at he
          subst he
          refine ⟨.agg ((xs.drop off).take i.size).toArray, ?_, R1.mkAgg ((h.drop _).take _)⟩
          simp only [part, Sem.run_bind, isAgg_run hu, Result.andThen_ok, hagg, if_true, sizeOf_run hi, Sem.run_pure]
          congr 2
          apply Array.ext'
          simp
        · cases he
    · rename_i hagg
      simp only [Option.some.injEq] at hn
      subst hn
      simp only [partPV] at he
      obtain ⟨v, hv, hr⟩ := h.get he
      exact ⟨v, by simp [part, isAgg_run hu, hagg, hv], hr⟩
  · cases hn

theorem fld_sound {forb : List Nat} {nw : Option Nat} {t : TypeId} {x : Operand} {f : Nat} {ao : AO} {pv : PV} {ob' : List AObj} (hc : cFld P t x f = some ao) (hs : SlotsOk w F l s a) (he : ev forb nw s ao = some (pv, ob')) :
    ∃ v, ob' = s.ob ∧ (Instr.field t (a.eval x) f).run P w = .ok v w ∧ R1 w F l pv v := by
  have hx := opx_sound hs x
  unfold cFld at hc
  split at hc
  · rename_i fs hu
    split at hc
    · rename_i fd hfd
      cases hn : nOf P fd.type with
      | none => simp [hn] at hc
      | some n =>
        simp only [hn, Option.map_some, Option.some.injEq] at hc
        subst hc
        simp only [ev] at he
        split at he
        · rename_i cs hv
          rw [hv] at hx
          obtain ⟨xs, hxv, hr⟩ := hx.agg_inv
          simp only [Option.map_eq_some_iff, Prod.mk.injEq] at he
          obtain ⟨p, hp, rfl, rfl⟩ := he
          obtain ⟨v, h1, h2⟩ := part_sound (w := w) hn hr hp
          refine ⟨v, rfl, ?_, h2⟩
          rw [hxv]
          simp [Instr.field, run_underlying hu, hfd, asAgg, h1]
        · cases he
    · cases hc
  · cases hc

def cIdx (P : Program) (t : TypeId) (x i : Operand) : Option AO :=
  match P.underlying t with
  | some .string => some (.idxs (opx x) (opx i))
  | some (.array n e) => match nOf P e, P.info? e with
    | some m, some ie => some (.idxa m ie.size n (opx x) (opx i))
    | _, _ => none
  | _ => none

theorem idx_sound {forb : List Nat} {nw : Option Nat} {t : TypeId} {x i : Operand} {ao : AO} {pv : PV} {ob' : List AObj} (hc : cIdx P t x i = some ao) (hs : SlotsOk w F l s a) (he : ev forb nw s ao = some (pv, ob')) :
    ∃ v, ob' = s.ob ∧ (Instr.index t (a.eval x) (a.eval i)).run P w = .ok v w ∧ R1 w F l pv v := by
  have hx := opx_sound hs x
  have hi := opx_sound hs i
  unfold cIdx at hc
  split at hc
  · rename_i hu
    simp only [Option.some.injEq] at hc; subst hc
    simp only [ev] at he
    split at he
    · rename_i m k n h1 h2
      split at he
      · rename_i hn
        simp only [Option.map_eq_some_iff, Prod.mk.injEq] at he
        obtain ⟨b, hb, rfl, rfl⟩ := he
        rw [h1] at hx; rw [h2] at hi
        refine ⟨.int .u8 b.toNat, rfl, ?_, .int _ _⟩
        rw [hx.str_inv, hi.int_inv]
        have hlt : n.toNat < m.length := (List.getElem?_eq_some_iff.1 hb).1
        have hg : (⟨m.toArray⟩ : ByteArray)[n.toNat]? = some b := by
          have hlt' : n.toNat < (⟨m.toArray⟩ : ByteArray).size := by simpa [ByteArray.size] using hlt
          have e1 : (⟨m.toArray⟩ : ByteArray)[n.toNat]? = some ((⟨m.toArray⟩ : ByteArray)[n.toNat]'hlt') := by simp [getElem?_def, hlt']
          rw [e1]
          have := List.getElem?_eq_getElem hlt
          rw [hb] at this
          simp only [Option.some.injEq] at this
          rw [this]; rfl
        simp [Instr.index, run_underlying hu, asIntOf, hn, hg]
      · cases he
    · cases he
  · rename_i n e hu
    split at hc
    · rename_i m ie hm hie
      simp only [Option.some.injEq] at hc; subst hc
      simp only [ev] at he
      split at he
      · rename_i cs k j h1 h2
        split at he
        · rename_i hj
          rw [h1] at hx; rw [h2] at hi
          obtain ⟨xs, hxv, hr⟩ := hx.agg_inv
          simp only [Option.map_eq_some_iff, Prod.mk.injEq] at he
          obtain ⟨p, hp, rfl, rfl⟩ := he
          obtain ⟨v, h3, h4⟩ := part_sound (w := w) hm hr hp
          refine ⟨v, rfl, ?_, h4⟩
          rw [hxv, hi.int_inv]
          simp [Instr.index, run_underlying hu, asIntOf, hj, sizeOf_run hie, h3]
        · cases he
      · cases he
    · cases hc
  · cases hc

/- bounds of a slicing -/
theorem optI_none {s : St} {n : Option Int} (h : optI s none = some n) : n = none := by simp only [optI, Option.some.injEq] at h; exact h.symm

theorem optI_some {x : Operand} {n : Option Int} (hs : SlotsOk w F l s a) (h : optI s (some (opx x)) = some n) : ∃ k m, n = some m ∧ a.eval x = .int k m := by
  have hx := opx_sound hs x
  simp only [optI, Option.map_eq_some_iff] at h
  obtain ⟨m, hm, rfl⟩ := h
  unfold asI at hm
  split at hm
  · rename_i k m' hv
    simp only [Option.some.injEq] at hm; subst hm
    rw [hv] at hx
    exact ⟨k, m', rfl, hx.int_inv⟩
  · cases hm

theorem bounds_sound {isSlice : Bool} {len cap : Nat} {lo hi : Option Operand} {p q : Option Int} {i j : Nat} (hs : SlotsOk w F l s a) (hlo : optI s (lo.map opx) = some p) (hhi : optI s (hi.map opx) = some q) (hb : bounds len p q = some (i, j)) (hcap : len ≤ cap) :
    (Instr.sliceBounds isSlice len cap (lo.map a.eval) (hi.map a.eval) none).run P w = .ok (i, j, cap) w ∧ i ≤ j ∧ j ≤ len := by
  unfold bounds at hb
  simp only [] at hb
  split at hb
  · rename_i hcond
    simp only [Option.some.injEq, Prod.mk.injEq] at hb
    obtain ⟨rfl, rfl⟩ := hb
    refine ⟨?_, by omega, by omega⟩
    cases lo with
    | none =>
      have := optI_none hlo; subst this
      simp only [Option.getD_none] at hcond
      cases hi with
      | none =>
        have := optI_none hhi; subst this
        simp [Instr.sliceBounds]
      | some y =>
        obtain ⟨k, m, rfl, hy⟩ := optI_some hs hhi
        simp only [Option.getD_some] at hcond
        have h1 : 0 ≤ m ∧ m ≤ (cap : Int) := by omega
        simp [Instr.sliceBounds, hy, run_sliceBound w k m cap _ h1.1 h1.2]
    | some x =>
      obtain ⟨k, m, rfl, hx⟩ := optI_some hs hlo
      simp only [Option.getD_some] at hcond
      cases hi with
      | none =>
        have := optI_none hhi; subst this
        simp only [Option.getD_none] at hcond
        have h1 : 0 ≤ m ∧ m ≤ (len : Int) := by omega
        simp [Instr.sliceBounds, hx, run_sliceBound w k m len _ h1.1 h1.2]
      | some y =>
        obtain ⟨k', m', rfl, hy⟩ := optI_some hs hhi
        simp only [Option.getD_some] at hcond
        have h1 : 0 ≤ m' ∧ m' ≤ (cap : Int) := by omega
        have h2 : 0 ≤ m ∧ m ≤ (m'.toNat : Int) := by omega
        simp [Instr.sliceBounds, hx, hy, run_sliceBound w k' m' cap _ h1.1 h1.2, run_sliceBound w k m m'.toNat _ h2.1 h2.2]
  · cases hb

def cSlice (P : Program) (t : TypeId) (x : Operand) (lo hi : Option Operand) : Option AO :=
  match P.underlying t with
  | some .string => some (.sstr (opx x) (lo.map opx) (hi.map opx))
  | some (.slice e) => (P.info? e).map fun i => .ssl i.size (opx x) (lo.map opx) (hi.map opx)
  | some (.array n e) => (P.info? e).map fun i => .sarr i.size n (opx x) (lo.map opx) (hi.map opx)
  | _ => none

theorem slice_slc {rows : List (List PV)} {b off cap esz i j : Nat} (h : R1 w F l (.slc rows) (.slice (some ⟨b, off, none⟩) rows.length cap)) (hok : rowsOk esz rows = true) (hij : i ≤ j) (hj : j ≤ rows.length) :
    R1 w F l (.slc ((rows.take j).drop i)) (.slice (some (if cap = i then ⟨b, off, none⟩ else ⟨b, off + i * esz, none⟩)) (j - i) (cap - i)) := by
  by_cases he : (rows.take j).drop i = []
  · have hl : j - i = 0 := by have := congrArg List.length he; simp at this; omega
    rw [he, hl]
    exact .slc0 _ _
  · have hlen : ((rows.take j).drop i).length = j - i := by simp; omega
    have hij' : i < j := by
      rcases Nat.lt_or_ge i j with h1 | h1
      · exact h1
      · exact absurd (List.eq_nil_of_length_eq_zero (by omega)) he
    generalize hv : Value.slice (some ⟨b, off, none⟩) rows.length cap = v at h
    cases h with
    | slc0 a cap => simp at hj; omega
    | @slcN l rows b' off' cap' cvv z hne hcap hF hc hrr hl hh =>
      simp only [Value.slice.injEq, Option.some.injEq, Addr.mk.injEq, true_and, and_true] at hv
      obtain ⟨⟨rfl, rfl⟩, rfl⟩ := hv
      have hok' := rowsOk_iff.1 hok
      have hz : z = esz := by
        cases rows with
        | nil => exact absurd rfl hne
        | cons r rs => rw [← hrr r (by simp), ← hok' r (by simp)]
      subst hz
      obtain ⟨⟨cc, e, fr, h1, h2⟩, h3⟩ := hc
      rw [if_neg (by omega), ← hlen]
      have hsub : ∀ r ∈ (rows.take j).drop i, r.length = z := fun r hr => hrr r (List.mem_of_mem_take (List.mem_of_mem_drop hr))
      have hrt : ∀ r ∈ rows.take j, r.length = z := fun r hr => hrr r (List.mem_of_mem_take hr)
      have hfl : ((rows.take j).drop i).flatten = (rows.flatten.take (j * z)).drop (i * z) := by
        rw [flatten_drop _ _ hrt, flatten_take _ _ hrr]
      have hrl : RL w F (fun _ => none) ((rows.take j).drop i).flatten ((cvv.take (j * z)).drop (i * z)) := by
        rw [hfl]; exact ((show RL w F _ _ _ from ⟨hl, hh⟩).take _).drop _
      refine .slcN he (by omega) hF ⟨⟨cc, e, fr, h1, fun k hk => ?_⟩, fun v hv => h3 v (List.mem_of_mem_take (List.mem_of_mem_drop hv))⟩ hsub hrl.1 hrl.2
      simp only [List.length_drop, List.length_take] at hk
      rw [List.getElem?_drop, List.getElem?_take, if_pos (by omega), ← h2 _ (by omega)]
      congr 1; omega

theorem slice_sound {forb : List Nat} {nw : Option Nat} {t : TypeId} {x : Operand} {lo hi : Option Operand} {ao : AO} {pv : PV} {ob' : List AObj} (hc : cSlice P t x lo hi = some ao) (R : RepW c F l s.ob w) (hs : SlotsOk w F l s a) (he : ev forb nw s ao = some (pv, ob')) :
    ∃ v, ob' = s.ob ∧ (Instr.sliceAt t (a.eval x) (lo.map a.eval) (hi.map a.eval) none).run P w = .ok v w ∧ R1 w F l pv v := by
  have hx := opx_sound hs x
  unfold cSlice at hc
  split at hc
  · rename_i hu
    simp only [Option.some.injEq] at hc; subst hc
    simp only [ev] at he
    split at he
    · rename_i m p q h1 h2 h3
      simp only [Option.map_eq_some_iff, Prod.mk.injEq] at he
      obtain ⟨⟨i, j⟩, hb, rfl, rfl⟩ := he
      rw [h1] at hx
      have hsz : (⟨m.toArray⟩ : ByteArray).size = m.length := by simp [ByteArray.size]
      obtain ⟨hrun, hij, hj⟩ := bounds_sound (P := P) (w := w) (isSlice := false) (cap := m.length) hs h2 h3 hb (Nat.le_refl _)
      refine ⟨.string ⟨((m.take j).drop i).toArray⟩, rfl, ?_, .str _⟩
      rw [hx.str_inv]
      simp only [Instr.sliceAt, Sem.run_bind, run_underlying hu, Result.andThen_ok, Instr.slice, hsz]
      simp only [Option.isSome_none, Bool.false_eq_true, if_false, Sem.run_bind, hrun, Result.andThen_ok, Sem.run_pure]
      congr 2
      apply ByteArray.ext
      apply Array.ext'
      simp [Lib.extract_data, List.drop_take]
    · cases he
  · rename_i e hu
    cases hie : P.info? e with
    | none => simp [hie] at hc
    | some ie =>
      simp only [hie, Option.map_some, Option.some.injEq] at hc
      subst hc
      simp only [ev] at he
      split at he
      · rename_i p q h2 h3
        split at he
        · rename_i rows h1
          split at he
          · rename_i hok
            simp only [Option.map_eq_some_iff, Prod.mk.injEq] at he
            obtain ⟨⟨i, j⟩, hb, rfl, rfl⟩ := he
            rw [h1] at hx
            have hform : ∃ ad cap, a.eval x = .slice ad rows.length cap ∧ rows.length ≤ cap ∧ (ad = none → rows = []) := by
              generalize a.eval x = u at hx
              cases hx with
              | slc0 ad cap => exact ⟨ad, cap, rfl, Nat.zero_le _, fun _ => rfl⟩
              | slcN h1 h2 => exact ⟨_, _, rfl, h2, fun h => nomatch h⟩
            obtain ⟨ad, cap, hv, hcap, hnil⟩ := hform
            obtain ⟨hrun, hij, hj⟩ := bounds_sound (P := P) (w := w) (isSlice := true) (cap := cap) hs h2 h3 hb hcap
            have hstep : (Instr.sliceAt t (a.eval x) (lo.map a.eval) (hi.map a.eval) none).run P w = .ok (.slice (if cap = i then ad else ad.map (·.add (i * ie.size))) (j - i) (cap - i)) w := by
              rw [hv]
              simp only [Instr.sliceAt, Sem.run_bind, run_underlying hu, Result.andThen_ok, Instr.slice, hrun, sizeOf_run hie, Sem.run_pure]
            refine ⟨_, rfl, hstep, ?_⟩
            cases ad with
            | none =>
              have hr := hnil rfl
              subst hr
              have : j - i = 0 := by simp at hj; omega
              simp only [List.take_nil, List.drop_nil, this]
              exact .slc0 _ _
            | some ad =>
              by_cases hrn : rows = []
              · subst hrn
                have : j - i = 0 := by simp at hj; omega
                simp only [List.take_nil, List.drop_nil, this]
                exact .slc0 _ _
              · have hb : ∃ b off, ad = ⟨b, off, none⟩ := by
                  rw [hv] at hx
                  cases hx with
                  | slc0 => exact absurd rfl hrn
                  | slcN => exact ⟨_, _, rfl⟩
                obtain ⟨b, off, rfl⟩ := hb
                rw [hv] at hx
                have := slice_slc hx hok hij hj
                by_cases hci : cap = i
                · rw [if_pos hci] at this ⊢; exact this
                · rw [if_neg hci] at this ⊢; simpa [Addr.add_lit] using this
          · cases he
        · rename_i h1
          simp only [Option.map_eq_some_iff, Prod.mk.injEq] at he
          obtain ⟨⟨i, j⟩, hb, rfl, rfl⟩ := he
          rw [h1] at hx
          generalize hv : a.eval x = u at hx
          cases hx
          obtain ⟨hrun, hij, hj⟩ := bounds_sound (P := P) (w := w) (isSlice := true) (cap := 0) hs h2 h3 hb (Nat.le_refl _)
          have hi0 : i = 0 := by omega
          have hj0 : j = 0 := by omega
          subst hi0; subst hj0
          exact ⟨.slice none 0 0, rfl, by simp [Instr.sliceAt, run_underlying hu, Instr.slice, hrun, sizeOf_run hie], .nils⟩
        · rename_i o j m h1
          split at he
          · cases he
          split at he
          · rename_i z rows hob
            split at he
            · rename_i hcond
              obtain ⟨hz, hcur⟩ := hcond
              simp only [Option.bind_eq_some_iff] at he
              obtain ⟨⟨i, k⟩, hb, he⟩ := he
              simp only [] at he
              split at he
              · rename_i hkm
                subst hkm
                simp only [Option.some.injEq, Prod.mk.injEq] at he
                obtain ⟨rfl, rfl⟩ := he
                rw [h1] at hx
                generalize hxv : a.eval x = xv at hx
                cases hx with
                | @osl l o j m L v ho hbx hlen hv' hh =>
                  rcases R.objs o _ hob with h4 | ⟨L', h4, h5⟩
                  · simp at h4
                  rw [ho] at h4; cases h4
                  obtain ⟨g1, g2, g3, g4, g5⟩ := h5
                  rcases hh (by omega) with ⟨k1, k2, k3, k4⟩ | ⟨k1, k2, ad, k3, k4⟩
                  · subst k2; subst k3; subst k4
                    obtain ⟨hrun, hij, hj⟩ := bounds_sound (P := P) (w := w) (isSlice := true) (cap := 0) hs h2 h3 hb (Nat.le_refl _)
                    have hi0 : i = 0 := by omega
                    subst hi0
                    exact ⟨.slice none 0 0, rfl, by simp [Instr.sliceAt, run_underlying hu, Instr.slice, hrun, sizeOf_run hie], .osl ho hbx (by omega) ⟨_, _, _, rfl⟩ fun _ => .inl ⟨k1, by omega, by omega, rfl⟩⟩
                  · subst k3
                    rcases g5 with ⟨g5, g6⟩ | ⟨g5, g6, g7, g8⟩
                    · rw [g5] at k1; cases k1
                    obtain ⟨hrun, hij, hj⟩ := bounds_sound (P := P) (w := w) (isSlice := true) (cap := L.cap - j) hs h2 h3 hb (by omega)
                    refine ⟨.slice (if L.cap - j = i then some ad else some (ad.add (i * ie.size))) (k - i) (L.cap - j - i), rfl, ?_, ?_⟩
                    · simp only [Instr.sliceAt, Sem.run_bind, run_underlying hu, Result.andThen_ok, Instr.slice, hrun, sizeOf_run hie, Sem.run_pure, Option.map_some]
                    · refine .osl ho hbx (by omega) ⟨_, _, _, rfl⟩ fun hcur' => .inr ⟨k1, by omega, ?_⟩
                      by_cases hci : L.cap - j = i
                      · exact ⟨ad, by rw [if_pos hci, Nat.sub_sub], fun hlt => by omega⟩
                      · refine ⟨ad.add (i * ie.size), by rw [if_neg hci, Nat.sub_sub], fun hlt => ?_⟩
                        rw [k4 (by omega), Addr.add_lit, g3, hz, Nat.add_assoc, ← Nat.add_mul]
                        congr 3; omega
              · cases he
            · cases he
          · cases he
        · cases he
      · cases he
  · rename_i n e hu
    cases hie : P.info? e with
    | none => simp [hie] at hc
    | some ie =>
      simp only [hie, Option.map_some, Option.some.injEq] at hc
      subst hc
      simp only [ev] at he
      split at he
      · rename_i p q h2 h3
        split at he
        · rename_i o off h1
          split at he
          · rename_i hsz
            simp only [Option.map_eq_some_iff, Prod.mk.injEq] at he
            obtain ⟨⟨i, j⟩, hb, rfl, rfl⟩ := he
            rw [h1] at hx
            obtain ⟨L, g1, g2, g3⟩ := hx.ref_inv
            obtain ⟨hrun, hij, hj⟩ := bounds_sound (P := P) (w := w) (isSlice := false) (cap := n) hs h2 h3 hb (Nat.le_refl _)
            refine ⟨.slice (some ⟨L.blk, if i = n then off else off + i, none⟩) (j - i) (n - i), rfl, ?_, .bsl g1 g2 (by omega)⟩
            rw [g3]
            simp only [Instr.sliceAt, Sem.run_bind, run_underlying hu, Result.andThen_ok, Instr.sureAddr, hrun, sizeOf_run hie, Sem.run_pure, hsz]
            by_cases hin : i = n
            · simp [hin]
            · rw [if_neg hin, if_neg (by omega), Addr.add_lit, Nat.mul_one]
          · cases he
        · cases he
      · cases he
  · cases hc

theorem ext_sound {forb : List Nat} {nw : Option Nat} {i : Nat} {x : Operand} {pv : PV} {ob' : List AObj} (hs : SlotsOk w F l s a) (he : ev forb nw s (.ext i (opx x)) = some (pv, ob')) :
    ∃ v, ob' = s.ob ∧ (Instr.extract (a.eval x) i).run P w = .ok v w ∧ R1 w F l pv v := by
  have hx := opx_sound hs x
  simp only [ev] at he
  split at he
  · rename_i cs hv
    simp only [Option.map_eq_some_iff, Prod.mk.injEq] at he
    obtain ⟨p, hp, rfl, rfl⟩ := he
    rw [hv] at hx
    obtain ⟨xs, hxv, hr⟩ := hx.tup_inv
    obtain ⟨v, h1, h2⟩ := hr.get hp
    exact ⟨v, rfl, by rw [hxv]; simp [Instr.extract, h1], h2⟩
  · cases he

theorem opxs_sound (hs : SlotsOk w F l s a) : ∀ xs : List Operand, RL w F l ((xs.map opx).map s.val) (xs.map a.eval)
  | [] => .nil
  | x :: xs => .cons (opx_sound hs x) (opxs_sound hs xs)

theorem mkfn_sound {forb : List Nat} {nw : Option Nat} {f : Fn} {first cap : Array Operand} {pv : PV} {ob' : List AObj} (hs : SlotsOk w F l s a) (he : ev forb nw s (.mkfn f (first.toList.map opx) (cap.toList.map opx)) = some (pv, ob')) :
    ∃ v, ob' = s.ob ∧ (Instr.makeFunc f (first.map a.eval) (cap.map a.eval)).run P w = .ok v w ∧ R1 w F l pv v := by
  simp only [ev, Option.some.injEq, Prod.mk.injEq] at he
  obtain ⟨rfl, rfl⟩ := he
  have h1 := opxs_sound hs first.toList
  have h2 := opxs_sound hs cap.toList
  refine ⟨.func f (first.map a.eval) (cap.map a.eval), rfl, by simp [Instr.makeFunc], ?_⟩
  have e1 : first.map a.eval = (first.toList.map a.eval).toArray := by apply Array.ext'; simp
  have e2 : cap.map a.eval = (cap.toList.map a.eval).toArray := by apply Array.ext'; simp
  rw [e1, e2]
  exact .fn h1.1 h1.2 h2.1 h2.2

def cMki (P : Program) (t : TypeId) (x : Operand) : Option AO :=
  match P.underlying t with
  | some (.interface _) => none
  | some _ => some (.mki t (opx x))
  | none => none
theorem mki_sound {forb : List Nat} {nw : Option Nat} {t : TypeId} {x : Operand} {ao : AO} {pv : PV} {ob' : List AObj} (hc : cMki P t x = some ao) (hs : SlotsOk w F l s a) (he : ev forb nw s ao = some (pv, ob')) :
    ∃ v, ob' = s.ob ∧ (Instr.makeInterface t (a.eval x)).run P w = .ok v w ∧ R1 w F l pv v := by
  unfold cMki at hc
  split at hc
  · cases hc
  · rename_i d hne hu
    simp only [Option.some.injEq] at hc; subst hc
    simp only [ev, Option.some.injEq, Prod.mk.injEq] at he
    obtain ⟨rfl, rfl⟩ := he
    refine ⟨.iface t (a.eval x), rfl, ?_, .ifc (opx_sound hs x)⟩
    simp only [Instr.makeInterface, Sem.run_bind, run_underlying hu, Result.andThen]
    cases d with
    | interface m => exact (hne m rfl).elim
    | _ => rfl
  · cases hc

/-- Whether an interface value holds a value of a pointer's type, and which. -/
def nilZero : Option (Option Value) → Bool
  | some (some (.pointer none)) => true
  | _ => false
theorem nilZero_eq {z : Option (Option Value)} (h : nilZero z = true) : z = some (some (.pointer none)) := by
  unfold nilZero at h
  split at h
  · rfl
  · cases h
def cTas (P : Program) (t : TypeId) (x : Operand) : Option AO :=
  match P.underlying t with
  | some (.pointer _) => if nilZero ((P.info? t).map (·.zero)) = true then some (.tas t (opx x)) else none
  | _ => none
theorem tas_sound {forb : List Nat} {nw : Option Nat} {xT t : TypeId} {x : Operand} {ao : AO} {pv : PV} {ob' : List AObj} (hc : cTas P t x = some ao) (hs : SlotsOk w F l s a) (he : ev forb nw s ao = some (pv, ob')) :
    ∃ v, ob' = s.ob ∧ (Instr.typeAssert (a.eval x) xT t true).run P w = .ok v w ∧ R1 w F l pv v := by
  unfold cTas at hc
  split at hc
  · rename_i e hu
    split at hc
    case isFalse => cases hc
    rename_i hz
    simp only [Option.some.injEq] at hc; subst hc
    obtain ⟨i, hi, hz⟩ := Option.map_eq_some_iff.1 (nilZero_eq hz)
    have hx := opx_sound hs x
    simp only [ev] at he
    split at he
    · rename_i t' p hv
      rw [hv] at hx
      simp only [Option.some.injEq, Prod.mk.injEq] at he
      obtain ⟨rfl, rfl⟩ := he
      generalize a.eval x = xv at hx
      cases hx with
      | @ifc _ _ _ v' hp =>
        by_cases ht : t' = t
        · subst ht
          refine ⟨.tuple #[v', .bool true], rfl, by simp [Instr.typeAssert, run_underlying hu], ?_⟩
          rw [if_pos rfl]
          exact R1.mkTup (.cons hp (.one (.bool true)))
        · refine ⟨.tuple #[.pointer none, .bool false], rfl, by simp [Instr.typeAssert, run_underlying hu, ht, zeroValue, typeInfo, hi, hz], ?_⟩
          rw [if_neg ht]
          exact R1.mkTup (.cons .nilp (.one (.bool false)))
    · rename_i hv
      rw [hv] at hx
      simp only [Option.some.injEq, Prod.mk.injEq] at he
      obtain ⟨rfl, rfl⟩ := he
      generalize a.eval x = xv at hx
      cases hx with
      | nili =>
        refine ⟨.tuple #[.pointer none, .bool false], rfl, by simp [Instr.typeAssert, run_underlying hu, zeroValue, typeInfo, hi, hz], ?_⟩
        exact R1.mkTup (.cons .nilp (.one (.bool false)))
    · cases he
  · cases hc

/- len -/
def cLen (P : Program) (t : TypeId) (x : Operand) : Option AO :=
  match P.underlying t with
  | some .string => some (.lens (opx x))
  | some (.slice _) => some (.len (opx x))
  | some (.array n _) => some (.lenc n)
  | _ => none

theorem len_sound {forb : List Nat} {nw : Option Nat} {t ty : TypeId} {x : Operand} {ao : AO} {pv : PV} {ob' : List AObj} (hc : cLen P t x = some ao) (R : RepW c F l s.ob w) (hs : SlotsOk w F l s a) (he : ev forb nw s ao = some (pv, ob')) :
    ∃ v, ob' = s.ob ∧ (Builtin.len_ #[t] ty #[a.eval x]).run P w = .ok v w ∧ R1 w F l pv v := by
  have hx := opx_sound hs x
  unfold cLen at hc
  split at hc
  · rename_i hu
    simp only [Option.some.injEq] at hc; subst hc
    simp only [ev] at he
    split at he
    · rename_i m hv
      simp only [Option.some.injEq, Prod.mk.injEq] at he
      obtain ⟨rfl, rfl⟩ := he
      rw [hv] at hx
      refine ⟨.int .i64 m.length, rfl, ?_, .int _ _⟩
      rw [hx.str_inv]
      have e1 : (⟨m.toArray⟩ : ByteArray).size = m.length := by simp [ByteArray.size]
      simp [Builtin.len_, run_underlying hu, goInt, e1]
    · cases he
  · rename_i e hu
    simp only [Option.some.injEq] at hc; subst hc
    simp only [ev, Option.map_eq_some_iff, Prod.mk.injEq] at he
    obtain ⟨rows, hrows, rfl, rfl⟩ := he
    obtain ⟨ad, cap, hv, _, _⟩ := rowsOf_sound R hx hrows
    exact ⟨.int .i64 rows.length, rfl, by rw [hv]; simp [Builtin.len_, run_underlying hu, goInt], .int _ _⟩
  · rename_i n e hu
    simp only [Option.some.injEq] at hc; subst hc
    simp only [ev, Option.some.injEq, Prod.mk.injEq] at he
    obtain ⟨rfl, rfl⟩ := he
    exact ⟨.int .i64 n, rfl, by simp [Builtin.len_, run_underlying hu, goInt], .int _ _⟩
  · cases hc

theorem mm_max_sound : ∀ (ps : List PV) (xs : List Value) (k : IntKind) (m n : Int), RL w F l ps xs → mmI true k m ps = some n → (xs.foldlM Builtin.max2 (.int k m)).run P w = .ok (.int k n) w
  | [], xs, k, m, n, h, he => by
    have := h.nil_inv; subst this
    simp only [mmI, Option.some.injEq] at he; subst he
    simp
  | p :: ps, xs, k, m, n, h, he => by
    obtain ⟨x, xs', rfl, hx, hxs⟩ := h.cons_inv
    cases p <;> simp only [mmI] at he <;> try (cases he; done)
    rename_i k' q
    split at he
    · rename_i hk
      subst hk
      rw [hx.int_inv]
      simp only [if_true] at he
      have := mm_max_sound ps xs' k (if q > m then q else m) n hxs he
      rw [List.foldlM_cons, Sem.run_bind]
      simpa [Builtin.max2] using this
    · cases he

theorem mm_min_sound : ∀ (ps : List PV) (xs : List Value) (k : IntKind) (m n : Int), RL w F l ps xs → mmI false k m ps = some n → (xs.foldlM Builtin.min2 (.int k m)).run P w = .ok (.int k n) w
  | [], xs, k, m, n, h, he => by
    have := h.nil_inv; subst this
    simp only [mmI, Option.some.injEq] at he; subst he
    simp
  | p :: ps, xs, k, m, n, h, he => by
    obtain ⟨x, xs', rfl, hx, hxs⟩ := h.cons_inv
    cases p <;> simp only [mmI] at he <;> try (cases he; done)
    rename_i k' q
    split at he
    · rename_i hk
      subst hk
      rw [hx.int_inv]
      simp only [Bool.false_eq_true, if_false] at he
      have := mm_min_sound ps xs' k (if q < m then q else m) n hxs he
      rw [List.foldlM_cons, Sem.run_bind]
      simpa [Builtin.min2] using this
    · cases he

theorem mm_sound {forb : List Nat} {nw : Option Nat} {isMax : Bool} {xs : Array Operand} {ts : Array TypeId} {ty : TypeId} {pv : PV} {ob' : List AObj} (hs : SlotsOk w F l s a) (he : ev forb nw s (.mm isMax (xs.toList.map opx)) = some (pv, ob')) :
    ∃ v, ob' = s.ob ∧ ((if isMax then Builtin.max_ ts ty (xs.map a.eval) else Builtin.min_ ts ty (xs.map a.eval)).run P w = .ok v w) ∧ R1 w F l pv v := by
  have hxs := opxs_sound hs xs.toList
  simp only [ev] at he
  split at he
  · rename_i k m r hv
    simp only [Option.map_eq_some_iff, Prod.mk.injEq] at he
    obtain ⟨n, hn, rfl, rfl⟩ := he
    rw [hv] at hxs
    obtain ⟨x, us, hl, hx, hus⟩ := hxs.cons_inv
    refine ⟨.int k n, rfl, ?_, .int _ _⟩
    cases isMax
    · have := mm_min_sound (P := P) (w := w) r us k m n hus hn
      simp [Builtin.min_, hl, hx.int_inv, this]
    · have := mm_max_sound (P := P) (w := w) r us k m n hus hn
      simp [Builtin.max_, hl, hx.int_inv, this]
  · cases he

end
end Go.Proofs.YtdgpiobmncohjaaGreat.Aw
