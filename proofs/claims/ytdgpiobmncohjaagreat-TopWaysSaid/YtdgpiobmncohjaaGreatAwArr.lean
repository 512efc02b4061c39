/-
  Operations on slices over boxes: that the abstract ones tell the truth of the program's.
-/
import Derived.Test.YtdgpiobmncohjaaGreatAwMap
import Derived.Lib.AppendZerosOnto
import Derived.Deep.AppendSrc
namespace Go.Proofs.YtdgpiobmncohjaaGreat.Aw
open Go.RowKit

section
variable {P : Program} {c : Ctx} {F : Nat → Prop} {l : Locs} {w : World} {s : St} {a : Act}

theorem andThen_assocA {α β γ : Type} (r : Result α) (f : α → World → Result β) (g : β → World → Result γ) : (r.andThen f).andThen g = r.andThen fun x w => (f x w).andThen g := by cases r <;> rfl
theorem out_runA {c : Ctx} {F : Nat → Prop} {l : Locs} {w : World} {res : Result Next} {pv : PV} {ob' : List AObj} {v : Value} {w' : World} {F' : Nat → Prop} {l' : Locs} (h : res = .ok (.value v) w') (R : RepW c F' l' ob' w') (hv : R1 w' F' l' pv v) (m : Mono w F l w' F' l') : Out c w F l res pv ob' :=
  ⟨v, w', F', l', .inl h, R, hv, m⟩
theorem R1.asl_inv {o off n cp : Nat} {v : Value} (h : R1 w F l (.asl o off n cp) v) : ∃ L ad, l o = some L ∧ L.box = true ∧ n ≤ cp ∧ (0 < cp → ad = ⟨L.blk, off, none⟩) ∧ v = .slice (some ad) n cp := by
  cases h with
  | asl h1 h2 h3 h4 => exact ⟨_, _, h1, h2, h3, h4, rfl⟩
theorem R1.nils_inv {v : Value} (h : R1 w F l .nils v) : v = .slice none 0 0 := by cases h; rfl

theorem asI_inv {p : PV} {n : Int} (h : asI p = some n) : ∃ k, p = .int k n := by
  cases p <;> simp only [asI] at h <;> cases h
  exact ⟨_, rfl⟩

/-- One bound of a slicing. -/
theorem bnd_sound (hs : SlotsOk w F l s a) {x : Option Operand} {d m : Int} (h : asBnd x.isSome (s.val (optX x)) d = some m) :
    (x = none ∧ m = d) ∨ ∃ y k, x = some y ∧ a.eval y = .int k m := by
  cases x with
  | none => simp [asBnd] at h; exact .inl ⟨rfl, h.symm⟩
  | some y =>
    simp only [asBnd, Option.isSome_some, if_true, optX] at h
    obtain ⟨k, hk⟩ := asI_inv h
    have := opx_sound hs y
    rw [hk] at this
    exact .inr ⟨y, k, rfl, this.int_inv⟩

theorem sl3_sound {n cp : Nat} {lo hi mx : Option Operand} {li hi' mi : Int} (hs : SlotsOk w F l s a) (hm3 : ¬ (mx.isSome = true ∧ hi.isSome = false)) (h1 : asBnd lo.isSome (s.val (optX lo)) 0 = some li) (h2 : asBnd hi.isSome (s.val (optX hi)) n = some hi') (h3 : asBnd mx.isSome (s.val (optX mx)) cp = some mi)
    (hb : 0 ≤ li ∧ li ≤ hi' ∧ hi' ≤ mi ∧ mi ≤ (cp : Int)) : (Instr.sliceBounds true n cp (lo.map a.eval) (hi.map a.eval) (mx.map a.eval)).run P w = .ok (li.toNat, hi'.toNat, mi.toNat) w := by
  obtain ⟨b1, b2, b3, b4⟩ := hb
  have hmn : ((mi.toNat : Nat) : Int) = mi := by omega
  have hhn : ((hi'.toNat : Nat) : Int) = hi' := by omega
  rcases bnd_sound hs h3 with ⟨rfl, rfl⟩ | ⟨ym, km, rfl, em⟩
  · rcases bnd_sound hs h2 with ⟨rfl, rfl⟩ | ⟨yh, kh, rfl, eh⟩
    · rcases bnd_sound hs h1 with ⟨rfl, rfl⟩ | ⟨yl, kl, rfl, el⟩
      · simp [Instr.sliceBounds]
      · simp [Instr.sliceBounds, el, run_sliceBound w kl li n _ b1 b2]
    · rcases bnd_sound hs h1 with ⟨rfl, rfl⟩ | ⟨yl, kl, rfl, el⟩
      · simp [Instr.sliceBounds, eh, run_sliceBound w kh hi' cp _ (by omega) b3]
      · simp [Instr.sliceBounds, eh, el, run_sliceBound w kh hi' cp _ (by omega) b3, run_sliceBound w kl li hi'.toNat _ b1 (by omega)]
  · rcases bnd_sound hs h2 with ⟨rfl, rfl⟩ | ⟨yh, kh, rfl, eh⟩
    · simp at hm3
    · rcases bnd_sound hs h1 with ⟨rfl, rfl⟩ | ⟨yl, kl, rfl, el⟩
      · simp [Instr.sliceBounds, em, eh, run_sliceBound w km mi cp _ (by omega) b4, run_sliceBound w kh hi' mi.toNat _ (by omega) (by omega)]
      · simp [Instr.sliceBounds, em, eh, el, run_sliceBound w km mi cp _ (by omega) b4, run_sliceBound w kh hi' mi.toNat _ (by omega) (by omega), run_sliceBound w kl li hi'.toNat _ b1 (by omega)]

theorem arrV_sl_asl {e o off n cp bl bh bm lo hi mx pv} (h : arrV (.sl e bl bh bm) [.asl o off n cp, lo, hi, mx] = some pv) :
    ∃ li hi' mi, asBnd bl lo 0 = some li ∧ asBnd bh hi n = some hi' ∧ asBnd bm mx cp = some mi ∧ (0 ≤ li ∧ li ≤ hi' ∧ hi' ≤ mi ∧ mi ≤ (cp : Int)) ∧ pv = .asl o (off + li.toNat * e) (hi' - li).toNat (mi - li).toNat := by
  simp only [arrV, aslB] at h
  split at h
  · rename_i li hi' mi h1 h2 h3
    split at h
    · rename_i hc
      cases h
      exact ⟨li, hi', mi, h1, h2, h3, hc, rfl⟩
    · cases h
  · cases h
theorem arrV_sl_nils {e bl bh bm lo hi mx pv} (h : arrV (.sl e bl bh bm) [.nils, lo, hi, mx] = some pv) :
    asBnd bl lo 0 = some 0 ∧ asBnd bh hi 0 = some 0 ∧ asBnd bm mx 0 = some 0 ∧ pv = .nils := by
  simp only [arrV, nilB] at h
  split at h
  · rename_i li hi' mi h1 h2 h3
    split at h
    · rename_i hc
      obtain ⟨rfl, rfl, rfl⟩ := hc
      cases h
      exact ⟨h1, h2, h3, rfl⟩
    · cases h
  · cases h

theorem arrV_len_inv {p pv : PV} (h : arrV .len [p] = some pv) : (∃ o off n cp, p = .asl o off n cp ∧ pv = .int .i64 n) ∨ (p = .nils ∧ pv = .int .i64 0) := by
  cases p <;> simp only [arrV] at h <;> cases h
  · exact .inr ⟨rfl, rfl⟩
  · exact .inl ⟨_, _, _, _, rfl, rfl⟩
theorem arrV_cap_inv {p pv : PV} (h : arrV .cap [p] = some pv) : (∃ o off n cp, p = .asl o off n cp ∧ pv = .int .i64 cp) ∨ (p = .nils ∧ pv = .int .i64 0) := by
  cases p <;> simp only [arrV] at h <;> cases h
  · exact .inr ⟨rfl, rfl⟩
  · exact .inl ⟨_, _, _, _, rfl, rfl⟩
theorem arrV_isnil_inv {neg : Bool} {p pv : PV} (h : arrV (.isnil neg) [p] = some pv) : (∃ o off n cp, p = .asl o off n cp ∧ pv = .bool neg) ∨ (p = .nils ∧ pv = .bool (!neg)) := by
  cases p <;> simp only [arrV] at h <;> cases h
  · exact .inr ⟨rfl, rfl⟩
  · exact .inl ⟨_, _, _, _, rfl, rfl⟩
theorem arrV_ix_inv {e : Nat} {p q pv : PV} (h : arrV (.ix e) [p, q] = some pv) : ∃ o off n cp k i, p = .asl o off n cp ∧ q = .int k i ∧ 0 ≤ i ∧ i < (n : Int) ∧ pv = .ref o (off + i.toNat * e) := by
  cases p with
  | asl o off n cp =>
    cases q with
    | int k i =>
      simp only [arrV] at h
      split at h
      · rename_i hc; cases h; exact ⟨o, off, n, cp, k, i, rfl, rfl, hc.1, hc.2, rfl⟩
      · cases h
    | _ => simp [arrV] at h
  | _ => simp [arrV] at h
theorem arrV_sl_inv {e : Nat} {a b d : Bool} {p x y z pv : PV} (h : arrV (.sl e a b d) [p, x, y, z] = some pv) : (∃ o off n cp, p = .asl o off n cp) ∨ p = .nils := by
  cases p <;> first | exact .inl ⟨_, _, _, _, rfl⟩ | exact .inr rfl | (simp [arrV] at h)

theorem arr_of {forb : List Nat} {nw : Option Nat} {op : ArrOp} {xs : List AX} {pv : PV} {ob' : List AObj} (he : ev forb nw s (.arr op xs) = some (pv, ob')) : ob' = s.ob ∧ arrV op (xs.map s.val) = some pv := by
  simp only [ev, Option.map_eq_some_iff, Prod.mk.injEq] at he
  obtain ⟨v, h1, rfl, rfl⟩ := he
  exact ⟨rfl, h1⟩

/-- Those that change no object. -/
theorem arr_sound {forb : List Nat} {nw : Option Nat} {o : Oper} {ao : AO} {pv : PV} {ob' : List AObj} (hc : cArrE P o = some ao) (R : RepW c F l s.ob w) (hs : SlotsOk w F l s a) (he : ev forb nw s ao = some (pv, ob')) :
    Out c w F l ((execOp a.eval o).run P w) pv ob' := by
  unfold cArrE at hc
  split at hc
  · -- a literal
    rename_i t len parts hop
    split at hc
    · rename_i e hu
      split at hc
      · rename_i i z hz
        split at hc
        · rename_i hcond
          simp only [Option.some.injEq] at hc
          subst hc
          obtain ⟨h1, h2, h3, h4⟩ := zcells_spec hz
          simp only [ev, Option.bind_eq_some_iff] at he
          obtain ⟨rows, hrows, he⟩ := he
          have hzl : (z.cells.toList.map cvS).length = i.size := by simp [h3]
          rw [hzl] at hrows
          have hrep : ∀ r ∈ List.replicate len (z.cells.toList.map cvS), r.length = i.size := fun r hr => by rw [List.eq_of_mem_replicate hr, hzl]
          obtain ⟨hfill, hlen, hcount⟩ := fillR_fillA _ _ rows hrep hrows
          rw [List.length_replicate] at hcount
          split at he
          · rename_i hcell
            have hrun : ∃ cells, (Instr.buildSlice t len (parts.map fun (i, x) => (i, a.eval x))).run P w = .ok (.slice (some ⟨w.heap.size, 0, none⟩) len len) (w.alloc (.cells cells e)) ∧ RL w F l rows.flatten cells.toList := by
              by_cases h0 : len * i.size = 0
              · obtain ⟨hp, hl0⟩ := hcond.2 h0
                subst hl0
                have hpe : parts = #[] := by apply Array.ext'; simpa using hp
                have hre : rows = [] := List.eq_nil_of_length_eq_zero hcount
                subst hpe; subst hre
                exact ⟨#[], by simp [Instr.buildSlice, run_underlying hu, sizeOf_run h1, Instr.fill, newRow, Array.range_zero'], RL.nil⟩
              · have hmade : RL w F l (List.replicate len (z.cells.toList.map cvS)).flatten (madeCells z.cells (len * i.size)).toList := by
                  rw [← h3, made_list]
                  have : ∀ n, RL w F l (List.replicate n (z.cells.toList.map cvS)).flatten (List.replicate n z.cells.toList).flatten := by
                    intro n
                    induction n with
                    | zero => exact RL.nil
                    | succ n ih => rw [List.replicate_succ, List.replicate_succ, List.flatten_cons, List.flatten_cons]; exact (RL_cvS _).append ih
                  exact this len
                obtain ⟨cells', hf, hr⟩ := fill_sound (place := fun j => some (j * i.size, i.size)) hs parts.toList (parts.toList.map fun p => (p.1 * i.size, i.size, opx p.2)) (mapM_some _ _) _ rows.flatten _ hmade (by
                  rw [List.map_map] at hfill
                  exact hfill)
                refine ⟨cells', ?_, hr⟩
                refine run_buildSlice w t e len _ cells' i z hu h1 h2 (by omega) h0 ?_
                rw [Array.toList_map]
                exact hf
            obtain ⟨cells, hrun, hr⟩ := hrun
            have hone := hr.oneCell hcell
            simp only [Option.map_eq_some_iff] at he
            obtain ⟨⟨k, ob1⟩, hmk, he⟩ := he
            simp only [Prod.mk.injEq] at he
            obtain ⟨rfl, rfl⟩ := he
            obtain ⟨l', R', m', hv⟩ := new_box R (w' := w.alloc (.cells cells e)) below_alloc (e := e) (cv := cells.toList) (by rw [alloc_heap]) hr hone hmk
            refine out_runA (v := .slice (some ⟨w.heap.size, 0, none⟩) len len) (w' := w.alloc (.cells cells e)) (by simp only [execOp, hop, Sem.run_bind]; rw [hrun]; simp only [Result.andThen_ok, Sem.run_pure]) R' ?_ m'
            obtain ⟨L, g1, g2, g3⟩ := hv.ref_inv
            simp only [Value.pointer.injEq, Option.some.injEq] at g3
            rw [hcount]
            exact .asl g1 g2 (Nat.le_refl _) fun _ => g3
          · cases he
        · cases hc
      · cases hc
    · cases hc
  · -- an element's place
    rename_i t x i hop
    split at hc
    · rename_i e hu
      simp only [Option.map_eq_some_iff] at hc
      obtain ⟨ie, hie, rfl⟩ := hc
      obtain ⟨rfl, hv⟩ := arr_of he
      have hx := opx_sound hs x
      have hi := opx_sound hs i
      simp only [List.map_cons, List.map_nil] at hv
      generalize s.val (opx x) = px at hv hx
      generalize s.val (opx i) = pi at hv hi
      obtain ⟨o', off, n, cp, k, j, rfl, rfl, c1, c2, rfl⟩ := arrV_ix_inv hv
      obtain ⟨L, ad, g1, g2, g3, g4, g5⟩ := hx.asl_inv
      have := g4 (by omega)
      subst this
      refine Out.same R (v := .pointer (some ⟨L.blk, off + j.toNat * ie.size, none⟩)) ?_ (.ref g1 g2)
      simp only [execOp, hop, g5, hi.int_inv]
      simp [Instr.indexAt, run_underlying hu, asIntOf, c1, c2, sizeOf_run hie, Addr.add_lit]
    · cases hc
  · -- a slicing
    rename_i t x lo hi mx hop
    split at hc
    · rename_i e hu
      split at hc
      · cases hc
      rename_i hm3
      simp only [Option.map_eq_some_iff] at hc
      obtain ⟨ie, hie, rfl⟩ := hc
      obtain ⟨rfl, hv⟩ := arr_of he
      have hx := opx_sound hs x
      simp only [List.map_cons, List.map_nil] at hv
      generalize s.val (opx x) = px at hv hx
      have hpx := arrV_sl_inv hv
      rcases hpx with ⟨o, off, n, cp, rfl⟩ | rfl
      · obtain ⟨li, hi', mi, h1, h2, h3, hb, rfl⟩ := arrV_sl_asl hv
        obtain ⟨L, ad, g1, g2, g3, g4, g5⟩ := hx.asl_inv
        have hrun := sl3_sound (P := P) hs hm3 h1 h2 h3 hb
        obtain ⟨b1, b2, b3, b4⟩ := hb
        refine Out.same R (v := .slice (if mi.toNat = li.toNat then some ad else some (ad.add (li.toNat * ie.size))) (hi'.toNat - li.toNat) (mi.toNat - li.toNat)) ?_ ?_
        · simp only [execOp, hop, g5, Instr.sliceAt, Sem.run_bind, run_underlying hu, Result.andThen_ok, Instr.slice, hrun, sizeOf_run hie, Sem.run_pure, Option.map_some]
        · have e1 : hi'.toNat - li.toNat = (hi' - li).toNat := by omega
          have e2 : mi.toNat - li.toNat = (mi - li).toNat := by omega
          rw [e1, e2]
          by_cases hml : mi.toNat = li.toNat
          · rw [if_pos hml]
            exact .asl g1 g2 (by omega) fun h => by omega
          · rw [if_neg hml]
            refine .asl g1 g2 (by omega) fun _ => ?_
            rw [g4 (by omega), Addr.add_lit]
      · obtain ⟨h1, h2, h3, rfl⟩ := arrV_sl_nils hv
        have hrun := sl3_sound (P := P) (n := 0) (cp := 0) hs hm3 h1 h2 h3 (by omega)
        refine Out.same R (v := .slice none 0 0) ?_ .nils
        simp only [execOp, hop, hx.nils_inv, Instr.sliceAt, Sem.run_bind, run_underlying hu, Result.andThen_ok, Instr.slice, hrun, sizeOf_run hie, Sem.run_pure, Option.map_none]
        simp
    · cases hc
  · rename_i t x yt hop
    split at hc
    · rename_i e hu
      simp only [Option.some.injEq] at hc; subst hc
      obtain ⟨rfl, hv⟩ := arr_of he
      have hx := opx_sound hs x
      simp only [List.map_cons, List.map_nil] at hv
      have hrun : (execOp a.eval o).run P w = ((do eqGuard .eql t x (.const (.slice none 0 0)) (a.eval x) (.slice none 0 0); binOp .eql t (a.eval x) (.slice none 0 0)).run P w).andThen fun v w => .ok (.value v) w := by
        simp only [execOp, hop, Sem.run_bind, Sem.run_pure, andThen_assocA]; rfl
      rw [hrun]
      generalize s.val (opx x) = px at hv hx
      rcases arrV_isnil_inv hv with ⟨o', off, n, cp, rfl, rfl⟩ | ⟨rfl, rfl⟩
      · obtain ⟨L, ad, g1, g2, g3, g4, g5⟩ := hx.asl_inv
        have h1 := Lib.run_eql_slice_nil (P := P) w t e (some ad) n cp 0 0 hu
        exact Out.same R (v := .bool false) (by rw [g5]; simp only [eqGuard] at h1 ⊢; simpa using congrArg (fun r => r.andThen fun v w => .ok (Next.value v) w) h1) (.bool _)
      · have h1 := Lib.run_eql_slice_nil (P := P) w t e none 0 0 0 0 hu
        exact Out.same R (v := .bool true) (by rw [hx.nils_inv]; simp only [eqGuard] at h1 ⊢; simpa using congrArg (fun r => r.andThen fun v w => .ok (Next.value v) w) h1) (.bool _)
    · cases hc
  · rename_i t x yt hop
    split at hc
    · rename_i e hu
      simp only [Option.some.injEq] at hc; subst hc
      obtain ⟨rfl, hv⟩ := arr_of he
      have hx := opx_sound hs x
      simp only [List.map_cons, List.map_nil] at hv
      have hrun : (execOp a.eval o).run P w = ((do eqGuard .neq t x (.const (.slice none 0 0)) (a.eval x) (.slice none 0 0); binOp .neq t (a.eval x) (.slice none 0 0)).run P w).andThen fun v w => .ok (.value v) w := by
        simp only [execOp, hop, Sem.run_bind, Sem.run_pure, andThen_assocA]; rfl
      rw [hrun]
      generalize s.val (opx x) = px at hv hx
      rcases arrV_isnil_inv hv with ⟨o', off, n, cp, rfl, rfl⟩ | ⟨rfl, rfl⟩
      · obtain ⟨L, ad, g1, g2, g3, g4, g5⟩ := hx.asl_inv
        have h1 := nslice (P := P) w t e (some ad) n cp 0 0 hu
        exact Out.same R (v := .bool true) (by rw [g5]; simp only [eqGuard] at h1 ⊢; simpa using congrArg (fun r => r.andThen fun v w => .ok (Next.value v) w) h1) (.bool _)
      · have h1 := nslice (P := P) w t e none 0 0 0 0 hu
        exact Out.same R (v := .bool false) (by rw [hx.nils_inv]; simp only [eqGuard] at h1 ⊢; simpa using congrArg (fun r => r.andThen fun v w => .ok (Next.value v) w) h1) (.bool _)
    · cases hc
  · -- len
    rename_i args ts hop
    split at hc
    · rename_i x t ha ht
      split at hc
      · rename_i e hu
        simp only [Option.some.injEq] at hc; subst hc
        obtain ⟨rfl, hv⟩ := arr_of he
        have hx := opx_sound hs x
        simp only [List.map_cons, List.map_nil] at hv
        have ha' : args = #[x] := by apply Array.ext'; simpa using ha
        have ht' : ts = #[t] := by apply Array.ext'; simpa using ht
        subst ha'; subst ht'
        generalize s.val (opx x) = px at hv hx
        rcases arrV_len_inv hv with ⟨o', off, n, cp, rfl, rfl⟩ | ⟨rfl, rfl⟩
        · obtain ⟨L, ad, g1, g2, g3, g4, g5⟩ := hx.asl_inv
          exact Out.same R (v := .int .i64 n) (by simp [execOp, hop, resolve, invoke, builtin, g5, Builtin.len_, run_underlying hu, goInt]) (.int _ _)
        · exact Out.same R (v := .int .i64 0) (by simp [execOp, hop, resolve, invoke, builtin, hx.nils_inv, Builtin.len_, run_underlying hu, goInt]) (.int _ _)
      · cases hc
    · cases hc
  · -- cap
    rename_i args ts hop
    split at hc
    · rename_i x t ha ht
      split at hc
      · rename_i e hu
        simp only [Option.some.injEq] at hc; subst hc
        obtain ⟨rfl, hv⟩ := arr_of he
        have hx := opx_sound hs x
        simp only [List.map_cons, List.map_nil] at hv
        have ha' : args = #[x] := by apply Array.ext'; simpa using ha
        have ht' : ts = #[t] := by apply Array.ext'; simpa using ht
        subst ha'; subst ht'
        generalize s.val (opx x) = px at hv hx
        rcases arrV_cap_inv hv with ⟨o', off, n, cp, rfl, rfl⟩ | ⟨rfl, rfl⟩
        · obtain ⟨L, ad, g1, g2, g3, g4, g5⟩ := hx.asl_inv
          exact Out.same R (v := .int .i64 cp) (by simp [execOp, hop, resolve, invoke, builtin, g5, Builtin.cap_, run_underlying hu, goInt]) (.int _ _)
        · exact Out.same R (v := .int .i64 0) (by simp [execOp, hop, resolve, invoke, builtin, hx.nils_inv, Builtin.cap_, run_underlying hu, goInt]) (.int _ _)
      · cases hc
    · cases hc
  · cases hc

end
end Go.Proofs.YtdgpiobmncohjaaGreat.Aw
