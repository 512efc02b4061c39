/-
  That the abstract operations tell the truth: a strings.Builder of the call's own.
-/
import Derived.Test.YtdgpiobmncohjaaGreatAwSnd5
namespace Go.Proofs.YtdgpiobmncohjaaGreat.Aw
open Go.RowKit

section
variable {P : Program} {c : Ctx} {F : Nat → Prop} {l : Locs} {w : World} {s : St} {a : Act}

def isBuilderZero : List Value → Bool
  | [.pointer none, .slice none 0 0] => true
  | _ => false

def cBalloc (P : Program) (e : TypeId) : Option AO :=
  match zcells P e with
  | some (_, z) =>
    if isBuilderZero z.cells.toList then
      match P.underlying e with
      | some (.struct fs) => match fs[1]? with
        | some fd => match P.underlying fd.type with
          | some (.slice u) => some (.balloc e u)
          | _ => none
        | none => none
      | _ => none
    else none
  | none => none

theorem balloc_sound {forb : List Nat} {nw : Option Nat} {e : TypeId} {ao : AO} {pv : PV} {ob' : List AObj} (hc : cBalloc P e = some ao) (R : RepW c F l s.ob w) (he : ev forb nw s ao = some (pv, ob')) :
    ∃ v w' l', (Instr.alloc e true (.tuple #[])).run P w = .ok v w' ∧ RepW c F l' ob' w' ∧ Mono w F l w' F l' ∧ R1 w' F l' pv v := by
  unfold cBalloc at hc
  split at hc
  · rename_i i z hz
    split at hc
    · rename_i hzero
      split at hc
      · split at hc
        · split at hc
          · rename_i u _
            simp only [Option.some.injEq] at hc; subst hc
            obtain ⟨h1, h2, h3, h4⟩ := zcells_spec hz
            simp only [ev] at he
            split at he
            · simp only [Option.some.injEq, Prod.mk.injEq] at he
              obtain ⟨rfl, rfl⟩ := he
              have hcv : z.cells.toList = [.pointer none, .slice none 0 0] := by
                unfold isBuilderZero at hzero
                split at hzero
                · assumption
                · cases hzero
              have hcells : z.cells = ([.pointer none, .slice none 0 0] : List Value).toArray := by rw [← hcv]
              have hB : Below w.heap.size w (w.alloc (.cells z.cells e)) := below_alloc
              obtain ⟨R1', m1⟩ := R.ext hB
              have hnone : l s.ob.length = none := by
                cases hl : l s.ob.length with
                | none => rfl
                | some L => exact absurd (R.lt _ L hl) (Nat.lt_irrefl _)
              let L1 : Loc := ⟨0, 0, 0, 0, 0, 1, true, false⟩
              obtain ⟨R2, m2⟩ := R1'.new (ob' := s.ob ++ [.buf u []]) (L := L1) (i := s.ob.length) (a := .buf u []) hnone (by simp) (by simp) (by simp) (fun j hj hlt => by
                  simp only [List.length_append, List.length_cons, List.length_nil] at hlt
                  rw [List.getElem?_append_left (by omega)])
                (fun m => ⟨rfl, rfl, rfl, rfl, rfl, .inl ⟨rfl, rfl⟩⟩) (fun h => nomatch h)
              have hnone2 : (updL l s.ob.length L1) (s.ob.length + 1) = none := by
                rw [updL_ne _ _ (by omega)]
                cases hl : l (s.ob.length + 1) with
                | none => rfl
                | some L => have := R.lt _ L hl; omega
              let L2 : Loc := ⟨w.heap.size, 0, 0, 0, 0, 0, false, true⟩
              obtain ⟨R3, m3⟩ := R2.new (ob' := s.ob ++ [.buf u []] ++ [.tbox e [.nilp, .osl s.ob.length 0 0]]) (L := L2) (i := s.ob.length + 1) (a := .tbox e [.nilp, .osl s.ob.length 0 0]) hnone2 (by simp) (by simp)
                (by rw [List.getElem?_append_right (by simp)]; simp) (fun j hj hlt => by
                  simp only [List.length_append, List.length_cons, List.length_nil] at hlt
                  rw [List.getElem?_append_left (by simp; omega)])
                (fun m => ⟨rfl, rfl, [.pointer none, .slice none 0 0], by
                    show (w.alloc (.cells z.cells e)).heap[w.heap.size]? = _
                    rw [alloc_heap, hcells], .cons .nilp (.cons (.osl (L := L1) (by rw [updL_ne _ _ (by omega), updL_same]) rfl (by simp [L1]) ⟨_, _, _, rfl⟩ fun _ => .inl ⟨rfl, rfl, rfl, rfl⟩) .nil), by simp [Value.oneCell']⟩)
                (fun _ => ⟨R.below.size, by show w.heap.size < (w.heap.push _).size; simp, fun hF => absurd (R.flt _ hF) (Nat.lt_irrefl _), fun o L' ho hn e => by
                  by_cases ho' : o = s.ob.length
                  · subst ho'; rw [updL_same] at ho; cases ho; cases hn
                  · rw [updL_ne _ _ ho'] at ho
                    have := (R.own o L' ho hn).2.1; simp only [L2] at e; omega⟩)
              exact ⟨_, _, _, by simp [Instr.alloc, zeroValue_run h1 h2, newVar, newRow]; rfl, R3, (m1.trans m2).trans m3, .ref (updL_same _ _ _) rfl⟩
            · cases he
          · cases hc
        · cases hc
      · cases hc
    · cases hc
  · cases hc

/- append of a string's bytes -/
def isByteInfo (i : TypeInfo) : Bool := (match i.zero with | some (.int .u8 0) => true | _ => false) && i.size == 1 && i.bytes == 1

def cApps (P : Program) (t t' : TypeId) (x y : Operand) : Option AO :=
  match P.underlying t with
  | some (.slice e) => match P.info? e, P.underlying t' with
    | some i, some .string => if isByteInfo i then some (.apps e (opx x) (opx y)) else none
    | _, _ => none
  | _ => none

theorem strCells_mk (b : List UInt8) : Lib.strCells ⟨b.toArray⟩ = Lib.byteCells b := by
  rw [Lib.strCells_eq]

theorem apps_sound {forb : List Nat} {nw : Option Nat} {t t' ty : TypeId} {x y : Operand} {ao : AO} {pv : PV} {ob' : List AObj} (hc : cApps P t t' x y = some ao) (R : RepW c F l s.ob w) (hs : SlotsOk w F l s a) (he : ev forb nw s ao = some (pv, ob')) :
    ∃ v w' F' l', (Builtin.append_ #[t, t'] ty #[a.eval x, a.eval y]).run P w = .ok v w' ∧ RepW c F' l' ob' w' ∧ Mono w F l w' F' l' ∧ R1 w' F' l' pv v := by
  have hx := opx_sound hs x
  have hy := opx_sound hs y
  unfold cApps at hc
  split at hc
  · rename_i e hu
    split at hc
    · rename_i i hi hu'
      split at hc
      · rename_i hby
        simp only [Option.some.injEq] at hc; subst hc
        simp only [isByteInfo, Bool.and_eq_true, beq_iff_eq] at hby
        obtain ⟨⟨hz0, hsz⟩, hbt⟩ := hby
        have hz : i.zero = some (.int .u8 0) := by
          split at hz0
          · assumption
          · cases hz0
        simp only [ev] at he
        split at he
        · rename_i b hvy
          rw [hvy] at hy
          split at he
          · rename_i hbl
            split at he
            · rename_i o n hvx
              rw [hvx] at hx
              split at he
              · cases he
              · split at he
                · rename_i u bs hob
                  split at he
                  · rename_i hcond
                    obtain ⟨rfl, hn, hbsl⟩ := hcond
                    simp only [Option.some.injEq, Prod.mk.injEq] at he
                    obtain ⟨rfl, rfl⟩ := he
                    rw [hy.str_inv]
                    generalize a.eval x = v at hx
                    have hbsz : (⟨b.toArray⟩ : ByteArray).size = b.length := by simp [ByteArray.size]
                    obtain ⟨L, g1, g2, g3⟩ := buf_val R hx hob hn
                    obtain ⟨h3, h4, h5, h6, h7, h8⟩ := g2
                    have hnl : n + b.length ≤ 33554432 := by omega
                    have hstr : (Lib.strCells ⟨b.toArray⟩) = Lib.byteCells b := strCells_mk b
                    rcases g3 with ⟨k1, k2, k3⟩ | ⟨k1, k2, k3⟩
                    · -- nothing yet
                      subst k2; subst k3
                      have hn0 : n = 0 := by simpa using hn
                      subst hn0
                      obtain ⟨v', w', hrun, hown', ⟨gg1, gg2, gg3, gg4, gg5⟩, hnil⟩ := Lib.run_append_own_stringF (P := P) w w.heap.size t t' ty u i hu hu' hi hz hsz hbt (.slice none 0 0) 0 [] (World.ownsRowF_nil w _ _ _) ⟨b.toArray⟩ (by rw [hbsz]; unfold maxLen; omega) (by rw [hbsz]; omega) (Nat.le_refl _)
                      rw [hbsz, hstr] at hown'
                      simp only [Nat.zero_add, List.nil_append] at hown'
                      by_cases hbe : b = []
                      · subst hbe
                        have hv' : v' = .slice none 0 0 := hnil.2 ⟨rfl, by simp [ByteArray.size]⟩
                        obtain ⟨R', m'⟩ := R.change (w' := w') (L := L) (L' := L) (a' := .buf u ([] ++ [])) g1 (R.lt o L g1) gg1 gg2 gg3 gg4 (fun k hk _ => gg5 k hk (by simp [Value.ownBlock])) (.inl rfl) (fun h => by rw [k1] at h; cases h)
                          (fun m => ⟨h3, h4, h5, h6, h7, .inl ⟨k1, rfl⟩⟩)
                        exact ⟨v', w', F, _, hrun, R', m', by rw [hv']; exact .osl (updL_same _ _ _) h3 (by rw [h4]; simp) ⟨_, _, _, rfl⟩ fun _ => .inl ⟨k1, rfl, rfl, rfl⟩⟩
                      · have hbpos : 0 < b.length := List.length_pos_iff.2 hbe
                        rcases hown'.2 with ⟨q, q'⟩ | ⟨g, cap, cur, fz, hv', hg1, hg2, hg3, hg4, hg5, hg6, hg7⟩
                        · omega
                        · have hlt : g < w'.heap.size := lt_of_cells hg2
                          let L' : Loc := ⟨g, 0, 0, cap, b.length, 1, false, false⟩
                          obtain ⟨R', m'⟩ := R.change (w' := w') (L := L) (L' := L') (a' := .buf u ([] ++ b)) g1 (R.lt o L g1) gg1 gg2 gg3 gg4 (fun k hk _ => gg5 k hk (by simp [Value.ownBlock])) (.inr ⟨h3, rfl, by rw [h4]; exact hbpos⟩) (fun _ => .inr ⟨hg1, hlt⟩)
                            (fun m => ⟨rfl, rfl, rfl, rfl, rfl, .inr ⟨rfl, hbe, cur, fz, hg2, by simpa using hg3, hg4, hg5, by simpa using hg6, by simpa using hg7⟩⟩)
                          refine ⟨v', w', F, _, hrun, R', m', ?_⟩
                          rw [hv', Nat.zero_add]
                          exact .osl (updL_same _ _ _) rfl (by simp [L']) ⟨_, _, _, rfl⟩ fun _ => .inr ⟨rfl, Nat.le_refl _, _, rfl, fun _ => by simp [L']⟩
                    · rcases h8 with ⟨q, _⟩ | ⟨q1, q2, cc, fz, q3, q4, q5, q6, q7, q8⟩
                      · rw [q] at k1; cases k1
                      · by_cases hroom : n + b.length ≤ L.cap
                        · have hrun := Lib.run_append_room_stringF (P := P) w t t' ty u i hu hu' hi hsz L.blk n L.cap cc fz q3 (by omega) ⟨b.toArray⟩ (by rw [hbsz]; exact hroom) (by rw [hbsz]; omega)
                          rw [hbsz, hstr] at hrun
                          have hb4 := setRow_below (w := w) (g := L.blk) (cc.toList.take n ++ Lib.byteCells b ++ cc.toList.drop (n + b.length)).toArray
                          by_cases hbe : b = []
                          · subst hbe
                            obtain ⟨R', m'⟩ := R.change (L := L) (L' := L) (a' := .buf u (bs ++ [])) g1 (R.lt o L g1) hb4.1 hb4.2.1 hb4.2.2.1 (Nat.le_of_eq hb4.2.2.2.symm) (fun k _ hk => setRow_other w _ _ _ (hk k1)) (.inl rfl) (fun _ => .inl ⟨k1, rfl⟩)
                              (fun m => ⟨h3, by simpa using h4, h5, h6, h7, .inr ⟨k1, by simpa using q2, _, fz, setRow_heap w L.blk cc _ u fz q3, by simpa using q4, by simpa using q5, q6, by simp [Lib.byteCells]; omega, by
                                rw [List.append_nil, hn, show Lib.byteCells ([] : List UInt8) = [] from rfl, List.append_nil, List.length_nil, Nat.add_zero, List.take_append_drop]; exact q8⟩⟩)
                            refine ⟨_, _, F, _, by rw [k3]; exact hrun, R', m', ?_⟩
                            exact .osl (updL_same _ _ _) h3 (by rw [h4, hn]; simp) ⟨_, _, _, rfl⟩ fun _ => .inr ⟨k1, by omega, _, rfl, fun _ => by simp [h6, h7]⟩
                          · have hbpos : 0 < b.length := List.length_pos_iff.2 hbe
                            let L' : Loc := ⟨L.blk, 0, 0, L.cap, (bs ++ b).length, 1, false, false⟩
                            obtain ⟨R', m'⟩ := R.change (L := L) (L' := L') (a' := .buf u (bs ++ b)) g1 (R.lt o L g1) hb4.1 hb4.2.1 hb4.2.2.1 (Nat.le_of_eq hb4.2.2.2.symm) (fun k _ hk => setRow_other w _ _ _ (hk k1)) (.inr ⟨h3, rfl, by rw [h4]; simp [L']; omega⟩) (fun _ => .inl ⟨k1, rfl⟩)
                              (fun m => ⟨rfl, rfl, rfl, rfl, rfl, .inr ⟨rfl, by simp [hbe], _, fz, setRow_heap w L.blk cc _ u fz q3, by simp; omega, by simp [L']; omega, q6, by simp [Lib.byteCells_length, L']; omega, by
                                have hl : (cc.toList.take n ++ Lib.byteCells b).length = (bs ++ b).length := by simp [Lib.byteCells_length]; omega
                                rw [← hl]
                                show List.take _ (cc.toList.take n ++ Lib.byteCells b ++ cc.toList.drop (n + b.length)) = _
                                rw [List.take_left, Lib.byteCells_append, ← q8, hn]⟩⟩)
                            refine ⟨_, _, F, _, by rw [k3]; exact hrun, R', m', ?_⟩
                            exact .osl (updL_same _ _ _) rfl (by simp [L', hn]) ⟨_, _, _, rfl⟩ fun _ => .inr ⟨rfl, Nat.le_refl _, _, rfl, fun _ => by simp [L']⟩
                        · have hcell : ∀ j x, (Lib.byteCells bs)[j]? = some x → w.cell? ((⟨L.blk, 0, none⟩ : Addr).add j) = some x := by
                            intro j x hx
                            rw [Addr.add_lit, Nat.zero_add, cell_of_block q3, ← Array.getElem?_toList]
                            rw [← q8, List.getElem?_take] at hx
                            split at hx
                            · exact hx
                            · cases hx
                          have hbnz : 0 < b.length := by omega
                          have hrun := Lib.run_append_grow_string (P := P) w t t' ty u i (.int .u8 0) hu hu' hi hz ⟨L.blk, 0, none⟩ n L.cap (Lib.byteCells bs) (by rw [hsz, Lib.byteCells_length]; omega) hcell ⟨b.toArray⟩ (by rw [hbsz]; omega) (by rw [hbsz]; omega) (by rw [hbt, hbsz]; have := fits48 (need := n + b.length) (cap := L.cap) (bytes := 1) (by omega) hnl (by omega); omega)
                          rw [hbsz, hstr] at hrun
                          have hge := grownCap_ge' w (n + b.length) L.cap u
                          have hcm : grownCap w (n + b.length) L.cap u ≤ maxLen := grownCap_le_maxLen w (n + b.length) L.cap u (by unfold maxLen; omega)
                          generalize grownCap w (n + b.length) L.cap u = cap at hrun hge hcm
                          let L' : Loc := ⟨w.heap.size, 0, 0, cap, (bs ++ b).length, 1, false, false⟩
                          obtain ⟨R', m'⟩ := R.change (L := L) (L' := L') (w' := w.drew.alloc (.cells ((Lib.byteCells bs).toArray ++ (Lib.byteCells b).toArray ++ Builtin.zeroCells (Value.int .u8 0).cells (cap - (n + b.length))) u)) (a' := .buf u (bs ++ b)) g1 (R.lt o L g1) rfl rfl rfl (by simp) (fun k hk _ => by
                              show (w.heap.push _)[k]? = _
                              rw [Array.getElem?_push]; rw [if_neg (by omega)]) (.inr ⟨h3, rfl, by rw [h4]; simp [L']; omega⟩) (fun _ => .inr ⟨Nat.le_refl _, by show w.heap.size < (w.heap.push _).size; simp⟩)
                            (fun m => ⟨rfl, rfl, rfl, rfl, rfl, .inr ⟨rfl, by simp [q2], _, (0, 0), drew_alloc_heap w _, Nat.zero_le _, by simp [L']; omega, hcm, by
                              have hz1 : (Value.int IntKind.u8 0).cells.size = 1 := rfl
                              simp only [Array.size_append, List.size_toArray, size_zeroCells, hz1, Lib.byteCells_length, L']
                              omega, by
                              have hl : (Lib.byteCells bs ++ Lib.byteCells b).length = (bs ++ b).length := by simp [Lib.byteCells_length]
                              simp only [Array.toList_append]
                              rw [← hl, List.take_left, Lib.byteCells_append]⟩⟩)
                          refine ⟨_, _, F, _, by rw [k3]; exact hrun, R', m', ?_⟩
                          exact .osl (updL_same _ _ _) rfl (by simp [L', hn]) ⟨_, _, _, rfl⟩ fun _ => .inr ⟨rfl, Nat.le_refl _, _, rfl, fun _ => by simp [L']⟩
                  · cases he
                · cases he
            · cases he
          · cases he
        · cases he
      · cases hc
    · cases hc
  · cases hc

/- the bytes of a buffer as a string -/
theorem usd_sound {forb : List Nat} {nw : Option Nat} {t ty : TypeId} {x : Operand} {pv : PV} {ob' : List AObj} (R : RepW c F l s.ob w) (hs : SlotsOk w F l s a) (he : ev forb nw s (.usd (opx x)) = some (pv, ob')) :
    ∃ v, ob' = s.ob ∧ (Builtin.unsafeSliceData_ #[t] ty #[a.eval x]).run P w = .ok v w ∧ R1 w F l pv v := by
  have hx := opx_sound hs x
  simp only [ev] at he
  split at he
  · rename_i o n hvx
    rw [hvx] at hx
    split at he
    · cases he
    · split at he
      · rename_i u bs hob
        split at he
        · rename_i hn
          simp only [Option.some.injEq, Prod.mk.injEq] at he
          obtain ⟨rfl, rfl⟩ := he
          generalize a.eval x = v at hx
          obtain ⟨L, g1, g2, g3⟩ := buf_val R hx hob hn
          obtain ⟨h3, h4, h5, h6, h7, h8⟩ := g2
          rcases g3 with ⟨k1, k2, k3⟩ | ⟨k1, k2, k3⟩
          · subst k3
            refine ⟨.pointer none, rfl, Lib.run_unsafeSliceData_nil w _ _ _ _, ?_⟩
            rw [if_pos (by rw [hn, k2]; rfl)]; exact .nilp
          · subst k3
            have hpos : 0 < bs.length := List.length_pos_iff.2 k2
            rcases h8 with ⟨q, _⟩ | ⟨q1, q2, cc, fz, q3, q4, q5, q6, q7, q8⟩
            · rw [q] at k1; cases k1
            · refine ⟨_, rfl, Lib.run_unsafeSliceData_row w _ _ _ _ _ (by omega), ?_⟩
              rw [if_neg (by omega)]
              exact .lref g1 h3 (by omega) ⟨_, rfl⟩ fun _ => ⟨by omega, by simp [h6, h7]⟩
        · cases he
      · cases he
  · cases he

def cUst (P : Program) (pt : TypeId) (x y : Operand) : Option AO :=
  match P.underlying pt with
  | some (.pointer e) => if P.cellsOf e = 1 then some (.ust e (opx x) (opx y)) else none
  | _ => none

theorem ust_sound {forb : List Nat} {nw : Option Nat} {pt it ty : TypeId} {x y : Operand} {ao : AO} {pv : PV} {ob' : List AObj} (hc : cUst P pt x y = some ao) (R : RepW c F l s.ob w) (hs : SlotsOk w F l s a) (he : ev forb nw s ao = some (pv, ob')) :
    ∃ v w' F' l', (Builtin.unsafeString_ #[pt, it] ty #[a.eval x, a.eval y]).run P w = .ok v w' ∧ RepW c F' l' ob' w' ∧ Mono w F l w' F' l' ∧ R1 w' F' l' pv v := by
  have hx := opx_sound hs x
  have hy := opx_sound hs y
  unfold cUst at hc
  split at hc
  · rename_i e hu
    split at hc
    · rename_i hce
      simp only [Option.some.injEq] at hc; subst hc
      simp only [ev] at he
      split at he
      · rename_i o len k n hvx hvy
        rw [hvx] at hx
        rw [hvy] at hy
        split at he
        · cases he
        · split at he
          · rename_i u bs hob
            split at he
            · rename_i hcond
              obtain ⟨rfl, hbl, hnl, hpos, hsm, rfl⟩ := hcond
              simp only [Option.some.injEq, Prod.mk.injEq] at he
              obtain ⟨rfl, rfl⟩ := he
              rw [hy.int_inv]
              generalize a.eval x = v at hx
              cases hx with
              | @lref l o i off len L v ho hb hlen hv hh =>
                rcases R.objs o _ hob with h1 | ⟨L', h1, h2⟩
                · simp at h1
                rw [ho] at h1; cases h1
                obtain ⟨h3, h4, h5, h6, h7, h8⟩ := h2
                rcases h8 with ⟨q, q'⟩ | ⟨q1, q2, cc, fz, q3, q4, q5, q6, q7, q8⟩
                · rw [q'] at hbl; simp at hbl; omega
                · obtain ⟨hst, hveq⟩ := hh (by omega)
                  have hveq' : v = .pointer (some ⟨L.blk, 0, none⟩) := by rw [hveq]; simp [h6, h7]
                  subst hveq'
                  have hcell : ∀ j x, bs[j]? = some x → w.cell? ((⟨L.blk, 0, none⟩ : Addr).add j) = some (.int .u8 x.toNat) := by
                    intro j x hx
                    rw [Addr.add_lit, Nat.zero_add, cell_of_block q3, ← Array.getElem?_toList]
                    have hx' : (Lib.byteCells bs)[j]? = some (.int .u8 x.toNat) := by simp [Lib.byteCells, hx]
                    rw [← q8, List.getElem?_take] at hx'
                    split at hx'
                    · exact hx'
                    · cases hx'
                  have hrun := Lib.run_unsafeString_row (P := P) w pt it ty u hu hce L.blk cc.size (by simp [World.shape?, q3]) bs q2 (by omega) (by omega) hcell
                  rw [hbl] at hrun
                  rw [hnl]
                  have hfz : (w.freeze ⟨L.blk, 0, none⟩ len).heap[L.blk]? = some (.cells cc u (if fz.1 = fz.2 then (0, len) else (min fz.1 0, max fz.2 len))) := by
                    unfold World.freeze
                    rw [if_neg (by omega)]
                    simp only [Array.getElem?_modify, if_true, q3, Option.map_some]
                    split <;> simp_all
                  obtain ⟨R', m'⟩ := R.change (L := L) (L' := L) (w' := w.freeze ⟨L.blk, 0, none⟩ len) (a' := .buf u bs) ho (R.lt o L ho) (by unfold World.freeze; split <;> rfl) (by unfold World.freeze; split <;> rfl) (by unfold World.freeze; split <;> rfl) (by unfold World.freeze; split <;> simp)
                    (fun k hk hne => by
                      unfold World.freeze; split
                      · rfl
                      · simp only [Array.getElem?_modify]; rw [if_neg (Ne.symm (hne q1))]) (.inl rfl) (fun _ => .inl ⟨q1, rfl⟩)
                    (fun m => ⟨h3, h4, h5, h6, h7, .inr ⟨q1, q2, cc, _, hfz, by split <;> simp <;> omega, q5, q6, q7, q8⟩⟩)
                  have hset : s.ob.set o (.buf u bs) = s.ob := by
                    apply List.ext_getElem?
                    intro j
                    by_cases hj : o = j
                    · subst hj; rw [hob, List.getElem?_set_self (R.lt o L ho)]
                    · rw [List.getElem?_set_ne hj]
                  rw [hset] at R'
                  exact ⟨_, _, F, _, hrun, R', m', .str _⟩
            · cases he
          · cases he
      · rename_i k n hvx hvy
        rw [hvx] at hx
        rw [hvy] at hy
        split at he
        · rename_i hcond
          obtain ⟨rfl, rfl⟩ := hcond
          simp only [Option.some.injEq, Prod.mk.injEq] at he
          obtain ⟨rfl, rfl⟩ := he
          rw [hy.int_inv]
          generalize a.eval x = v at hx
          cases hx
          exact ⟨_, w, F, l, Lib.run_unsafeString_none w pt it ty none, R, Mono.refl w F l, .str _⟩
        · cases he
      · cases he
    · cases hc
  · cases hc

end
end Go.Proofs.YtdgpiobmncohjaaGreat.Aw
