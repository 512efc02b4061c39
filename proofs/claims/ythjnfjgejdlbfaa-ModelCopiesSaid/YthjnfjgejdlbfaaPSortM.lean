/-
  slices.Sorted(maps.Keys(m)): the keys of a map of the call's own, sorted, in a list of the call's own. Over the shelf's contracts.
-/
import Derived.Test.YthjnfjgejdlbfaaLayM
import Derived.Test.YthjnfjgejdlbfaaMMap
import Derived.Test.YthjnfjgejdlbfaaCode
namespace Go.Proofs.Ythjnfjgejdlbfaa.Aw
open Go.RowKit Go.Maps Go.Sort Go.Shelf
open Go.WideElems (Fit rd rg)

theorem map_owns {w : World} {F : Nat → Prop} {l : Locs} {b ck : Nat} {es : List (Nat × Int × PV)} {ms : List MapEntry} {K : TypeId} (hk : Try.prog.underlying K = some (.int .i64)) (hb : w.heap[b]? = some (.map ms.toArray ck)) (h : EntsRep w F l es ms) (ok : MapOk ck es) :
    ∃ D : DataW Unit, w.ownsMap Try.prog K (fun _ => some (.nil, [])) b es.length D ∧ (intKeys D).Perm (es.map (·.2.1)) ∧ Maps.size D = es.length := by
  have hmap : ∀ {es : List (Nat × Int × PV)} {ms : List MapEntry}, EntsRep w F l es ms → ms.map (·.born) = es.map (·.1) ∧ ms.map (·.key) = es.map fun e => encZ e.2.1 := by
    intro es ms h
    constructor
    · apply List.ext_getElem? ; intro i
      rw [List.getElem?_map, List.getElem?_map]
      by_cases hi : i < es.length
      · have hi' : i < ms.length := by rw [← h.1]; exact hi
        rw [List.getElem?_eq_getElem hi, List.getElem?_eq_getElem hi']
        have := (h.2 i _ _ (List.getElem?_eq_getElem hi) (List.getElem?_eq_getElem hi')).1
        simp [this]
      · rw [List.getElem?_eq_none (l := ms) (by have := h.1; omega), List.getElem?_eq_none (l := es) (by omega)]; rfl
    · apply List.ext_getElem? ; intro i
      rw [List.getElem?_map, List.getElem?_map]
      by_cases hi : i < es.length
      · have hi' : i < ms.length := by rw [← h.1]; exact hi
        rw [List.getElem?_eq_getElem hi, List.getElem?_eq_getElem hi']
        have := (h.2 i _ _ (List.getElem?_eq_getElem hi) (List.getElem?_eq_getElem hi')).2.1
        simp [this]
      · rw [List.getElem?_eq_none (l := ms) (by have := h.1; omega), List.getElem?_eq_none (l := es) (by omega)]; rfl
  obtain ⟨hborn, hkey⟩ := hmap h
  have hmem : ∀ x ∈ ms, x.born < ck ∧ ∃ e ∈ es, x.key = encZ e.2.1 := by
    intro x hx
    constructor
    · have : x.born ∈ es.map (·.1) := by rw [← hborn]; exact List.mem_map_of_mem hx
      obtain ⟨e, he, e1⟩ := List.mem_map.1 this
      rw [← e1]; exact ok.lt e he
    · have : x.key ∈ es.map fun e => encZ e.2.1 := by rw [← hkey]; exact List.mem_map_of_mem hx
      obtain ⟨e, he, e1⟩ := List.mem_map.1 this
      exact ⟨e, he, e1.symm⟩
  have hko : ∀ e ∈ es, keyOf Try.prog K (encZ e.2.1) = some (.int .i64 e.2.1) := by
    intro e he
    simp [keyOf, hk, mapKey, ok.kw e he]
  have hfit : Fit Try.prog K (fun _ => some ((.nil : DataW Unit), ([] : List MemPlace))) ms.toArray ck := by
    refine ⟨?_, ⟨?_, ?_, ?_⟩, ?_⟩
    · have := ok.sz; have := h.1; simp [maxLen]; omega
    · intro x hx; exact (hmem x (by simpa using hx)).1
    · simp only [List.toList_toArray]; rw [hborn]; exact ok.nd
    · simp only [List.toList_toArray]; rw [hkey]
      have := ok.kd
      rw [List.nodup_iff_pairwise_ne] at this ⊢
      rw [List.pairwise_map] at this ⊢
      exact this.imp fun hne e => hne (encZ_inj e)
    · intro x hx
      obtain ⟨e, he, hke⟩ := (hmem x (by simpa using hx)).2
      exact ⟨(.int .i64 e.2.1, .nil), by simp [WideElems.rd, hke, hko e he]⟩
  refine ⟨_, ⟨ms.toArray, ck, hb, hfit, by simp [h.1], rfl⟩, ?_, ?_⟩
  · refine ((WideShapes.sorted_perm _).map _).trans ?_
    rw [List.map_map]
    have : ms.toArray.toList.map ((fun p : Lit × DataW Unit => Go.intOf p.1) ∘ WideElems.rg Try.prog K (fun _ => some ((.nil : DataW Unit), ([] : List MemPlace)))) = es.map (·.2.1) := by
      have e2 : ms.map (fun x => (fun v => match v with | .int _ a => a | _ => 0) x.key) = es.map (·.2.1) := by
        have := congrArg (List.map fun v : Value => (match v with | .int _ a => a | _ => (0 : Int))) hkey
        rw [List.map_map, List.map_map] at this
        exact this
      rw [← e2]
      simp only [List.toList_toArray]
      apply List.map_congr_left
      intro x hx
      obtain ⟨e, he, hke⟩ := (hmem x hx).2
      have : WideElems.rd Try.prog K (fun _ => some ((.nil : DataW Unit), ([] : List MemPlace))) x = some (.int .i64 e.2.1, .nil) := by simp [WideElems.rd, hke, hko e he]
      simp [WideElems.rg, this, Go.intOf, hke]
    rw [this]
  · show (List.foldr DataW.insert [] _).length = es.length
    rw [(WideShapes.sorted_perm _).length_eq]
    simp [h.1]

theorem sortedV_icall {ob : List AObj} {n m ck : Nat} {es : List (Nat × Int × PV)} (hn : ob[n]? = some (.box [.mp m])) (hm : ob[m]? = some (.map ck es)) (ok : MapOk ck es) :
    ICall Try.prog 43 [.fn (.func 68) [] [.ref n 0]] ob fun r ob' => r = .osl ob.length 0 es.length ∧ ob' = ob ++ [.list 1 (rowsZ .i64 (sortK es))] := by
  refine ⟨⟨okFn_spec (by kernel_rfl), _, _, rfl, rfl⟩, fun c w F l vs R hv => ?_⟩
  obtain ⟨v, vs', rfl, h1, h2⟩ := hv.cons_inv
  have := h2.nil_inv; subst this
  cases h1 with
  | @fn l f' p q xs ys hp1 hp2 hq1 hq2 =>
    have hxs : xs = [] := List.eq_nil_of_length_eq_zero (by simpa using hp1.symm)
    subst hxs
    obtain ⟨pv, ys', rfl, h3, h4⟩ := RL.cons_inv (⟨hq1, hq2⟩ : RL w F l [.ref n 0] ys)
    have := h4.nil_inv; subst this
    obtain ⟨Ln, g1, g2, rfl⟩ := h3.ref_inv
    rcases R.objs n _ hn with ⟨h, _⟩ | ⟨L', k1, k2⟩
    · cases h
    rw [g1] at k1; cases k1
    obtain ⟨_, hnil, cv, e, hbk, hcv, _⟩ := k2
    obtain ⟨mv, cv', rfl, h5, h6⟩ := hcv.cons_inv
    have := h6.nil_inv; subst this
    obtain ⟨Lm, ms, f1, f2, f3, rfl, f5, f6⟩ := map_at (s := ⟨fun _ => .bot, ob⟩) R h5 hm
    have hK : Try.prog.underlying (Try.keysA_ren.t 26) = some (.int .i64) := by kernel_rfl
    obtain ⟨D, hown, hperm, hsize⟩ := map_owns (K := Try.keysA_ren.t 26) hK f5 f6 ok
    have hcell : w.cell? ⟨Ln.blk, 0, none⟩ = some (.map (some Lm.blk)) := by rw [cell_of_block hbk]; rfl
    have hseq : SeqGives Fence.wide 2 Try.prog 68 #[.pointer (some ⟨Ln.blk, 0, none⟩)] encZ (fun ss => ss.Perm (intKeys D)) (Maps.size D) w :=
      AnyZI.keys_gives (ρ := Try.keysA_ren) { Try.keysA with } Fence.wide _ trivial rfl (by omega) Ln.blk Lm.blk es.length D _ (lt_of_cells hbk) hcell hown
    have hsort : AnyZI.SortsIn Try.prog Try.sortedA_ren Fence.wide 4 :=
      ⟨fun blk off cap ss W hH hblk hsz => callsIn_wide.2 (AnyM.slices_Sort_int Try.sortA blk off cap ss W hH hblk hsz),
       fun p cap W => callsIn_wide.2 (AnyM.slices_Sort_int_none Try.sortA p cap W)⟩
    have cS := AnyZI.sorted_in Try.sortedA Fence.wide 5 trivial trivial trivial trivial rfl (by omega) hsort (enters_of Try.func67 (by kernel_rfl) rfl) 68 #[.pointer (some ⟨Ln.blk, 0, none⟩)] trivial (enters_of Try.func68 (by kernel_rfl) rfl) _ _ (by rw [hsize]; have := ok.sz; simp [maxLen]; omega) (by rw [hsize]; have := ok.sz; omega) _ hseq
    change CallsIn _ _ Try.prog 43 _ _ _ at cS
    refine ((callsIn_wide (n := 5)).1 cS).mono ?_
    rintro e' w' ⟨v, ss, rfl, hS, hrow, hnl, hB⟩
    have hp2 : ss.Perm (es.map (·.2.1)) := hS.trans hperm
    have hlen : ss.length = es.length := by rw [hp2.length_eq]; simp
    have hsk : ss.mergeSort leI = sortK es := mergeSort_of_perm_i hp2
    have hkl : (sortK es).length = es.length := by simp [sortK]
    have hrl : (rowsZ .i64 (sortK es)).length = es.length := by rw [rowsZ_len, hkl]
    have hmk : mkO ⟨fun _ => .bot, ob⟩ none (.list 1 (rowsZ .i64 (sortK es))) = some (ob.length, ob ++ [.list 1 (rowsZ .i64 (sortK es))]) := rfl
    rcases hrow.2 with ⟨rfl, hz⟩ | ⟨gb, cap, cur, rfl, hbase, hgb, r1, r2, r3, r4⟩
    · have he : es = [] := List.eq_nil_of_length_eq_zero (by omega)
      subst he
      obtain ⟨R1', m1⟩ := R.ext hB
      obtain ⟨l', R2, m2, hv2⟩ := new_nil (s := ⟨fun _ => .bot, ob⟩) (esz := 1) (nw := none) (i := ob.length) (ob' := ob ++ [.list 1 []]) R1' rfl
      exact ⟨_, _, _, F, l', rfl, R2, m1.trans m2, hv2, rfl, by simp [sortK, rowsZ]⟩
    · obtain ⟨R1', m1⟩ := R.ext hB
      obtain ⟨i1, i2, i3, i4, i5⟩ := mkO_spec R1' rfl hmk
      have hcl : cur.size = cap := by simpa using r3
      let L : Loc := ⟨gb, 0, 0, cap, es.length, 1, false, false⟩
      have hcur : cur.toList.take ss.length = (sortK es).map encZ := by rw [← hsk]; simpa using r4
      have hrows : (rowsZ .i64 (sortK es)).flatten = (sortK es).map fun n => PV.int .i64 n := by
        rw [rowsZ]
        induction sortK es with
        | nil => rfl
        | cons a r ih => simp [ih]
      have hRL : ∀ (w : World) (F : Nat → Prop), RL w F (fun _ => none) (rowsZ .i64 (sortK es)).flatten ((sortK es).map encZ) := by
        intro w F
        rw [hrows]
        refine ⟨by simp, fun i c x h1 h2 => ?_⟩
        rw [List.getElem?_map] at h1 h2
        cases hk : (sortK es)[i]? with
        | none => simp [hk] at h1
        | some z => simp only [hk, Option.map_some, Option.some.injEq] at h1 h2; subst h1; subst h2; exact .int _ _
      obtain ⟨R2, m2⟩ := R1'.new (L := L) (i := ob.length) (a := .list 1 (rowsZ .i64 (sortK es))) i1 i2 i3 i4 i5
        (fun m => ⟨rfl, hrl.symm, rfl, by simp [rowsZ], .inr ⟨rfl, Nat.zero_le _, by rw [hrl]; show es.length ≤ cap; omega, cur, _, (0, 0), (sortK es).map encZ, hgb, free00 _, by simp [L, hcl], by simpa [L] using hRL _ _, fun j hj => by
            simp only [List.length_map] at hj
            show cur[0 + j]? = _
            rw [Nat.zero_add, ← Array.getElem?_toList, ← hcur, List.getElem?_take, if_pos (by omega)], fun v hv => by
            obtain ⟨z, _, rfl⟩ := List.mem_map.1 hv; rfl⟩⟩)
        (fun _ => ⟨Nat.le_trans R.below.size hbase, lt_of_cells hgb, fun hF => by have := R.flt _ hF; simp only [L] at this; omega, fun o L' ho hn' e' => by have := (R.own o L' ho hn').2.1; simp only [L] at e'; omega⟩)
      refine ⟨_, _, _, F, _, rfl, R2, m1.trans m2, ?_, rfl, rfl⟩
      exact .osl (updL_same _ _ _) rfl (by simp [L]) ⟨_, _, _, rfl⟩ fun _ => .inr ⟨rfl, Nat.zero_le _, ⟨gb, 0, none⟩, by rw [hlen]; simp [L], fun _ => by simp [L]⟩

theorem sortedS_icall {ob : List AObj} {n m ck : Nat} {es : List (Nat × Int × PV)} (hn : ob[n]? = some (.box [.mp m])) (hm : ob[m]? = some (.map ck es)) (ok : MapOk ck es) :
    ICall Try.prog 43 [.fn (.func 69) [] [.ref n 0]] ob fun r ob' => r = .osl ob.length 0 es.length ∧ ob' = ob ++ [.list 1 (rowsZ .i64 (sortK es))] := by
  refine ⟨⟨okFn_spec (by kernel_rfl), _, _, rfl, rfl⟩, fun c w F l vs R hv => ?_⟩
  obtain ⟨v, vs', rfl, h1, h2⟩ := hv.cons_inv
  have := h2.nil_inv; subst this
  cases h1 with
  | @fn l f' p q xs ys hp1 hp2 hq1 hq2 =>
    have hxs : xs = [] := List.eq_nil_of_length_eq_zero (by simpa using hp1.symm)
    subst hxs
    obtain ⟨pv, ys', rfl, h3, h4⟩ := RL.cons_inv (⟨hq1, hq2⟩ : RL w F l [.ref n 0] ys)
    have := h4.nil_inv; subst this
    obtain ⟨Ln, g1, g2, rfl⟩ := h3.ref_inv
    rcases R.objs n _ hn with ⟨h, _⟩ | ⟨L', k1, k2⟩
    · cases h
    rw [g1] at k1; cases k1
    obtain ⟨_, hnil, cv, e, hbk, hcv, _⟩ := k2
    obtain ⟨mv, cv', rfl, h5, h6⟩ := hcv.cons_inv
    have := h6.nil_inv; subst this
    obtain ⟨Lm, ms, f1, f2, f3, rfl, f5, f6⟩ := map_at (s := ⟨fun _ => .bot, ob⟩) R h5 hm
    have hK : Try.prog.underlying (Try.keysB_ren.t 26) = some (.int .i64) := by kernel_rfl
    obtain ⟨D, hown, hperm, hsize⟩ := map_owns (K := Try.keysB_ren.t 26) hK f5 f6 ok
    have hcell : w.cell? ⟨Ln.blk, 0, none⟩ = some (.map (some Lm.blk)) := by rw [cell_of_block hbk]; rfl
    have hseq : SeqGives Fence.wide 2 Try.prog 69 #[.pointer (some ⟨Ln.blk, 0, none⟩)] encZ (fun ss => ss.Perm (intKeys D)) (Maps.size D) w :=
      AnyZI.keys_gives (ρ := Try.keysB_ren) { Try.keysB with } Fence.wide _ trivial rfl (by omega) Ln.blk Lm.blk es.length D _ (lt_of_cells hbk) hcell hown
    have hsort : AnyZI.SortsIn Try.prog Try.sortedA_ren Fence.wide 4 :=
      ⟨fun blk off cap ss W hH hblk hsz => callsIn_wide.2 (AnyM.slices_Sort_int Try.sortA blk off cap ss W hH hblk hsz),
       fun p cap W => callsIn_wide.2 (AnyM.slices_Sort_int_none Try.sortA p cap W)⟩
    have cS := AnyZI.sorted_in Try.sortedA Fence.wide 5 trivial trivial trivial trivial rfl (by omega) hsort (enters_of Try.func67 (by kernel_rfl) rfl) 69 #[.pointer (some ⟨Ln.blk, 0, none⟩)] trivial (enters_of Try.func69 (by kernel_rfl) rfl) _ _ (by rw [hsize]; have := ok.sz; simp [maxLen]; omega) (by rw [hsize]; have := ok.sz; omega) _ hseq
    change CallsIn _ _ Try.prog 43 _ _ _ at cS
    refine ((callsIn_wide (n := 5)).1 cS).mono ?_
    rintro e' w' ⟨v, ss, rfl, hS, hrow, hnl, hB⟩
    have hp2 : ss.Perm (es.map (·.2.1)) := hS.trans hperm
    have hlen : ss.length = es.length := by rw [hp2.length_eq]; simp
    have hsk : ss.mergeSort leI = sortK es := mergeSort_of_perm_i hp2
    have hkl : (sortK es).length = es.length := by simp [sortK]
    have hrl : (rowsZ .i64 (sortK es)).length = es.length := by rw [rowsZ_len, hkl]
    have hmk : mkO ⟨fun _ => .bot, ob⟩ none (.list 1 (rowsZ .i64 (sortK es))) = some (ob.length, ob ++ [.list 1 (rowsZ .i64 (sortK es))]) := rfl
    rcases hrow.2 with ⟨rfl, hz⟩ | ⟨gb, cap, cur, rfl, hbase, hgb, r1, r2, r3, r4⟩
    · have he : es = [] := List.eq_nil_of_length_eq_zero (by omega)
      subst he
      obtain ⟨R1', m1⟩ := R.ext hB
      obtain ⟨l', R2, m2, hv2⟩ := new_nil (s := ⟨fun _ => .bot, ob⟩) (esz := 1) (nw := none) (i := ob.length) (ob' := ob ++ [.list 1 []]) R1' rfl
      exact ⟨_, _, _, F, l', rfl, R2, m1.trans m2, hv2, rfl, by simp [sortK, rowsZ]⟩
    · obtain ⟨R1', m1⟩ := R.ext hB
      obtain ⟨i1, i2, i3, i4, i5⟩ := mkO_spec R1' rfl hmk
      have hcl : cur.size = cap := by simpa using r3
      let L : Loc := ⟨gb, 0, 0, cap, es.length, 1, false, false⟩
      have hcur : cur.toList.take ss.length = (sortK es).map encZ := by rw [← hsk]; simpa using r4
      have hrows : (rowsZ .i64 (sortK es)).flatten = (sortK es).map fun n => PV.int .i64 n := by
        rw [rowsZ]
        induction sortK es with
        | nil => rfl
        | cons a r ih => simp [ih]
      have hRL : ∀ (w : World) (F : Nat → Prop), RL w F (fun _ => none) (rowsZ .i64 (sortK es)).flatten ((sortK es).map encZ) := by
        intro w F
        rw [hrows]
        refine ⟨by simp, fun i c x h1 h2 => ?_⟩
        rw [List.getElem?_map] at h1 h2
        cases hk : (sortK es)[i]? with
        | none => simp [hk] at h1
        | some z => simp only [hk, Option.map_some, Option.some.injEq] at h1 h2; subst h1; subst h2; exact .int _ _
      obtain ⟨R2, m2⟩ := R1'.new (L := L) (i := ob.length) (a := .list 1 (rowsZ .i64 (sortK es))) i1 i2 i3 i4 i5
        (fun m => ⟨rfl, hrl.symm, rfl, by simp [rowsZ], .inr ⟨rfl, Nat.zero_le _, by rw [hrl]; show es.length ≤ cap; omega, cur, _, (0, 0), (sortK es).map encZ, hgb, free00 _, by simp [L, hcl], by simpa [L] using hRL _ _, fun j hj => by
            simp only [List.length_map] at hj
            show cur[0 + j]? = _
            rw [Nat.zero_add, ← Array.getElem?_toList, ← hcur, List.getElem?_take, if_pos (by omega)], fun v hv => by
            obtain ⟨z, _, rfl⟩ := List.mem_map.1 hv; rfl⟩⟩)
        (fun _ => ⟨Nat.le_trans R.below.size hbase, lt_of_cells hgb, fun hF => by have := R.flt _ hF; simp only [L] at this; omega, fun o L' ho hn' e' => by have := (R.own o L' ho hn').2.1; simp only [L] at e'; omega⟩)
      refine ⟨_, _, _, F, _, rfl, R2, m1.trans m2, ?_, rfl, rfl⟩
      exact .osl (updL_same _ _ _) rfl (by simp [L]) ⟨_, _, _, rfl⟩ fun _ => .inr ⟨rfl, Nat.zero_le _, ⟨gb, 0, none⟩, by rw [hlen]; simp [L], fun _ => by simp [L]⟩
end Go.Proofs.Ythjnfjgejdlbfaa.Aw
