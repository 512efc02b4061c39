/-
 Operations on slices over boxes that may change or make a box: append, copy, clear.
-/
import Derived.Test.YtdgpiobmncohjaaGreatDoorKag
set_option linter.all false
namespace Go.Proofs.YtdgpiobmncohjaaGreatDoor.Aw
open Go.RowKit
section
variable {P : Program} {c : Ctx} {F : Nat → Prop} {l : Locs} {w : World} {s : St} {a : Act}
theorem src_sound (R : RepW c F l s.ob w) {e : Nat} {p : PV} {v : Value} {ys : List PV} (hp : R1 w F l p v) (h : arrSrc s.ob e p = some ys) :
  ∃ ad cap cv, v = .slice ad (arrLen p) cap ∧ RL w F l ys cv ∧ cv.length = arrLen p * e ∧ (∀ x ∈ cv, x.oneCell' = true) ∧
   (arrLen p = 0 ∨ ∃ b off, ad = some ⟨b, off, none⟩ ∧ ∀ j x, cv[j]? = some x → w.cell? ⟨b, off + j, none⟩ = some x) := by
 cases p with
 | nils =>
  simp only [arrSrc, Option.some.injEq] at h; subst h
  exact ⟨none, 0, [], hp.nils_inv, RL.nil, by simp [arrLen], by simp, .inl rfl⟩
 | asl o off n cp =>
  obtain ⟨L, ad, g1, g2, g3, g4, g5⟩ := hp.asl_inv
  simp only [arrSrc] at h
  split at h
  ·rename_i h0
   cases h; subst h0
   exact ⟨some ad, cp, [], g5, RL.nil, by simp [arrLen], by simp, .inl rfl⟩
  ·rename_i h0
   unfold arrSrcO at h
   split at h
   ·rename_i cs hob
    split at h
    ·rename_i hle
     cases h
     rcases R.objs o _ hob with h1 | ⟨L', h1, h2⟩
     ·simp at h1
     rw [g1] at h1; cases h1
     obtain ⟨h3, h4, cv, et, h5, h6, h7⟩ := h2
     refine ⟨some ad, cp, (cv.drop off).take (n * e), g5, (h6.drop off).take _, ?_, fun x hx => h7 x (List.mem_of_mem_drop (List.mem_of_mem_take hx)), .inr ⟨L.blk, off, by rw [g4 (by omega)], fun j x hx => ?_⟩⟩
     ·have := h6.1; simp [arrLen]; omega
     ·rw [cell_of_block h5]
      have := (getElem?_take_drop _ _ _ _ _ hx).1
      simpa using this
    ·cases h
   ·cases h
 | slc rows =>
  simp only [arrSrc] at h
  split at h
  ·rename_i hok
   cases h
   have hrow := rowsOk_iff.1 hok
   obtain ⟨ad, cap, hv, hcap, hcells⟩ := rowsOf_sound R (forb := []) hp rfl
   rcases hcells with rfl | ⟨b, off, cvv, esz, rfl, hr, hrl, hcell, hone⟩
   ·exact ⟨ad, cap, [], hv, RL.nil, by simp [arrLen], by simp, .inl rfl⟩
   ·exact ⟨_, cap, cvv, hv, hrl.free, by rw [← hrl.1, flatten_len rows hrow]; rfl, hone, .inr ⟨b, off, rfl, hcell⟩⟩
  ·cases h
 | _ => simp [arrSrc] at h
theorem put_sound (R : RepW c F l s.ob w) {o at_ : Nat} {L : Loc} (hl : l o = some L) (hb : L.box = true) {cs ys : List PV} {xs : List Value} (hob : s.ob[o]? = some (.box cs)) (hle : at_ + ys.length ≤ cs.length) (hys : RL w F l ys xs) (hone : ∀ x ∈ xs, x.oneCell' = true) :
  ∃ w' l', (storeCells ⟨L.blk, at_, none⟩ xs).run P w = .ok () w' ∧ RepW c F l' (s.ob.set o (.box (setAt cs at_ ys))) w' ∧ Mono w F l w' F l' ∧ l' o = some L := by
 have hst : stC s.ob [] (.ref o at_) ys = some (s.ob.set o (.box (setAt cs at_ ys))) := by simp [stC, hob, hle]
 have hr : R1 w F l (.ref o at_) (.pointer (some ⟨L.blk, at_, none⟩)) := .ref hl hb
 obtain ⟨b, off, w', l', h1, h2, h3, h4⟩ := stC_sound (P := P) R hr hst hys hone
 simp only [Value.pointer.injEq, Option.some.injEq, Addr.mk.injEq] at h1
 obtain ⟨rfl, rfl, _⟩ := h1
 obtain ⟨L', h5, h6⟩ := h4.loc _ _ hl
 rcases h6 with rfl | ⟨h6, _, _⟩
 ·exact ⟨w', l', h2, h3, h4, h5⟩
 ·rw [hb] at h6; cases h6
theorem zeros_list (z : Value) (n : Nat) : (Builtin.zeroCells z.cells n).toList = (List.replicate n z.cells.toList).flatten := by
 have : Builtin.zeroCells z.cells n = madeCells z.cells (n * z.cells.size) := rfl
 rw [this, made_list]
theorem RL_zeros {z : List Value} : ∀ n, RL w F l (List.replicate n (z.map cvS)).flatten (List.replicate n z).flatten
 | 0 => RL.nil
 | n + 1 => by rw [List.replicate_succ, List.replicate_succ, List.flatten_cons, List.flatten_cons]; exact (RL_cvS _).append (RL_zeros n)
theorem one_zeros {z : List Value} (h : ∀ v ∈ z, v.oneCell' = true) (n : Nat) : ∀ v ∈ (List.replicate n z).flatten, v.oneCell' = true := by
 intro v hv
 obtain ⟨r, hr, hvr⟩ := List.mem_flatten.1 hv
 rw [List.eq_of_mem_replicate hr] at hvr
 exact h v hvr
theorem grow_rep (R : RepW c F l s.ob w) {e : TypeId} {olds news : List PV} {xs ys : List Value} {z : Value} {n m cp : Nat} (hx : RL w F l olds xs) (hy : RL w F l news ys) (h1x : ∀ v ∈ xs, v.oneCell' = true) (h1y : ∀ v ∈ ys, v.oneCell' = true) (h1z : ∀ v ∈ z.cells.toList, v.oneCell' = true)
  {cells : Array Value} (hcells : cells.toList = xs ++ (ys ++ (List.replicate (cp - (n + m)) z.cells.toList).flatten)) (hcp : n + m ≤ cp) {w' : World} (hB : Below w.heap.size w w') (hblk : w'.heap[w.heap.size]? = some (.cells cells e)) :
  ∃ l', RepW c F l' (s.ob ++ [.box (olds ++ (news ++ (List.replicate (cp - (n + m)) (z.cells.toList.map cvS)).flatten))]) w' ∧ Mono w F l w' F l' ∧ R1 w' F l' (.asl s.ob.length 0 (n + m) cp) (.slice (some ⟨w.heap.size, 0, none⟩) (n + m) cp) := by
 obtain ⟨l', R', m', hv⟩ := new_box R hB (e := e) (cells := olds ++ (news ++ (List.replicate (cp - (n + m)) (z.cells.toList.map cvS)).flatten)) (cv := cells.toList) hblk (by rw [hcells]; exact hx.append (hy.append (RL_zeros _)))
  (fun x hx' => by
   rw [hcells] at hx'
   simp only [List.mem_append] at hx'
   rcases hx' with hx' | hx' | hx'
   ·exact h1x x hx'
   ·exact h1y x hx'
   ·exact one_zeros h1z _ x hx') (nw := none) (i := s.ob.length) rfl
 obtain ⟨L, g1, g2, g3⟩ := hv.ref_inv
 simp only [Value.pointer.injEq, Option.some.injEq] at g3
 exact ⟨l', R', m', .asl g1 g2 hcp fun _ => g3⟩
theorem grown_le {w : World} {need old : Nat} {e : TypeId} (h : need ≤ 33554432) : grownCap w need old e ≤ 9223372036854775807 := by
 have := grownCap_le_maxLen w need old e (by unfold maxLen; omega)
 unfold maxLen at this
 omega
theorem grow_sound (R : RepW c F l s.ob w) {t t' e : TypeId} {i : TypeInfo} {z : Value} {o : Oper} {x y : Operand} (hop : o.op = .call { callee := .builtin .append, args := #[x, y], argTypes := #[t, t'] }) (hu : P.underlying t = some (.slice e)) (hu' : ∃ e', P.underlying t' = some (.slice e')) (hz : zcells P e = some (i, z)) (hby : i.bytes ≤ 65536)
  {base ad : Option Addr} {n cap m m' : Nat} {olds news : List PV} {xs ys : List Value} (hxe : a.eval x = .slice base n cap) (hye : a.eval y = .slice ad m m') (hx : RL w F l olds xs) (hy : RL w F l news ys) (h1x : ∀ v ∈ xs, v.oneCell' = true) (h1y : ∀ v ∈ ys, v.oneCell' = true)
  (hxl : xs.length = n * i.size) (hyl : ys.length = m * i.size) (hxr : n = 0 ∨ ∃ b off, base = some ⟨b, off, none⟩ ∧ ∀ j x, xs[j]? = some x → w.cell? ⟨b, off + j, none⟩ = some x) (hyr : m = 0 ∨ ∃ b off, ad = some ⟨b, off, none⟩ ∧ ∀ j x, ys[j]? = some x → w.cell? ⟨b, off + j, none⟩ = some x)
  (hg : cap < n + m) {K : PV → List AObj → Prop} (hk : aGrow n m (z.cells.toList.map cvS) olds news s.ob K) : ∃ pv ob', Out c w F l ((execOp a.eval o).run P w) pv ob' ∧ K pv ob' := by
 obtain ⟨h1, h2, h3, h4⟩ := zcells_spec hz
 obtain ⟨hm, hsm, hk⟩ := hk
 have fx := firstCells_run (P := P) (w := w.drew) (cap := cap) hxl (by simpa using hxr)
 have fy := firstCells_run (P := P) (w := w.drew) (cap := m') hyl (by simpa using hyr)
 have hrun := app_grow (ty := o.type) (w := w) hu hu' h1 h2 fx fy hg (by omega) hby
 generalize hcap : grownCap w (n + m) cap e = cp at hrun
 have hge : n + m ≤ cp := by rw [← hcap]; exact grownCap_ge _ _ _ _
 have hle : cp ≤ 9223372036854775807 := by rw [← hcap]; exact grown_le (by omega)
 obtain ⟨l', R', m'', hv⟩ := grow_rep R (e := e) hx hy h1x h1y h4 (n := n) (m := m) (cp := cp) (cells := xs.toArray ++ ys.toArray ++ Builtin.zeroCells z.cells (cp - (n + m))) (by
  rw [Array.toList_append, Array.toList_append, zeros_list, List.append_assoc]) hge below_drew_alloc (drew_alloc_heap w _)
 exact ⟨_, _, out_runA (v := .slice (some ⟨w.heap.size, 0, none⟩) (n + m) cp) (by simp only [execOp, hop, resolve, invoke, builtin, Sem.run_bind, Sem.run_pure, Result.andThen_ok, List.map_toArray, List.map_cons, List.map_nil, hxe, hye, hrun]) R' hv m'', hk cp hge hle⟩
theorem aPutO_inv {x : Option AObj} {o q : Nat} {ys : List PV} {r : PV} {ob : List AObj} {K : PV → List AObj → Prop} (h : aPutO x o q ys r ob K) : ∃ cs, x = some (.box cs) ∧ q + ys.length ≤ cs.length ∧ K r (ob.set o (.box (setAt cs q ys))) := by
 unfold aPutO at h
 split at h
 ·exact ⟨_, rfl, h.1, h.2⟩
 ·exact h.elim
theorem app_none {t t' ty e : TypeId} {i : TypeInfo} (hu : P.underlying t = some (.slice e)) (hu' : ∃ e', P.underlying t' = some (.slice e')) (hi : P.info? e = some i) {base ad : Option Addr} {n cap m' : Nat} (hle : n ≤ cap) :
  (Builtin.append_ #[t, t'] ty #[.slice base n cap, .slice ad 0 m']).run P w = .ok (.slice base n cap) w := by
 have hf : (Builtin.firstCells i.size 0 (.slice ad 0 m')).run P w = .ok ([] : List Value).toArray w := firstCells_run (by simp) (.inl rfl)
 exact app_room0 (n := n) (m := 0) hu hu' hi hf (by omega) (fun b _ => by simp [storeCells]) (fun _ => rfl)
theorem cArrM_of {o : Oper} {m : MOp} {args : List AX} {K : PV → List AObj → Prop} (hc : cArrM P o = some (.mop m args)) (R : RepW c F l s.ob w) (hs : SlotsOk w F l s a) (hk : MStep m (args.map s.val) s.ob K) :
  ∃ pv ob', Out c w F l ((execOp a.eval o).run P w) pv ob' ∧ K pv ob' := by
 unfold cArrM at hc
 split at hc
 ·-- append
  rename_i args' ts hop
  split at hc
  ·rename_i x y t t' ha ht
   split at hc
   ·rename_i e hu
    split at hc
    ·rename_i i z hz
     split at hc
     ·rename_i hcond
      obtain ⟨hby, hpos⟩ := hcond
      obtain ⟨h1, h2, h3, h4⟩ := zcells_spec hz
      have ha' : args' = #[x, y] := by apply Array.ext'; simpa using ha
      have ht' : ts = #[t, t'] := by apply Array.ext'; simpa using ht
      subst ha'; subst ht'
      split at hc
      ·-- of a slice
       rename_i e' hu'
       simp only [Option.some.injEq, AO.mop.injEq] at hc
       obtain ⟨rfl, rfl⟩ := hc
       have hx := opxT_sound hs x
       have hy := opxT_sound hs y
       simp only [List.map_cons, List.map_nil] at hk
       generalize s.val (opxT x) = px at hk hx
       generalize s.val (opxT y) = py at hk hy
       have hk' : aAppY i.size (z.cells.toList.map cvS) px (arrLen py) (arrSrc s.ob i.size py) s.ob K := by
        simpa only [MStep] using hk
       clear hk
       unfold aAppY at hk'
       split at hk'
       ·rename_i ys hys
        obtain ⟨ad, m', cy, hyv, hyr, hyl, h1y, hyc⟩ := src_sound R hy hys
        split at hk'
        ·rename_i o' off n cp
         obtain ⟨L, xa, g1, g2, g3, g4, g5⟩ := hx.asl_inv
         split at hk'
         ·rename_i hm0
          rw [hm0] at hyv
          refine ⟨_, _, out_runA (v := .slice (some xa) n cp) ?_ R (g5 ▸ hx) (Mono.refl _ _ _), hk'⟩
          simp only [execOp, hop, resolve, invoke, builtin, Sem.run_bind, Sem.run_pure, Result.andThen_ok, List.map_toArray, List.map_cons, List.map_nil, g5, hyv, app_none hu ⟨_, hu'⟩ h1 g3]
         ·rename_i hm0
          split at hk'
          ·rename_i hroom
           obtain ⟨cs, hob, hle, hkk⟩ := aPutO_inv hk'
           have hxa := g4 (by omega)
           subst hxa
           obtain ⟨w', l', hst, R', m'', hl'⟩ := put_sound (P := P) R g1 g2 hob hle hyr h1y
           have hf := firstCells_run (P := P) (w := w) (cap := m') hyl hyc
           have hrun := app_room0 (P := P) (ty := o.type) (base := some ⟨L.blk, off, none⟩) (n := n) (m := arrLen py) (cap := cp) hu ⟨_, hu'⟩ h1 hf hroom (fun b hb => by cases hb; rw [Addr.add_lit]; exact hst) (fun hb => nomatch hb)
           refine ⟨_, _, out_runA (v := .slice (some ⟨L.blk, off, none⟩) (n + arrLen py) cp) ?_ R' (.asl hl' g2 hroom fun _ => rfl) m'', hkk⟩
           simp only [execOp, hop, resolve, invoke, builtin, Sem.run_bind, Sem.run_pure, Result.andThen_ok, List.map_toArray, List.map_cons, List.map_nil, g5, hyv, hrun]
          ·rename_i hroom
           unfold aGrowO at hk'
           split at hk'
           ·rename_i xs hxs
            obtain ⟨ad2, cp2, cx, hxv, hxr, hxl, h1x, hxc⟩ := src_sound R hx hxs
            rw [g5] at hxv
            simp only [arrLen, Value.slice.injEq] at hxv hxl hxc
            obtain ⟨rfl, _, rfl⟩ := hxv
            exact grow_sound R hop hu ⟨_, hu'⟩ hz hby g5 hyv hxr hyr h1x h1y hxl hyl hxc hyc (by omega) hk'
           ·exact hk'.elim
        ·have hxv := hx.nils_inv
         split at hk'
         ·rename_i hm0
          rw [hm0] at hyv
          refine ⟨_, _, out_runA (v := .slice none 0 0) ?_ R .nils (Mono.refl _ _ _), hk'⟩
          simp only [execOp, hop, resolve, invoke, builtin, Sem.run_bind, Sem.run_pure, Result.andThen_ok, List.map_toArray, List.map_cons, List.map_nil, hxv, hyv, app_none hu ⟨_, hu'⟩ h1 (Nat.le_refl 0)]
         ·rename_i hm0
          exact grow_sound R hop hu ⟨_, hu'⟩ hz hby hxv hyv (olds := []) (xs := []) RL.nil hyr (by simp) h1y (by simp) hyl (.inl rfl) hyc (by omega) hk'
        ·exact hk'.elim
       ·exact hk'.elim
      ·-- of so many zeros
       rename_i kn hu'
       simp only [Option.some.injEq, AO.mop.injEq] at hc
       obtain ⟨rfl, rfl⟩ := hc
       have hx := opxT_sound hs x
       have hy := opx_sound hs y
       simp only [List.map_cons, List.map_nil] at hk
       generalize s.val (opxT x) = px at hk hx
       generalize s.val (opx y) = py at hk hy
       obtain ⟨k, rfl, hk'⟩ : ∃ k, py = .int .i64 k ∧ aApzY i.size (z.cells.toList.map cvS) px k s.ob K := by
        unfold MStep at hk
        split at hk <;> rename_i e1 e2 <;> first | cases e1 | exact hk.elim
        simp only [List.cons.injEq, and_true] at e2
        obtain ⟨rfl, rfl⟩ := e2
        exact ⟨_, rfl, hk⟩
       clear hk
       have grow : ∀ {base : Option Addr} {n cap : Nat} {olds : List PV} {xs : List Value}, a.eval x = .slice base n cap → RL w F l olds xs → (∀ v ∈ xs, v.oneCell' = true) → xs.length = n * i.size →
         (n = 0 ∨ ∃ b off, base = some ⟨b, off, none⟩ ∧ ∀ j x, xs[j]? = some x → w.cell? ⟨b, off + j, none⟩ = some x) → 0 < k → cap < n + k.toNat → aGrow n k.toNat (z.cells.toList.map cvS) olds (List.replicate k.toNat (z.cells.toList.map cvS)).flatten s.ob K →
         ∃ pv ob', Out c w F l ((execOp a.eval o).run P w) pv ob' ∧ K pv ob' := by
        intro base n cap olds xs hxe hxr h1x hxl hxc hk0 hcap ⟨_, hsm, hkk⟩
        have fx := firstCells_run (P := P) (w := w.drew) (cap := cap) hxl (by simpa using hxc)
        have hkk2 : k = ((k.toNat : Nat) : Int) := by omega
        have hb1 : k.toNat * i.bytes ≤ 16777216 * 65536 := Nat.mul_le_mul (by omega) hby
        have hfit := fits48 hcap (by omega) hby
        have hrun := Lib.run_append_grow_zeros (P := P) w t t' o.type e i z .i64 kn hu hu' h1 h2 base n cap xs fx k.toNat (by omega) hpos hcap (by omega) (by omega) (by simpa using hfit)
        generalize hcp : grownCap w (n + k.toNat) cap e = cp at hrun
        have hge : n + k.toNat ≤ cp := by rw [← hcp]; exact grownCap_ge _ _ _ _
        have hle : cp ≤ 9223372036854775807 := by rw [← hcp]; exact grown_le (by omega)
        obtain ⟨l', R', m'', hv⟩ := grow_rep R (e := e) hxr (RL_zeros (z := z.cells.toList) k.toNat) h1x (one_zeros h4 _) h4 (n := n) (m := k.toNat) (cp := cp) (cells := xs.toArray ++ Builtin.zeroCells z.cells k.toNat ++ Builtin.zeroCells z.cells (cp - (n + k.toNat))) (by
         rw [Array.toList_append, Array.toList_append, zeros_list, zeros_list, List.append_assoc]) hge below_drew_alloc (drew_alloc_heap w _)
        refine ⟨_, _, out_runA (v := .slice (some ⟨w.heap.size, 0, none⟩) (n + k.toNat) cp) ?_ R' hv m'', hkk cp hge hle⟩
        rw [← hkk2] at hrun
        simp only [execOp, hop, resolve, invoke, builtin, Sem.run_bind, Sem.run_pure, Result.andThen_ok, List.map_toArray, List.map_cons, List.map_nil, hxe, hy.int_inv, hrun]
       unfold aApzY at hk'
       split at hk'
       ·rename_i o' off n cp
        obtain ⟨hk0, hcap, hk'⟩ := hk'
        unfold aGrowO at hk'
        split at hk'
        ·rename_i xs hxs
         obtain ⟨ad2, cp2, cx, hxv, hxr, hxl, h1x, hxc⟩ := src_sound R hx hxs
         obtain ⟨L, xa, g1, g2, g3, g4, g5⟩ := hx.asl_inv
         rw [g5] at hxv
         simp only [arrLen, Value.slice.injEq] at hxv hxl hxc
         obtain ⟨rfl, _, rfl⟩ := hxv
         exact grow g5 hxr h1x hxl hxc hk0 hcap hk'
        ·exact hk'.elim
       ·obtain ⟨hk0, hk'⟩ := hk'
        exact grow hx.nils_inv RL.nil (by simp) (by simp) (.inl rfl) hk0 (by omega) hk'
       ·exact hk'.elim
      ·cases hc
     ·cases hc
    ·cases hc
   ·cases hc
  ·cases hc
 ·-- copy
  rename_i args' ts hop
  split at hc
  ·rename_i x y t t' ha ht
   split at hc
   ·rename_i e hu
    simp only [Option.map_eq_some_iff, AO.mop.injEq] at hc
    obtain ⟨i, h1, rfl, rfl⟩ := hc
    have ha' : args' = #[x, y] := by apply Array.ext'; simpa using ha
    have ht' : ts = #[t, t'] := by apply Array.ext'; simpa using ht
    subst ha'; subst ht'
    have hx := opxT_sound hs x
    have hy := opxT_sound hs y
    simp only [List.map_cons, List.map_nil] at hk
    generalize s.val (opxT x) = px at hk hx
    generalize s.val (opxT y) = py at hk hy
    have hk' : aCpyY i.size px (arrLen py) (arrSrc s.ob i.size py) s.ob K := by simpa only [MStep] using hk
    clear hk
    unfold aCpyY at hk'
    split at hk'
    ·rename_i o' off n cp ys hys
     obtain ⟨ad, m', cy, hyv, hyr, hyl, h1y, hyc⟩ := src_sound R hy hys
     obtain ⟨L, xa, g1, g2, g3, g4, g5⟩ := hx.asl_inv
     split at hk'
     ·rename_i hm0
      refine ⟨_, _, out_runA (v := .int .i64 0) ?_ R (.int _ _) (Mono.refl _ _ _), hk'⟩
      have hm0' : Nat.min (arrLen py) n = 0 := hm0
      have hf : (Builtin.firstCells i.size 0 (.slice ad (arrLen py) m')).run P w = .ok ([] : List Value).toArray w := by
       cases ad <;> simp [Builtin.firstCells, loadCells, loadCellsFrom]
      simp only [execOp, hop, resolve, invoke, builtin, Sem.run_bind, Sem.run_pure, Result.andThen_ok, List.map_toArray, List.map_cons, List.map_nil, g5, hyv]
      simp [Builtin.copy_, run_underlying hu, Builtin.lenOf, sizeOf_run h1, hm0', hf, storeCells, goInt]
     ·rename_i hm0
      obtain ⟨cs, hob, hle, hkk⟩ := aPutO_inv hk'
      have hxa := g4 (by omega)
      subst hxa
      have hcl : (cy.take (min (arrLen py) n * i.size)).length = min (arrLen py) n * i.size := by
       rw [List.length_take, hyl]
       exact Nat.min_eq_left (Nat.mul_le_mul_right _ (Nat.min_le_left _ _))
      obtain ⟨w', l', hst, R', m'', hl'⟩ := put_sound (P := P) R g1 g2 hob hle (hyr.take _) (fun v hv => h1y v (List.mem_of_mem_take hv))
      have hf : (Builtin.firstCells i.size (min (arrLen py) n) (.slice ad (arrLen py) m')).run P w = .ok (cy.take (min (arrLen py) n * i.size)).toArray w := by
       rcases hyc with h0 | ⟨b, off2, rfl, hcell⟩
       ·omega
       ·simp only [Builtin.firstCells]
        exact run_loadCells_ptr hcl fun j x hx => hcell j x (by
         rw [List.getElem?_take] at hx
         split at hx
         ·exact hx
         ·cases hx)
      have hf' : (Builtin.firstCells i.size (Nat.min (arrLen py) n) (.slice ad (arrLen py) m')).run P w = .ok (cy.take (min (arrLen py) n * i.size)).toArray w := hf
      refine ⟨_, _, out_runA (v := .int .i64 ((min (arrLen py) n : Nat) : Int)) ?_ R' (.int _ _) m'', hkk⟩
      simp only [execOp, hop, resolve, invoke, builtin, Sem.run_bind, Sem.run_pure, Result.andThen_ok, List.map_toArray, List.map_cons, List.map_nil, g5, hyv]
      simp [Builtin.copy_, run_underlying hu, Builtin.lenOf, sizeOf_run h1, hf', hst, goInt]
    ·exact hk'.elim
   ·cases hc
  ·cases hc
 ·-- clear
  rename_i args' ts hop
  split at hc
  ·rename_i x t ha ht
   split at hc
   ·rename_i e hu
    split at hc
    ·rename_i i z hz
     simp only [Option.some.injEq, AO.mop.injEq] at hc
     obtain ⟨rfl, rfl⟩ := hc
     obtain ⟨h1, h2, h3, h4⟩ := zcells_spec hz
     have ha' : args' = #[x] := by apply Array.ext'; simpa using ha
     have ht' : ts = #[t] := by apply Array.ext'; simpa using ht
     subst ha'; subst ht'
     have hx := opxT_sound hs x
     simp only [List.map_cons, List.map_nil] at hk
     generalize s.val (opxT x) = px at hk hx
     have hk' : aClrX (z.cells.toList.map cvS) px s.ob K := by simpa only [MStep] using hk
     clear hk
     unfold aClrX at hk'
     split at hk'
     ·rename_i o' off n cp
      obtain ⟨L, xa, g1, g2, g3, g4, g5⟩ := hx.asl_inv
      split at hk'
      ·rename_i hn0
       subst hn0
       refine ⟨_, _, out_runA (v := .tuple #[]) ?_ R (R1.mkTup RL.nil) (Mono.refl _ _ _), hk'⟩
       simp only [execOp, hop, resolve, invoke, builtin, Sem.run_bind, Sem.run_pure, Result.andThen_ok, List.map_toArray, List.map_cons, List.map_nil, g5]
       simp [Builtin.clear_, run_underlying hu]
      ·rename_i hn0
       obtain ⟨cs, hob, hle, hkk⟩ := aPutO_inv hk'
       have hxa := g4 (by omega)
       subst hxa
       obtain ⟨w', l', hst, R', m'', hl'⟩ := put_sound (P := P) R g1 g2 hob hle (RL_zeros (z := z.cells.toList) n) (one_zeros h4 _)
       refine ⟨_, _, out_runA (v := .tuple #[]) ?_ R' (R1.mkTup RL.nil) m'', hkk⟩
       simp only [execOp, hop, resolve, invoke, builtin, Sem.run_bind, Sem.run_pure, Result.andThen_ok, List.map_toArray, List.map_cons, List.map_nil, g5]
       obtain ⟨q, rfl⟩ : ∃ q, n = q + 1 := ⟨n - 1, by omega⟩
       simp [Builtin.clear_, run_underlying hu, zeroValue_run h1 h2, zeros_list, hst]
     ·exact hk'.elim
    ·cases hc
   ·cases hc
  ·cases hc
 ·cases hc
theorem cArrM_mop {o : Oper} {ao : AO} (hc : cArrM P o = some ao) : ∃ m args, ao = .mop m args := by
 unfold cArrM at hc
 repeat' split at hc
 all_goals first | cases hc | skip
 all_goals first | exact ⟨_, _, rfl⟩ | skip
 all_goals (simp only [Option.map_eq_some_iff] at hc; obtain ⟨_, _, rfl⟩ := hc; exact ⟨_, _, rfl⟩)
theorem cArrE_isE {o : Oper} {ao : AO} (hc : cArrE P o = some ao) : (∃ op xs, ao = .arr op xs) ∨ ∃ z n ps, ao = .alit z n ps := by
 unfold cArrE at hc
 repeat' split at hc
 all_goals first | cases hc | skip
 all_goals first | exact .inl ⟨_, _, rfl⟩ | exact .inr ⟨_, _, _, rfl⟩ | skip
 all_goals (simp only [Option.map_eq_some_iff] at hc; obtain ⟨_, _, rfl⟩ := hc; exact .inl ⟨_, _, rfl⟩)
end
end Go.Proofs.YtdgpiobmncohjaaGreatDoor.Aw
