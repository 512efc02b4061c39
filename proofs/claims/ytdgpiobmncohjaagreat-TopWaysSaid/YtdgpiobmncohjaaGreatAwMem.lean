/-
  Loads, stores and the reading of slices: what they do in a world for which abstract objects stand.
-/
import Derived.Test.YtdgpiobmncohjaaGreatAwRep
namespace Go.Proofs.YtdgpiobmncohjaaGreat.Aw
open Go.RowKit

theorem flatten_drop {esz : Nat} : ∀ (rows : List (List PV)) (i : Nat), (∀ r ∈ rows, r.length = esz) → (rows.drop i).flatten = rows.flatten.drop (i * esz)
  | rows, 0, _ => by simp
  | [], i + 1, _ => by simp
  | r :: rows, i + 1, h => by
    have hr := h r (by simp)
    rw [List.drop_succ_cons, flatten_drop rows i (fun x hx => h x (by simp [hx])), List.flatten_cons, List.drop_append]
    rw [List.drop_eq_nil_of_le (as := r) (by rw [hr, Nat.add_mul]; omega), List.nil_append]
    congr 1
    rw [hr, Nat.add_mul]; omega

theorem flatten_take {esz : Nat} : ∀ (rows : List (List PV)) (i : Nat), (∀ r ∈ rows, r.length = esz) → (rows.take i).flatten = rows.flatten.take (i * esz)
  | rows, 0, _ => by simp
  | [], i + 1, _ => by simp
  | r :: rows, i + 1, h => by
    have hr := h r (by simp)
    rw [List.take_succ_cons, List.flatten_cons, flatten_take rows i (fun x hx => h x (by simp [hx])), List.flatten_cons, List.take_append]
    rw [List.take_of_length_le (l := r) (by rw [hr, Nat.add_mul]; omega)]
    congr 2
    rw [hr, Nat.add_mul]; omega

theorem flatten_len {esz : Nat} : ∀ (rows : List (List PV)), (∀ r ∈ rows, r.length = esz) → rows.flatten.length = rows.length * esz
  | [], _ => by simp
  | r :: rows, h => by
    rw [List.flatten_cons, List.length_append, flatten_len rows (fun x hx => h x (by simp [hx])), h r (by simp), List.length_cons, Nat.add_mul]
    omega

theorem flatten_single : ∀ xs : List PV, (xs.map fun c => [c]).flatten = xs
  | [] => rfl
  | x :: xs => by rw [List.map_cons, List.flatten_cons, flatten_single xs]; rfl

theorem flatten_row {esz : Nat} {rows : List (List PV)} {i : Nat} {r : List PV} (h : ∀ r ∈ rows, r.length = esz) (hi : rows[i]? = some r) : (rows.flatten.drop (i * esz)).take esz = r := by
  rw [← flatten_drop rows i h]
  obtain ⟨hlt, he⟩ := List.getElem?_eq_some_iff.1 hi
  rw [List.drop_eq_getElem_cons hlt, List.flatten_cons, he, List.take_append, h r (List.mem_of_getElem? hi)]
  rw [List.take_of_length_le (Nat.le_of_eq (h r (List.mem_of_getElem? hi)))]
  simp

theorem getElem?_take_drop {α : Type} (xs : List α) (k n j : Nat) (x : α) (h : ((xs.drop k).take n)[j]? = some x) : xs[k + j]? = some x ∧ j < n := by
  rw [List.getElem?_take] at h
  split at h
  · rw [List.getElem?_drop] at h; exact ⟨h, ‹_›⟩
  · cases h

theorem splice_get {A : List Value} (xs cv : List Value) (o q : Nat) (h : ∀ j, j < cv.length → A[o + j]? = cv[j]?) (hlen : o + cv.length ≤ A.length) (hq : q + xs.length ≤ cv.length) (j : Nat) (hj : j < cv.length) :
    (A.take (o + q) ++ xs ++ A.drop (o + q + xs.length))[o + j]? = (cv.take q ++ xs ++ cv.drop (q + xs.length))[j]? := by
  have e1 : (A.take (o + q)).length = o + q := by rw [List.length_take]; omega
  have e2 : (cv.take q).length = q := by rw [List.length_take]; omega
  by_cases j1 : j < q
  · rw [List.append_assoc, List.append_assoc, List.getElem?_append_left (by omega), List.getElem?_append_left (by omega), List.getElem?_take, List.getElem?_take, if_pos (by omega), if_pos j1]
    exact h j hj
  · by_cases j2 : j < q + xs.length
    · have a1 : (A.take (o + q) ++ (xs ++ A.drop (o + q + xs.length)))[o + j]? = xs[j - q]? := by
        rw [List.getElem?_append_right (by omega), e1, List.getElem?_append_left (by omega)]; congr 1; omega
      have a2 : (cv.take q ++ (xs ++ cv.drop (q + xs.length)))[j]? = xs[j - q]? := by
        rw [List.getElem?_append_right (by omega), e2, List.getElem?_append_left (by omega)]
      rw [List.append_assoc, List.append_assoc, a1, a2]
    · have e3 : (A.take (o + q) ++ xs).length = o + q + xs.length := by rw [List.length_append, e1]
      have e4 : (cv.take q ++ xs).length = q + xs.length := by rw [List.length_append, e2]
      rw [List.getElem?_append_right (by omega), List.getElem?_append_right (by omega), e3, e4, List.getElem?_drop, List.getElem?_drop]
      rw [show o + q + xs.length + (o + j - (o + q + xs.length)) = o + j by omega, show q + xs.length + (j - (q + xs.length)) = j by omega]
      exact h j hj

section
variable {P : Program} {c : Ctx} {F : Nat → Prop} {l : Locs} {ob : List AObj} {w : World}

/-- What a pointer is good for. -/
def PtrTo (w : World) (F : Nat → Prop) (l : Locs) (cs : List PV) (v : Value) : Prop :=
  ∃ b off cv, v = .pointer (some ⟨b, off, none⟩) ∧ RL w F l cs cv ∧ (∀ j x, cv[j]? = some x → w.cell? ⟨b, off + j, none⟩ = some x) ∧ ∀ x ∈ cv, x.oneCell' = true

theorem ldC_sound (R : RepW c F l ob w) {forb : List Nat} {p : PV} {v : Value} {n : Nat} {cs : List PV} (hp : R1 w F l p v) (h : ldC ob forb p n = some cs) : PtrTo w F l cs v ∧ cs.length = n := by
  cases hp with
  | @ref l o off L ho hb =>
    simp only [ldC] at h
    split at h
    · cases h
    split at h
    · rename_i cells hob
      split at h
      · rename_i hlen
        cases h
        rcases R.objs o _ hob with h1 | ⟨L', h1, h2⟩
        · simp at h1
        rw [ho] at h1; cases h1
        obtain ⟨h3, h4, cv, e, h5, h6, h7⟩ := h2
        refine ⟨⟨L.blk, off, (cv.drop off).take n, rfl, (h6.drop off).take n, fun j x hx => ?_, fun x hx => h7 x (List.mem_of_mem_drop (List.mem_of_mem_take hx))⟩, ?_⟩
        · rw [cell_of_block h5]
          have := (getElem?_take_drop _ _ _ _ _ hx).1
          simpa using this
        · simp; omega
      · cases h
    · rename_i t cells hob
      split at h
      · rename_i hlen
        cases h
        rcases R.objs o _ hob with h1 | ⟨L', h1, h2⟩
        · simp at h1
        rw [ho] at h1; cases h1
        obtain ⟨h3, h4, cv, h5, h6, h7⟩ := h2
        refine ⟨⟨L.blk, off, (cv.drop off).take n, rfl, (h6.drop off).take n, fun j x hx => ?_, fun x hx => h7 x (List.mem_of_mem_drop (List.mem_of_mem_take hx))⟩, ?_⟩
        · rw [cell_of_block h5]
          have := (getElem?_take_drop _ _ _ _ _ hx).1
          simpa using this
        · simp; omega
      · cases h
    · cases h
  | @lref l o i off len L v ho hb hn hv hh =>
    simp only [ldC] at h
    split at h
    · cases h
    split at h
    · rename_i esz rows hob
      split at h
      · rename_i hlen
        split at h
        · rename_i r hr
          split at h
          · rename_i hoff
            cases h
            rcases R.objs o _ hob with h1 | ⟨L', h1, h2⟩
            · simp at h1
            rw [ho] at h1; cases h1
            obtain ⟨h3, h4, h5, h6, h7⟩ := h2
            rcases h7 with ⟨h7, h8⟩ | ⟨h7, h8, h9, cc, e, fr, cv, h10, h11, h12, h13, h14, h15⟩
            · subst h8; simp at hr
            · obtain ⟨hst, hveq⟩ := hh (by omega)
              subst hveq
              have hil : i < rows.length := (List.getElem?_eq_some_iff.1 hr).1
              have hrl : r.length = esz := h6 r (List.mem_of_getElem? hr)
              have hd : ∀ r ∈ rows.drop L.st, r.length = esz := fun x hx => h6 x (List.mem_of_mem_drop hx)
              have hr' : (rows.drop L.st)[i - L.st]? = some r := by rw [List.getElem?_drop, show L.st + (i - L.st) = i by omega]; exact hr
              have hrow := flatten_row hd hr'
              have e1 : (r.drop off).take n = ((rows.drop L.st).flatten.drop ((i - L.st) * esz + off)).take n := by
                rw [← hrow, List.drop_take, List.take_take, List.drop_drop, Nat.min_eq_left (by omega)]
              refine ⟨⟨_, _, (cv.drop ((i - L.st) * esz + off)).take n, rfl, ?_, fun j x hx => ?_, fun x hx => h15 x (List.mem_of_mem_drop (List.mem_of_mem_take hx))⟩, ?_⟩
              · rw [e1]; exact ((h13.drop _).take n).free
              · rw [cell_of_block h10]
                have h16 := (getElem?_take_drop _ _ _ _ _ hx).1
                have h17 : (i - L.st) * esz + off + j < cv.length := (List.getElem?_eq_some_iff.1 h16).1
                rw [← h16, ← h14 _ h17, h5]
                congr 1; omega
              · simp; omega
          · cases h
        · cases h
      · cases h
    · cases h
  | @fptr l cells b off cv hF hc hl hh =>
    simp only [ldC] at h
    split at h
    · cases h
      obtain ⟨⟨cc, e, fr, h1, h2⟩, h3⟩ := hc
      refine ⟨⟨b, off, cv.take n, rfl, (RL.take n ⟨hl, hh⟩).free, fun j x hx => ?_, fun x hx => h3 x (List.mem_of_mem_take hx)⟩, ?_⟩
      · rw [cell_of_block h1]
        rw [List.getElem?_take] at hx
        split at hx
        · rw [h2 j (List.getElem?_eq_some_iff.1 hx).1]; exact hx
        · cases hx
      · simp; omega
    · cases h
  | _ => simp [ldC] at h

theorem run_loadCells_ptr {b off n : Nat} {cv : List Value} (hl : cv.length = n) (h : ∀ j x, cv[j]? = some x → w.cell? ⟨b, off + j, none⟩ = some x) :
    (loadCells ⟨b, off, none⟩ n).run P w = .ok cv.toArray w := by
  subst hl
  refine run_loadCells_list w ⟨b, off, none⟩ cv fun j v hv => ?_
  rw [Addr.add_lit]; exact h j v hv

theorem run_storeCells_free (g o : Nat) (t : TypeId) (fr : Nat × Nat) : ∀ (vs : List Value) (i : Nat) (cur : Array Value) (w : World), w.heap[g]? = some (.cells cur t fr) → Free fr cur.size → o + i + vs.length ≤ cur.size → (∀ v ∈ vs, v.oneCell' = true) →
    (storeCells ⟨g, o, none⟩ vs i).run P w = .ok () (w.setRow g (cur.toList.take (o + i) ++ vs ++ cur.toList.drop (o + i + vs.length)).toArray)
  | [], i, cur, w, hg, _, _, _ => by
    simp only [storeCells, List.append_nil, List.length_nil, Nat.add_zero, List.take_append_drop, Array.toArray_toList]
    rw [setRow_self w g cur t fr hg]
    rfl
  | v :: rest, i, cur, w, hg, hf, hl, h1 => by
    have hi : o + i < cur.size := by simp at hl; omega
    have hadd : (⟨g, o, none⟩ : Addr).add i = ⟨g, o + i, none⟩ := by unfold Addr.add; split <;> simp_all
    have hcell : w.cell? ⟨g, o + i, none⟩ = some cur[o + i] := by simp [World.cell?, hg, hi]
    have hfro : w.frozen? ⟨g, o + i, none⟩ = false := frozen_of_block hg hf hi
    have hst : (store ((⟨g, o, none⟩ : Addr).add i) v).run P w = .ok () (w.setRow g (cur.setIfInBounds (o + i) v)) := by
      rw [hadd, run_store P w _ v _ (h1 v (by simp)), hcell]
      simp [hfro, setCell_eq_setRow w g (o + i) cur t fr v hg]
    have ih := run_storeCells_free g o t fr rest (i + 1) (cur.setIfInBounds (o + i) v) (w.setRow g (cur.setIfInBounds (o + i) v)) (setRow_heap w g cur _ t _ hg) (by simpa using hf) (by simp at hl ⊢; omega) (fun x hx => h1 x (by simp [hx]))
    simp only [storeCells, Sem.run_bind, hst, Result.andThen_ok, ih, setRow_setRow]
    congr 3
    have e := list_seg_step cur.toList (o + i) v rest (by simp at hl ⊢; omega)
    simpa [Array.toList_setIfInBounds, Nat.add_assoc] using e

theorem setRow_below {w : World} {g : Nat} (cs : Array Value) : (w.setRow g cs).os = w.os ∧ (w.setRow g cs).tape = w.tape ∧ (w.setRow g cs).output = w.output ∧ (w.setRow g cs).heap.size = w.heap.size := ⟨rfl, rfl, rfl, by simp⟩

theorem setAt_length {cs : List PV} {off : Nat} {vs : List PV} (h : off + vs.length ≤ cs.length) : (setAt cs off vs).length = cs.length := by
  simp [setAt]; omega

theorem RL.setAt {cs : List PV} {cv : List Value} {off : Nat} {vs : List PV} {xs : List Value} (h : RL w F l cs cv) (hv : RL w F l vs xs) : RL w F l (setAt cs off vs) (cv.take off ++ xs ++ cv.drop (off + xs.length)) := by
  unfold Aw.setAt
  rw [List.append_assoc, ← hv.1]
  exact (h.take off).append (hv.append (h.drop _))

theorem flatten_set {esz : Nat} {rows : List (List PV)} {i : Nat} {r r' : List PV} (h : ∀ r ∈ rows, r.length = esz) (hi : rows[i]? = some r) (hr' : r'.length = esz) :
    (rows.set i r').flatten = rows.flatten.take (i * esz) ++ r' ++ rows.flatten.drop (i * esz + esz) := by
  obtain ⟨hlt, he⟩ := List.getElem?_eq_some_iff.1 hi
  rw [List.set_eq_take_append_cons_drop, if_pos hlt, List.flatten_append, List.flatten_cons, flatten_take rows i h, flatten_drop rows (i + 1) h, List.append_assoc]
  congr 3
  rw [Nat.add_mul]; omega

theorem stC_sound (R : RepW c F l ob w) {forb : List Nat} {p : PV} {v : Value} {cs : List PV} {xs : List Value} {ob' : List AObj} (hp : R1 w F l p v) (h : stC ob forb p cs = some ob') (hcs : RL w F l cs xs) (hone : ∀ x ∈ xs, x.oneCell' = true) :
    ∃ b off w' l', v = .pointer (some ⟨b, off, none⟩) ∧ (storeCells ⟨b, off, none⟩ xs).run P w = .ok () w' ∧ RepW c F l' ob' w' ∧ Mono w F l w' F l' := by
  cases hp with
  | @ref l o off L ho hb =>
    simp only [stC] at h
    split at h
    · cases h
    split at h
    · rename_i cells hob
      split at h
      · rename_i hlen
        cases h
        rcases R.objs o _ hob with h1 | ⟨L', h1, h2⟩
        · simp at h1
        rw [ho] at h1; cases h1
        obtain ⟨h3, h4, cv, e, h5, h6, h7⟩ := h2
        have hrun := run_storeCells_free (P := P) L.blk off e (0, 0) xs 0 cv.toArray w h5 (fun j _ hj => by omega) (by have := h6.1; have := hcs.1; simp; omega) hone
        simp only [Nat.add_zero] at hrun
        have hb4 := setRow_below (w := w) (g := L.blk) (cv.toArray.toList.take off ++ xs ++ cv.toArray.toList.drop (off + xs.length)).toArray
        have hone' : ∀ x ∈ cv.take off ++ xs ++ cv.drop (off + xs.length), x.oneCell' = true := by
          intro x hx
          simp only [List.mem_append] at hx
          rcases hx with (hx | hx) | hx
          · exact h7 x (List.mem_of_mem_take hx)
          · exact hone x hx
          · exact h7 x (List.mem_of_mem_drop hx)
        obtain ⟨R', m'⟩ := R.change (L := L) (L' := L) (a' := .box (Aw.setAt cells off cs)) ho (R.lt o L ho) hb4.1 hb4.2.1 hb4.2.2.1 (Nat.le_of_eq hb4.2.2.2.symm) (fun b _ hb' => setRow_other w _ _ _ (hb' h4)) (.inl rfl) (fun _ => .inl ⟨h4, rfl⟩)
          (fun m => ⟨hb, h4, cv.take off ++ xs ++ cv.drop (off + xs.length), e, by have := setRow_heap w L.blk cv.toArray (cv.take off ++ xs ++ cv.drop (off + xs.length)).toArray e (0, 0) h5; simpa using this, (RL.setAt h6 hcs).up m, hone'⟩)
        exact ⟨_, _, _, _, rfl, hrun, R', m'⟩
      · cases h
    · rename_i t cells hob
      split at h
      · rename_i hlen
        cases h
        rcases R.objs o _ hob with h1 | ⟨L', h1, h2⟩
        · simp at h1
        rw [ho] at h1; cases h1
        obtain ⟨h3, h4, cv, h5, h6, h7⟩ := h2
        have hrun := run_storeCells_free (P := P) L.blk off t (0, 0) xs 0 cv.toArray w h5 (fun j _ hj => by omega) (by have := h6.1; have := hcs.1; simp; omega) hone
        simp only [Nat.add_zero] at hrun
        have hb4 := setRow_below (w := w) (g := L.blk) (cv.toArray.toList.take off ++ xs ++ cv.toArray.toList.drop (off + xs.length)).toArray
        have hone' : ∀ x ∈ cv.take off ++ xs ++ cv.drop (off + xs.length), x.oneCell' = true := by
          intro x hx
          simp only [List.mem_append] at hx
          rcases hx with (hx | hx) | hx
          · exact h7 x (List.mem_of_mem_take hx)
          · exact hone x hx
          · exact h7 x (List.mem_of_mem_drop hx)
        obtain ⟨R', m'⟩ := R.change (L := L) (L' := L) (a' := .tbox t (Aw.setAt cells off cs)) ho (R.lt o L ho) hb4.1 hb4.2.1 hb4.2.2.1 (Nat.le_of_eq hb4.2.2.2.symm) (fun b _ hb' => setRow_other w _ _ _ (hb' h4)) (.inl rfl) (fun _ => .inl ⟨h4, rfl⟩)
          (fun m => ⟨hb, h4, cv.take off ++ xs ++ cv.drop (off + xs.length), by have := setRow_heap w L.blk cv.toArray (cv.take off ++ xs ++ cv.drop (off + xs.length)).toArray t (0, 0) h5; simpa using this, (RL.setAt h6 hcs).up m, hone'⟩)
        exact ⟨_, _, _, _, rfl, hrun, R', m'⟩
      · cases h
    · cases h
  | @lref l o i off len L v ho hb hn hv hh =>
    simp only [stC] at h
    split at h
    · cases h
    rename_i hforb
    simp only [Bool.or_eq_true, not_or, Bool.not_eq_true] at hforb
    split at h
    · rename_i esz rows hob
      split at h
      · rename_i hlen
        split at h
        · rename_i r hr
          split at h
          · rename_i hoff
            cases h
            rcases R.objs o _ hob with h1 | ⟨L', h1, h2⟩
            · simp at h1
            rw [ho] at h1; cases h1
            obtain ⟨h3, h4, h5, h6, h7⟩ := h2
            rcases h7 with ⟨h7, h8⟩ | ⟨h7, h8, h9, cc, e, fr, cv, h10, h11, h12, h13, h14, h15⟩
            · subst h8; simp at hr
            · obtain ⟨hst, hveq⟩ := hh (by omega)
              subst hveq
              have hil : i < rows.length := (List.getElem?_eq_some_iff.1 hr).1
              have hrl : r.length = esz := h6 r (List.mem_of_getElem? hr)
              have hd : ∀ r ∈ rows.drop L.st, r.length = esz := fun x hx => h6 x (List.mem_of_mem_drop hx)
              have hr' : (rows.drop L.st)[i - L.st]? = some r := by rw [List.getElem?_drop, show L.st + (i - L.st) = i by omega]; exact hr
              have hfl := flatten_len _ hd
              have hcvl : cv.length = (rows.length - L.st) * esz := by rw [← h13.1, hfl, List.length_drop]
              have hxl : cs.length = xs.length := hcs.1
              have hile : (i - L.st) * esz + esz ≤ (rows.length - L.st) * esz := by
                rw [← Nat.succ_mul]; exact Nat.mul_le_mul_right _ (by omega)
              have hcvc : (rows.length - L.st) * esz ≤ (L.cap - L.st) * esz := Nat.mul_le_mul_right _ (by omega)
              have hrun := run_storeCells_free (P := P) L.blk (L.off + (i - L.st) * L.esz + off) e fr xs 0 cc w h10 h11 (by rw [h5]; omega) hone
              simp only [Nat.add_zero] at hrun
              have hb4 := setRow_below (w := w) (g := L.blk) (cc.toList.take (L.off + (i - L.st) * L.esz + off) ++ xs ++ cc.toList.drop (L.off + (i - L.st) * L.esz + off + xs.length)).toArray
              have hrow : (rows.drop L.st).flatten.drop ((i - L.st) * esz) = r ++ (rows.drop L.st).flatten.drop ((i - L.st) * esz + esz) := by
                have e1 := flatten_row hd hr'
                rw [← List.take_append_drop esz ((rows.drop L.st).flatten.drop ((i - L.st) * esz)), e1, List.drop_drop]
              have hnew : ((rows.set i (Aw.setAt r off cs)).drop L.st).flatten = Aw.setAt (rows.drop L.st).flatten ((i - L.st) * esz + off) cs := by
                rw [List.drop_set, if_neg (by omega), flatten_set hd hr' (by rw [setAt_length (by omega), hrl])]
                have e2 : (rows.drop L.st).flatten = (rows.drop L.st).flatten.take ((i - L.st) * esz) ++ (r ++ (rows.drop L.st).flatten.drop ((i - L.st) * esz + esz)) := by
                  rw [← hrow, List.take_append_drop]
                have e3 : ((rows.drop L.st).flatten.take ((i - L.st) * esz)).length = (i - L.st) * esz := by
                  rw [List.length_take, hfl, List.length_drop]; omega
                unfold Aw.setAt
                conv => rhs; rw [e2]
                rw [List.take_append, e3, List.take_of_length_le (l := (rows.drop L.st).flatten.take ((i - L.st) * esz)) (by rw [e3]; omega), List.drop_append, List.drop_eq_nil_of_le (as := (rows.drop L.st).flatten.take ((i - L.st) * esz)) (by rw [e3]; omega), e3]
                rw [List.take_append, List.drop_append, List.nil_append]
                rw [show (i - L.st) * esz + off - (i - L.st) * esz = off by omega, show (i - L.st) * esz + off + cs.length - (i - L.st) * esz = off + cs.length by omega]
                rw [show off - r.length = 0 by omega, show off + cs.length - r.length = 0 by omega]
                simp only [List.take_zero, List.append_nil, List.drop_zero, List.append_assoc]
              have k1 : ∀ x ∈ rows.set i (Aw.setAt r off cs), x.length = esz := by
                intro x hx
                rcases List.mem_or_eq_of_mem_set hx with hx | rfl
                · exact h6 x hx
                · rw [setAt_length (by omega), hrl]
              have k2 : ∀ j, j < (cv.take ((i - L.st) * esz + off) ++ xs ++ cv.drop ((i - L.st) * esz + off + xs.length)).length → ((cc.toList.take (L.off + (i - L.st) * L.esz + off) ++ xs ++ cc.toList.drop (L.off + (i - L.st) * L.esz + off + xs.length)).toArray)[L.off + j]? = (cv.take ((i - L.st) * esz + off) ++ xs ++ cv.drop ((i - L.st) * esz + off + xs.length))[j]? := by
                intro j hj
                rw [h5, List.getElem?_toArray, Nat.add_assoc L.off]
                exact splice_get xs cv L.off _ (fun j hj => by have := h14 j hj; simpa using this) (by simp; omega) (by omega) j (by simp at hj; omega)
              have k3 : ∀ x ∈ cv.take ((i - L.st) * esz + off) ++ xs ++ cv.drop ((i - L.st) * esz + off + xs.length), x.oneCell' = true := by
                intro x hx
                simp only [List.mem_append] at hx
                rcases hx with (hx | hx) | hx
                · exact h15 x (List.mem_of_mem_take hx)
                · exact hone x hx
                · exact h15 x (List.mem_of_mem_drop hx)
              have k4 : ((cc.toList.take (L.off + (i - L.st) * L.esz + off) ++ xs ++ cc.toList.drop (L.off + (i - L.st) * L.esz + off + xs.length)).toArray).size = cc.size := by
                rw [h5]; simp; omega
              obtain ⟨R', m'⟩ := R.change (L := L) (L' := L) (a' := .list esz (rows.set i (Aw.setAt r off cs))) ho (R.lt o L ho) hb4.1 hb4.2.1 hb4.2.2.1 (Nat.le_of_eq hb4.2.2.2.symm) (fun b _ hb' => setRow_other w _ _ _ (hb' h7)) (.inl rfl) (fun _ => .inl ⟨h7, rfl⟩)
                (fun m => ⟨hb, by simpa using h4, h5, k1, .inr ⟨h7, by simpa using h8, by simpa using h9, _, e, fr, cv.take ((i - L.st) * esz + off) ++ xs ++ cv.drop ((i - L.st) * esz + off + xs.length), setRow_heap w L.blk cc _ e fr h10, by rw [k4]; exact h11, by rw [k4]; exact h12, by rw [hnew]; exact (RL.setAt h13 (hcs.noOwn hforb.2 _)).up ⟨m.frz, m.heap, LocExt.refl _⟩, k2, k3⟩⟩)
              exact ⟨_, _, _, _, rfl, hrun, R', m'⟩
          · cases h
        · cases h
      · cases h
    · cases h
  | _ => simp [stC] at h

theorem byteRows_flat (b : List UInt8) : (byteRows b).flatten = b.map fun x => .int .u8 x.toNat := by
  unfold byteRows
  induction b with
  | nil => rfl
  | cons x xs ih => rw [List.map_cons, List.flatten_cons, ih]; rfl

theorem byteRows_len (b : List UInt8) : ∀ r ∈ byteRows b, r.length = 1 := by
  intro r hr
  obtain ⟨x, _, rfl⟩ := List.mem_map.1 hr
  rfl

theorem RL_bytes (b : List UInt8) : RL w F l (byteRows b).flatten (b.map fun x => Value.int .u8 x.toNat) := by
  rw [byteRows_flat]
  induction b with
  | nil => exact RL.nil
  | cons x xs ih => exact RL.cons (.int _ _) ih


/-- What a buffer's slice is. -/
theorem buf_val (R : RepW c F l ob w) {o n : Nat} {u : TypeId} {bs : List UInt8} {v : Value} (hp : R1 w F l (.osl o 0 n) v) (hob : ob[o]? = some (.buf u bs)) (hn : n = bs.length) :
    ∃ L, l o = some L ∧ ObjRep w F l (.buf u bs) L ∧ ((L.nil = true ∧ bs = [] ∧ v = .slice none 0 0) ∨ (L.nil = false ∧ bs ≠ [] ∧ v = .slice (some ⟨L.blk, 0, none⟩) n L.cap)) := by
  cases hp with
  | @osl l o i n L v ho hb hlen hv hh =>
    rcases R.objs o _ hob with h1 | ⟨L', h1, h2⟩
    · simp at h1
    rw [ho] at h1; cases h1
    refine ⟨L, ho, h2, ?_⟩
    obtain ⟨h3, h4, h5, h6, h7, h8⟩ := h2
    rcases hh (by omega) with ⟨k1, k2, k3, k4⟩ | ⟨k1, k2, a, k3, k4⟩
    · exact .inl ⟨k1, List.eq_nil_of_length_eq_zero (by omega), k4⟩
    · rcases h8 with ⟨q, _⟩ | ⟨q1, q2, cc, fz, q3, q4, q5, q6, q7, q8⟩
      · rw [q] at k1; cases k1
      · have hpos : 0 < bs.length := List.length_pos_iff.2 q2
        have := k4 (by omega)
        rw [h5, h6, h7] at this
        exact .inr ⟨k1, q2, by rw [k3, this]; simp⟩

/-- What a slice's rows are good for. -/
theorem rowsOf_sound (R : RepW c F l ob w) {forb : List Nat} {p : PV} {v : Value} {rows : List (List PV)} (hp : R1 w F l p v) (h : rowsOf ob forb p = some rows) :
    ∃ a cap, v = .slice a rows.length cap ∧ rows.length ≤ cap ∧ (rows = [] ∨ ∃ b off cv esz, a = some ⟨b, off, none⟩ ∧ (∀ r ∈ rows, r.length = esz) ∧ RL w F (fun _ => none) rows.flatten cv ∧
      (∀ j x, cv[j]? = some x → w.cell? ⟨b, off + j, none⟩ = some x) ∧ ∀ x ∈ cv, x.oneCell' = true) := by
  cases hp with
  | nils => simp only [rowsOf, Option.some.injEq] at h; subst h; exact ⟨none, 0, rfl, Nat.le_refl _, .inl rfl⟩
  | slc0 a cap => simp only [rowsOf, Option.some.injEq] at h; subst h; exact ⟨a, cap, rfl, Nat.zero_le _, .inl rfl⟩
  | @slcN l rows' b off cap cv esz hne hcap hF hc hr hl hh =>
    simp only [rowsOf, Option.some.injEq] at h; subst h
    obtain ⟨⟨cc, e, fr, h1, h2⟩, h3⟩ := hc
    refine ⟨_, cap, rfl, hcap, .inr ⟨b, off, cv, esz, rfl, hr, ⟨hl, hh⟩, fun j x hx => ?_, h3⟩⟩
    rw [cell_of_block h1, h2 j (List.getElem?_eq_some_iff.1 hx).1]; exact hx
  | @osl l o i n L v ho hb hn hv hh =>
    simp only [rowsOf] at h
    split at h
    · cases h
    split at h
    · rename_i esz rows' hob
      split at h
      · rename_i hcur
        cases h
        rcases R.objs o _ hob with h1 | ⟨L', h1, h2⟩
        · simp at h1
        rw [ho] at h1; cases h1
        obtain ⟨h3, h4, h5, h6, h7⟩ := h2
        rcases hh (by omega) with ⟨k1, k2, k3, k4⟩ | ⟨k1, k2, a, k3, k4⟩
        · subst k2; subst k3; subst k4
          have : rows' = [] := List.eq_nil_of_length_eq_zero (by omega)
          subst this
          exact ⟨none, 0, rfl, by simp, .inl rfl⟩
        · rcases h7 with ⟨h7, h8⟩ | ⟨h7, h8, h9, cc, e, fr, cv, h10, h11, h12, h13, h14, h15⟩
          · rw [h7] at k1; cases k1
          · subst k3
            refine ⟨some a, L.cap - i, by simp; omega, by simp; omega, ?_⟩
            by_cases hi : i < L.cap
            · right
              have hd : ∀ r ∈ rows'.drop L.st, r.length = esz := fun x hx => h6 x (List.mem_of_mem_drop hx)
              have e1 : (rows'.drop i).flatten = (rows'.drop L.st).flatten.drop ((i - L.st) * esz) := by
                rw [← flatten_drop _ _ hd, List.drop_drop]; congr 2; omega
              refine ⟨L.blk, L.off + (i - L.st) * L.esz, cv.drop ((i - L.st) * esz), esz, by rw [k4 hi], fun r hr => h6 r (List.mem_of_mem_drop hr), by rw [e1]; exact h13.drop _, fun j x hx => ?_, fun x hx => h15 x (List.mem_of_mem_drop hx)⟩
              rw [cell_of_block h10]
              rw [List.getElem?_drop] at hx
              have := (List.getElem?_eq_some_iff.1 hx).1
              rw [← hx, ← h14 _ this, h5]
              congr 1; omega
            · left
              exact List.drop_eq_nil_of_le (by omega)
      · cases h
    · rename_i u bs hob
      split at h
      · rename_i hcur
        obtain ⟨rfl, hcur⟩ := hcur
        cases h
        obtain ⟨L', g1, g2, g3⟩ := buf_val R (.osl ho hb hn hv hh) hob hcur
        have hlb : (byteRows bs).length = bs.length := by simp [byteRows]
        rcases g3 with ⟨g3, g4, g5⟩ | ⟨g3, g4, g5⟩
        · subst g4
          exact ⟨none, 0, by rw [g5]; rfl, by simp [byteRows], .inl rfl⟩
        · obtain ⟨h3, h4, h5, h6, h7, h8⟩ := g2
          rcases h8 with ⟨q, _⟩ | ⟨q1, q2, cc, fz, q3, q4, q5, q6, q7, q8⟩
          · rw [q] at g3; cases g3
          · refine ⟨_, L'.cap, by rw [g5, hlb, hcur], by rw [hlb]; exact q5, .inr ⟨L'.blk, 0, bs.map fun x => Value.int .u8 x.toNat, 1, rfl, byteRows_len bs, RL_bytes bs, fun j x hx => ?_, fun x hx => ?_⟩⟩
            · rw [cell_of_block q3, Nat.zero_add, ← Array.getElem?_toList]
              have hx' : (Lib.byteCells bs)[j]? = some x := hx
              rw [← q8, List.getElem?_take] at hx'
              split at hx'
              · exact hx'
              · cases hx'
            · obtain ⟨y, _, rfl⟩ := List.mem_map.1 hx; rfl
      · cases h
    · cases h
  | @bsl l o off n cap L ho hb hn =>
    simp only [rowsOf] at h
    split at h
    · cases h
    split at h
    · rename_i cells hob
      split at h
      · rename_i hcond
        cases h
        rcases R.objs o _ hob with h1 | ⟨L', h1, h2⟩
        · simp at h1
        rw [ho] at h1; cases h1
        obtain ⟨h3, h4, cv, e, h5, h6, h7⟩ := h2
        have hlen : (((cells.drop off).take n).map fun c => [c]).length = n := by simp; omega
        refine ⟨some ⟨L.blk, off, none⟩, cap, by rw [hlen], by rw [hlen]; exact hn, .inr ⟨L.blk, off, (cv.drop off).take n, 1, rfl, fun r hr => by (obtain ⟨y, _, rfl⟩ := List.mem_map.1 hr; rfl), ?_, fun j x hx => ?_, fun x hx => h7 x (List.mem_of_mem_drop (List.mem_of_mem_take hx))⟩⟩
        · rw [flatten_single]
          exact ((h6.noOwn hcond.2 _).drop _).take _
        · rw [cell_of_block h5]
          have := (getElem?_take_drop _ _ _ _ _ hx).1
          simpa using this
      · cases h
    · cases h
  | _ => simp [rowsOf] at h

end
end Go.Proofs.YtdgpiobmncohjaaGreat.Aw
