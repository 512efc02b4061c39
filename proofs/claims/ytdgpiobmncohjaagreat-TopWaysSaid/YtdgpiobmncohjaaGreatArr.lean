/-
  Slices over boxes: what a box shows through one, and what the operations on them come to. Plain laws of lists of cells, and of abstract objects.; slices.overlaps at two boxes.; slices.Insert of one, at both kinds of slices.; slices.Clone, Grow and Concat, at both kinds of slices.
-/
import Derived.Test.YtdgpiobmncohjaaGreatAwFit
import Derived.Test.YtdgpiobmncohjaaGreatKda
import Derived.Lib.Overlaps
set_option linter.unusedSimpArgs false
set_option linter.unusedVariables false
namespace Go.Proofs.YtdgpiobmncohjaaGreat.Aw
open Go.RowKit

/-- A slice over a box shows these cells; its room is the box's. -/
def Arr (ob : List AObj) (e o off n c : Nat) (xs : List PV) : Prop := ∃ cs, ob[o]? = some (.box cs) ∧ n ≤ c ∧ off + c * e ≤ cs.length ∧ (cs.drop off).take (n * e) = xs

theorem mul_le {n c e : Nat} (h : n ≤ c) : n * e ≤ c * e := Nat.mul_le_mul_right _ h
theorem Arr.len {ob : List AObj} {e o off n c : Nat} {xs : List PV} (h : Arr ob e o off n c xs) : xs.length = n * e := by
  obtain ⟨cs, h1, h2, h3, rfl⟩ := h
  have := mul_le (e := e) h2
  rw [List.length_take, List.length_drop]; omega
theorem Arr.lt {ob : List AObj} {e o off n c : Nat} {xs : List PV} (h : Arr ob e o off n c xs) : o < ob.length := by
  obtain ⟨cs, h1, _⟩ := h
  exact (List.getElem?_eq_some_iff.1 h1).1
theorem Arr.keep {ob ob' : List AObj} {e o off n c : Nat} {xs : List PV} (h : Arr ob e o off n c xs) (hk : ob'[o]? = ob[o]?) : Arr ob' e o off n c xs := by
  obtain ⟨cs, h1, h2⟩ := h
  exact ⟨cs, hk.trans h1, h2⟩
/-- A part of a slice. -/
theorem Arr.slice {ob : List AObj} {e o off n c : Nat} {xs : List PV} (h : Arr ob e o off n c xs) {a b m : Nat} (hab : a ≤ b) (hbn : b ≤ n) (hbm : b ≤ m) (hm : m ≤ c) : Arr ob e o (off + a * e) (b - a) (m - a) ((xs.take (b * e)).drop (a * e)) := by
  obtain ⟨cs, h1, h2, h3, h4⟩ := h
  have e1 := mul_le (e := e) hab
  have e2 := mul_le (e := e) hm
  have e3 := mul_le (e := e) hbn
  have e4 := mul_le (e := e) hbm
  refine ⟨cs, h1, by omega, by rw [Nat.sub_mul]; omega, ?_⟩
  rw [← h4, List.take_take, Nat.min_eq_left e3, List.drop_take, List.drop_drop, Nat.sub_mul]
theorem arrSrc_asl {ob : List AObj} {e o off n c : Nat} {cs : List PV} (h : ob[o]? = some (.box cs)) (hl : off + n * e ≤ cs.length) : arrSrc ob e (.asl o off n c) = some ((cs.drop off).take (n * e)) := by
  simp only [arrSrc]
  split
  · rename_i h0; subst h0; simp
  · simp only [arrSrcO, h]; rw [if_pos hl]
theorem Arr.src {ob : List AObj} {e o off n c : Nat} {xs : List PV} (h : Arr ob e o off n c xs) : arrSrc ob e (.asl o off n c) = some xs := by
  obtain ⟨cs, h1, h2, h3, rfl⟩ := h
  exact arrSrc_asl h1 (by have := mul_le (e := e) h2; omega)

section
variable {ob : List AObj} {e o off n c : Nat} {z : List PV} {y : PV} {K : PV → List AObj → Prop}
theorem MS_app {m : Nat} {ys : List PV} (hm : arrLen y = m) (hm0 : 0 < m) (hy : arrSrc ob e y = some ys) (h1 : n + m ≤ c → ∃ cs, ob[o]? = some (.box cs) ∧ off + n * e + ys.length ≤ cs.length ∧ K (.asl o off (n + m) c) (ob.set o (.box (setAt cs (off + n * e) ys))))
    (h2 : c < n + m → ∃ xs, arrSrc ob e (.asl o off n c) = some xs ∧ aGrow n m z xs ys ob K) : MStep (.aapp e z) [.asl o off n c, y] ob K := by
  simp only [MStep, hm, hy, aAppY]
  rw [if_neg (by omega)]
  split
  · rename_i h
    obtain ⟨cs, g1, g2, g3⟩ := h1 h
    rw [g1]; exact ⟨g2, g3⟩
  · rename_i h
    obtain ⟨xs, g1, g2⟩ := h2 (by omega)
    rw [g1]; exact g2
theorem MS_app0 (hm : arrLen y = 0) {ys : List PV} (hy : arrSrc ob e y = some ys) (h : K (.asl o off n c) ob) : MStep (.aapp e z) [.asl o off n c, y] ob K := by
  simp only [MStep, hm, hy, aAppY, if_true]; exact h
theorem MS_apz {k : Int} {kn : Nat} {xs : List PV} (hk : k = (kn : Int)) (h0 : 0 < kn) (hc : c < n + kn) (hx : arrSrc ob e (.asl o off n c) = some xs) (hg : aGrow n kn z xs (List.replicate kn z).flatten ob K) : MStep (.aapz e z) [.asl o off n c, .int .i64 k] ob K := by
  subst hk
  simp only [MStep, aApzY, Int.toNat_natCast, hx, aGrowO]
  exact ⟨by omega, hc, hg⟩
theorem MS_apz0 {k : Int} {kn : Nat} (hk : k = (kn : Int)) (h0 : 0 < kn) (hg : aGrow 0 kn z [] (List.replicate kn z).flatten ob K) : MStep (.aapz e z) [.nils, .int .i64 k] ob K := by
  subst hk
  simp only [MStep, aApzY, Int.toNat_natCast]
  exact ⟨by omega, hg⟩
theorem MS_cpy {m k : Nat} {ys cs : List PV} (hm : arrLen y = m) (hk : min m n = k) (hk0 : 0 < k) (hy : arrSrc ob e y = some ys) (hob : ob[o]? = some (.box cs)) (hl : off + (ys.take (k * e)).length ≤ cs.length) (h : K (.int .i64 (k : Int)) (ob.set o (.box (setAt cs off (ys.take (k * e)))))) :
    MStep (.acpy e) [.asl o off n c, y] ob K := by
  simp only [MStep, hm, hy, aCpyY, hk]
  rw [if_neg (by omega), hob]; exact ⟨hl, h⟩
theorem MS_clr {cs : List PV} (h0 : 0 < n) (hob : ob[o]? = some (.box cs)) (hl : off + (List.replicate n z).flatten.length ≤ cs.length) (h : K (.tup []) (ob.set o (.box (setAt cs off (List.replicate n z).flatten)))) : MStep (.aclr z) [.asl o off n c] ob K := by
  simp only [MStep, aClrX]
  rw [if_neg (by omega), hob]; exact ⟨hl, h⟩
end

theorem setAt_len {cs : List PV} {off : Nat} {vs : List PV} (h : off + vs.length ≤ cs.length) : (setAt cs off vs).length = cs.length := setAt_length h
theorem setAt_get {cs : List PV} {off : Nat} {vs : List PV} (h : off + vs.length ≤ cs.length) (j : Nat) : (setAt cs off vs)[j]? = if off ≤ j ∧ j < off + vs.length then vs[j - off]? else cs[j]? := by
  have e1 : (cs.take off).length = off := by rw [List.length_take]; omega
  unfold setAt
  by_cases h1 : j < off
  · rw [List.getElem?_append_left (by omega), List.getElem?_take, if_pos h1, if_neg (by omega)]
  · by_cases h2 : j < off + vs.length
    · rw [List.getElem?_append_right (by omega), e1, List.getElem?_append_left (by omega), if_pos ⟨by omega, h2⟩]
    · rw [List.getElem?_append_right (by omega), e1, List.getElem?_append_right (by omega), if_neg (by omega), List.getElem?_drop]
      congr 1; omega

/-- Cells put among others, which make room. -/
theorem cells_shift {cs row : List PV} {off a b e : Nat} (hr : row.length = e) (hab : a ≤ b) (hl : off + b + e ≤ cs.length) :
    ((setAt (setAt cs (off + a + e) (((cs.drop off).take b).drop a)) (off + a) row).drop off).take (b + e) = ((cs.drop off).take b).take a ++ (row ++ ((cs.drop off).take b).drop a) := by
  have l1 : ((cs.drop off).take b).length = b := by rw [List.length_take, List.length_drop]; omega
  have l2 : (((cs.drop off).take b).drop a).length = b - a := by rw [List.length_drop, l1]
  have l3 : (((cs.drop off).take b).take a).length = a := by rw [List.length_take, l1]; omega
  apply List.ext_getElem?
  intro j
  rw [List.getElem?_take, List.getElem?_drop, setAt_get (by rw [setAt_len (by omega)]; omega), setAt_get (by omega), l2, hr]
  by_cases h1 : j < a
  · rw [if_pos (by omega), if_neg (by omega), if_neg (by omega), List.getElem?_append_left (by omega), List.getElem?_take, if_pos h1, List.getElem?_take, if_pos (by omega), List.getElem?_drop]
  · by_cases h2 : j < a + e
    · rw [if_pos (by omega), if_pos (by omega), List.getElem?_append_right (by omega), l3, List.getElem?_append_left (by omega)]
      congr 1; omega
    · by_cases h3 : j < b + e
      · rw [if_pos h3, if_neg (by omega), if_pos (by omega), List.getElem?_append_right (by omega), l3, List.getElem?_append_right (by omega)]
        congr 1; omega
      · rw [if_neg h3, List.getElem?_append_right (by omega), l3, List.getElem?_append_right (by omega), List.getElem?_eq_none (by omega)]

/-- .. and laid in a new box one behind the other. -/
theorem cells_fresh {cs X row Y : List PV} {a b e : Nat} (hX : cs.take a = X) (hr : row.length = e) (hab : a ≤ b) (hY : Y.length = b - a) (hl : b + e ≤ cs.length) :
    ((setAt (setAt cs a row) (a + e) Y).drop 0).take (b + e) = X ++ (row ++ Y) := by
  have l3 : X.length = a := by rw [← hX, List.length_take]; omega
  apply List.ext_getElem?
  intro j
  rw [List.drop_zero, List.getElem?_take, setAt_get (by rw [setAt_len (by omega)]; omega), setAt_get (by omega), hY, hr]
  by_cases h1 : j < a
  · rw [if_pos (by omega), if_neg (by omega), if_neg (by omega), List.getElem?_append_left (by omega), ← hX, List.getElem?_take, if_pos h1]
  · by_cases h2 : j < a + e
    · rw [if_pos (by omega), if_neg (by omega), if_pos (by omega), List.getElem?_append_right (by omega), l3, List.getElem?_append_left (by omega)]
    · by_cases h3 : j < b + e
      · rw [if_pos h3, if_pos (by omega), List.getElem?_append_right (by omega), l3, List.getElem?_append_right (by omega)]
        congr 1; omega
      · rw [if_neg h3, List.getElem?_append_right (by omega), l3, List.getElem?_append_right (by omega), List.getElem?_eq_none (by omega)]

/-- Cells put behind those that are shown. -/
theorem cells_behind {cs row : List PV} {off b : Nat} (hl : off + b + row.length ≤ cs.length) :
    ((setAt cs (off + b) row).drop off).take (b + row.length) = (cs.drop off).take b ++ row := by
  have l1 : ((cs.drop off).take b).length = b := by rw [List.length_take, List.length_drop]; omega
  apply List.ext_getElem?
  intro j
  rw [List.getElem?_take, List.getElem?_drop, setAt_get (by omega)]
  by_cases h1 : j < b
  · rw [if_pos (by omega), if_neg (by omega), List.getElem?_append_left (by omega), List.getElem?_take, if_pos h1, List.getElem?_drop]
  · by_cases h2 : j < b + row.length
    · rw [if_pos h2, if_pos (by omega), List.getElem?_append_right (by omega), l1]
      congr 1; omega
    · rw [if_neg h2, List.getElem?_append_right (by omega), l1, List.getElem?_eq_none (by omega)]

/-- What of the objects stays: all but one, and there may be more. -/
def Same (ob ob' : List AObj) (T : Nat → Prop) : Prop := ob.length ≤ ob'.length ∧ ∀ j, j < ob.length → ¬ T j → ob'[j]? = ob[j]?
theorem Same.refl (ob : List AObj) (T : Nat → Prop) : Same ob ob T := ⟨Nat.le_refl _, fun _ _ _ => rfl⟩
theorem Same.trans {a b c : List AObj} {T : Nat → Prop} (h : Same a b T) (k : Same b c T) : Same a c T :=
  ⟨Nat.le_trans h.1 k.1, fun j hj hT => (k.2 j (Nat.lt_of_lt_of_le hj h.1) hT).trans (h.2 j hj hT)⟩
theorem Same.mono {a b : List AObj} {T U : Nat → Prop} (h : Same a b T) (hU : ∀ j, T j → U j) : Same a b U := ⟨h.1, fun j hj hT => h.2 j hj fun ht => hT (hU j ht)⟩
theorem Same.app (ob l : List AObj) (T : Nat → Prop) : Same ob (ob ++ l) T := ⟨by simp, fun j hj _ => List.getElem?_append_left hj⟩
theorem Same.set {ob : List AObj} {o : Nat} {a : AObj} {T : Nat → Prop} (h : T o) : Same ob (ob.set o a) T := ⟨by simp, fun j _ hT => by rw [List.getElem?_set_ne]; rintro rfl; exact hT h⟩
theorem Same.get {a b : List AObj} {T : Nat → Prop} (h : Same a b T) {j : Nat} {x : AObj} (hj : a[j]? = some x) (hT : ¬ T j) : b[j]? = some x := (h.2 j (List.getElem?_eq_some_iff.1 hj).1 hT).trans hj
theorem Same.arr {a b : List AObj} {T : Nat → Prop} (h : Same a b T) {e o off n c : Nat} {xs : List PV} (hA : Arr a e o off n c xs) (hT : ¬ T o) : Arr b e o off n c xs := hA.keep (h.2 o hA.lt hT)

/-- What comes of a slice of the caller's that was to be changed: the same box, or a new one. -/
structure ArrR (ob : List AObj) (e o n : Nat) (xs : List PV) (r : PV) (ob' : List AObj) : Prop where
  ex : ∃ q off c, r = .asl q off n c ∧ Arr ob' e q off n c xs ∧ (q = o ∨ ob.length ≤ q) ∧ Same ob ob' (· = q) ∧ c ≤ 9223372036854775807

end Go.Proofs.YtdgpiobmncohjaaGreat.Aw
namespace Go.Proofs.YtdgpiobmncohjaaGreat.Aw
open Go.RowKit
theorem flat_rep (n : Nat) (z : List PV) : (List.replicate n z).flatten.length = n * z.length := by
  induction n with
  | zero => simp
  | succ n ih => rw [List.replicate_succ, List.flatten_cons, List.length_append, ih, Nat.add_mul]; omega
theorem ovl_apart {P : Program} {w : World} {t r e : TypeId} {b1 b2 o1 o2 n m c d : Nat} {cv1 cv2 : List Value} {t1 t2 : TypeId} (hu : P.underlying t = some (.slice e)) (hi : (P.info? e).isSome = true) (hb : b1 ≠ b2) (h1 : w.heap[b1]? = some (.cells cv1.toArray t1 (0, 0))) (h2 : w.heap[b2]? = some (.cells cv2.toArray t2 (0, 0))) (h0 : cv2.length ≠ 0) :
    (Extern.SlicesOverlaps.overlaps #[t, t] #[r] [Value.slice (some ⟨b1, o1, none⟩) m c, Value.slice (some ⟨b2, o2, none⟩) n d].toArray).run P w = .ok (.bool false) w := by
  obtain ⟨i, hi⟩ := Option.isSome_iff_exists.1 hi
  refine Lib.run_overlaps_apart w t r e hu i.size (fun w => sizeOf_run hi) ⟨b1, o1, none⟩ ⟨b2, o2, none⟩ m c n d hb t1 t2 cv1.length cv2.length ?_ ?_ h0 ?_ ?_
  · simp [World.shape?, h1]
  · simp [World.shape?, h2]
  · simp only [World.frozen?, h1]; simp
  · simp only [World.frozen?, h1]; simp
end Go.Proofs.YtdgpiobmncohjaaGreat.Aw
namespace Go.Proofs.YtdgpiobmncohjaaGreat.Aw.Ar
open Go.RowKit
/-- What slices.overlaps says of two boxes. -/
theorem ovlE {ob : List AObj} {o off n c q offq m cq : Nat} {csq cso : List PV} (hne : q ≠ o) (hq : ob[q]? = some (.box csq)) (ho : ob[o]? = some (.box cso)) (hcso : cso ≠ []) (hcq : 0 < cq) (hc : 0 < c) : ECall Tryz.prog 93 [.asl q offq m cq, .asl o off n c] ob fun r ob' => r = .bool false ∧ ob' = ob := by
  refine ⟨⟨_, _, rfl, rfl⟩, fun cx w F l vs R hv => ?_⟩
  obtain ⟨v1, vs, rfl, h1, hv⟩ := hv.cons_inv
  obtain ⟨v2, vs, rfl, h2, hv⟩ := hv.cons_inv
  obtain rfl := hv.nil_inv
  obtain ⟨L1, a1, g1, g2, g3, g4, rfl⟩ := h1.asl_inv
  obtain ⟨L2, a2, k1, k2, k3, k4, rfl⟩ := h2.asl_inv
  refine ⟨.bool false, .bool false, ob, w, F, l, ?_, R, Mono.refl _ _ _, .bool _, rfl, rfl⟩
  rw [run_callFunc_extern Tryz.func93 (by kernel_rfl) (by kernel_rfl) (by kernel_rfl) (e := Extern.SlicesOverlaps.overlaps #[33, 33] #[4]) (by kernel_rfl)]
  have hrun : (Extern.SlicesOverlaps.overlaps #[33, 33] #[4] [Value.slice (some a1) m cq, Value.slice (some a2) n c].toArray).run Tryz.prog w = .ok (.bool false) w := by
    have e1 := g4 hcq
    have e2 := k4 hc
    subst e1; subst e2
    rcases R.objs q _ hq with f1 | ⟨L', f1, f2⟩
    · simp at f1
    rw [g1] at f1; cases f1
    rcases R.objs o _ ho with f3 | ⟨L'', f3, f4⟩
    · simp at f3
    rw [k1] at f3; cases f3
    obtain ⟨_, n1, cv1, t1, p1, q1, _⟩ := f2
    obtain ⟨_, n2, cv2, t2, p2, q2, _⟩ := f4
    have hblk : L1.blk ≠ L2.blk := fun e => hne (R.inj q o L1 L2 g1 k1 n1 n2 e)
    exact ovl_apart (e := 27) (by kernel_rfl) (by kernel_rfl) hblk p1 p2 (by
      have := q2.1
      intro e
      exact hcso (List.eq_nil_of_length_eq_zero (by omega)))
  rw [hrun]; rfl

/-- slices.Insert of one. -/
theorem insE {ob : List AObj} {o off n c q offq cq i : Nat} {xs row : List PV} (hA : Arr ob 4 o off n c xs) (hq : Arr ob 4 q offq 1 cq row) (hne : q ≠ o) (hi : i ≤ n) (hn : n < 16777216) (hc : c ≤ 9223372036854775807) :
    ICall Tryz.prog 85 [.asl o off n c, .int .i64 (i : Int), .asl q offq 1 cq] ob (ArrR ob 4 o (n + 1) (xs.take (i * 4) ++ (row ++ xs.drop (i * 4)))) := by
  refine icall_dr Tryz.func85 cm57 ?_
  obtain ⟨cs, hcs, hnc, hl, hx⟩ := hA
  have hA : Arr ob 4 o off n c xs := ⟨cs, hcs, hnc, hl, hx⟩
  have hxl := hA.len
  have hrl := hq.len
  have hm1 : i * 4 ≤ n * 4 := mul_le hi
  have hm2 : n * 4 ≤ c * 4 := mul_le hnc
  have s1 : aslB 4 o off n c (some (i : Int)) (some (n : Int)) (some (c : Int)) = some (.asl o (off + i * 4) (n - i) (c - i)) := aslB_n (by omega)
  have w1 : IntKind.i64.wrap ((n : Int) + 1) = ((n + 1 : Nat) : Int) := by rw [wrapI (by omega) (by omega)]; omega
  have w2 : IntKind.i64.wrap ((i : Int) + 1) = ((i + 1 : Nat) : Int) := by rw [wrapI (by omega) (by omega)]; omega
  by_cases hin : i = n
  · subst hin
    have d1 : ((i : Int) == (i : Int)) = true := by simp
    simp only [U57, s1, d1, seval, bA]
    refine MS_app (m := 1) rfl (by omega) hq.src (fun hroom => ⟨cs, hcs, by have := mul_le (e := 4) hroom; omega, ?_⟩) fun hroom => ⟨xs, hA.src, by omega, by omega, fun c' hc1 hc2 => ?_⟩
    · simp only [U57, seval, bA]
      refine ⟨_, rfl, o, off, c, rfl, ⟨_, List.getElem?_set_self (List.getElem?_eq_some_iff.1 hcs).1, hroom, by rw [setAt_len (by have := mul_le (e := 4) hroom; omega)]; exact hl, ?_⟩, .inl rfl, Same.set rfl, hc⟩
      rw [show (i + 1) * 4 = i * 4 + row.length by omega, cells_behind (by have := mul_le (e := 4) hroom; omega), hx, List.take_of_length_le (by omega), List.drop_eq_nil_of_le (by omega), List.append_nil]
    · simp only [U57, seval, bA]
      refine ⟨_, rfl, ob.length, 0, c', rfl, ⟨_, by rw [List.getElem?_append_right (Nat.le_refl _), Nat.sub_self]; rfl, hc1, ?_, ?_⟩, .inr (Nat.le_refl _), Same.app _ _ _, hc2⟩
      · have := mul_le (e := 4) hc1
        rw [List.length_append, List.length_append, flat_rep, Nat.sub_mul]
        simp only [List.length_cons, List.length_nil]; omega
      · rw [List.drop_zero, ← List.append_assoc, List.take_left' (by rw [List.length_append]; omega), List.take_of_length_le (by omega), List.drop_eq_nil_of_le (by omega), List.append_nil]
  · have d1 : ((i : Int) == (n : Int)) = false := by simpa using (by omega : ¬ (i : Int) = (n : Int))
    have hYl : (xs.drop (i * 4)).length = n * 4 - i * 4 := by rw [List.length_drop, hxl]
    by_cases hroom : c < n + 1
    · have d2 : decide ((c : Int) < ((n + 1 : Nat) : Int)) = true := decide_eq_true (by omega)
      have w3 : IntKind.i64.wrap (((n + 1 : Nat) : Int) - (i : Int)) = ((n + 1 - i : Nat) : Int) := by rw [wrapI (by omega) (by omega)]; omega
      have s2 : aslB 4 o off n c (some 0) (some (i : Int)) (some (c : Int)) = some (.asl o off i c) := aslB_z (by omega)
      simp only [U57, s1, d1, w1, d2, w3, s2, seval, bA]
      have hsrc : arrSrc ob 4 (.asl o off i c) = some (xs.take (i * 4)) := by
        rw [arrSrc_asl hcs (by omega), ← hx, List.take_take, Nat.min_eq_left hm1]
      refine MS_apz rfl (by omega) (by omega) hsrc ⟨by omega, by omega, fun c' hc1 hc2 => ?_⟩
      rw [show i + (n + 1 - i) = n + 1 by omega] at *
      have s3 : aslB 4 ob.length 0 (n + 1) c' (some (i : Int)) (some ((n + 1 : Nat) : Int)) (some (c' : Int)) = some (.asl ob.length (0 + i * 4) (n + 1 - i) (c' - i)) := aslB_n (by omega)
      have s4 : aslB 4 ob.length 0 (n + 1) c' (some ((i + 1 : Nat) : Int)) (some ((n + 1 : Nat) : Int)) (some (c' : Int)) = some (.asl ob.length (0 + (i + 1) * 4) (n + 1 - (i + 1)) (c' - (i + 1))) := aslB_n (by omega)
      have hXl : (xs.take (i * 4)).length = i * 4 := by rw [List.length_take, hxl]; omega
      obtain ⟨cs0, hcs0⟩ : ∃ cs0, cs0 = xs.take (i * 4) ++ ((List.replicate (n + 1 - i) [.int .i64 0, .int .i64 0, .int .i64 0, .int .i64 0]).flatten ++ (List.replicate (c' - (n + 1)) [.int .i64 0, .int .i64 0, .int .i64 0, .int .i64 0]).flatten) := ⟨_, rfl⟩
      have hX0 : cs0.take (i * 4) = xs.take (i * 4) := by rw [hcs0, List.take_left' hXl]
      have hl0 : cs0.length = c' * 4 := by
        rw [hcs0, List.length_append, List.length_append, flat_rep, flat_rep, hXl]
        simp only [List.length_cons, List.length_nil]
        rw [← Nat.add_mul, ← Nat.add_mul]; congr 1; omega
      have hm3 : (n + 1) * 4 ≤ c' * 4 := mul_le hc1
      rw [← hcs0]
      have hg0 : (ob ++ [AObj.box cs0])[ob.length]? = some (.box cs0) := by rw [List.getElem?_append_right (Nat.le_refl _), Nat.sub_self]; rfl
      have hS : Same ob (ob ++ [AObj.box cs0]) (· = ob.length) := Same.app _ _ _
      generalize hob1 : ob ++ [AObj.box cs0] = ob1 at *
      simp only [U57, s1, d1, w1, d2, w3, s2, w2, s3, s4, seval, bA]
      have hlto : o ≠ ob.length := Nat.ne_of_lt hA.lt
      have hltq : q ≠ ob.length := Nat.ne_of_lt hq.lt
      have hq1 := (hS.arr hq hltq).src
      have hrt : row.take (1 * 4) = row := List.take_of_length_le (by omega)
      refine MS_cpy (k := 1) rfl (by simp only [arrLen]; omega) (by omega) hq1 hg0 (by rw [hrt, hl0]; omega) ?_
      rw [hrt]; (try rw [Nat.zero_add])
      have hg1 : (ob1.set ob.length (.box (setAt cs0 (i * 4) row)))[ob.length]? = some (.box (setAt cs0 (i * 4) row)) := List.getElem?_set_self (List.getElem?_eq_some_iff.1 hg0).1
      have hS1 : Same ob (ob1.set ob.length (.box (setAt cs0 (i * 4) row))) (· = ob.length) := hS.trans (Same.set rfl)
      generalize hob2 : ob1.set ob.length (.box (setAt cs0 (i * 4) row)) = ob2 at *
      simp only [U57, s1, d1, w1, d2, w3, s2, w2, s3, s4, seval, bA]
      have hcs2 : ob2[o]? = some (.box cs) := hS1.get hcs hlto
      have hsrc2 : arrSrc ob2 4 (.asl o (off + i * 4) (n - i) (c - i)) = some (xs.drop (i * 4)) := by
        rw [arrSrc_asl hcs2 (by rw [Nat.sub_mul]; omega), ← hx, ← List.drop_drop, List.drop_take, Nat.sub_mul]
      have hyt : (xs.drop (i * 4)).take ((n - i) * 4) = xs.drop (i * 4) := List.take_of_length_le (by rw [hYl, Nat.sub_mul]; omega)
      refine MS_cpy (k := n - i) rfl (by simp only [arrLen]; omega) (by omega) hsrc2 hg1 (by rw [hyt, hYl, setAt_len (by rw [hl0]; omega), hl0]; omega) ?_
      rw [hyt]
      simp only [U57, s1, d1, w1, d2, w3, s2, w2, s3, s4, seval, bA]
      refine ⟨_, rfl, ob.length, 0, c', rfl, ⟨_, List.getElem?_set_self (List.getElem?_eq_some_iff.1 hg1).1, hc1, by rw [setAt_len (by rw [setAt_len (by rw [hl0]; omega), hl0, hYl]; omega), setAt_len (by rw [hl0]; omega), hl0]; omega, ?_⟩, .inr (Nat.le_refl _), hS1.trans (Same.set rfl), hc2⟩
      (try rw [Nat.zero_add]); rw [show (i + 1) * 4 = i * 4 + 4 by omega, show (n + 1) * 4 = n * 4 + 4 by omega]
      exact cells_fresh hX0 (by omega) hm1 hYl (by rw [hl0]; omega)
    · have d2 : decide ((c : Int) < ((n + 1 : Nat) : Int)) = false := decide_eq_false (by omega)
      have hm3 : (n + 1) * 4 ≤ c * 4 := mul_le (by omega)
      have s2 : aslB 4 o off n c (some 0) (some ((n + 1 : Nat) : Int)) (some (c : Int)) = some (.asl o off (n + 1) c) := aslB_z (by omega)
      have s3 : aslB 4 o off (n + 1) c (some (i : Int)) (some ((n + 1 : Nat) : Int)) (some (c : Int)) = some (.asl o (off + i * 4) (n + 1 - i) (c - i)) := aslB_n (by omega)
      have s4 : aslB 4 o off (n + 1) c (some ((i + 1 : Nat) : Int)) (some ((n + 1 : Nat) : Int)) (some (c : Int)) = some (.asl o (off + (i + 1) * 4) (n + 1 - (i + 1)) (c - (i + 1))) := aslB_n (by omega)
      simp only [U57, s1, d1, w1, d2, s2, w2, s3, s4, seval, bA]
      obtain ⟨rcs, hrcs, _, _, _⟩ := id hq
      refine ECall_mono ?_ (ovlE hne hrcs hcs (by intro e; rw [e] at hl; simp at hl; omega) (by obtain ⟨_, _, h, _⟩ := hq; omega) (by omega))
      rintro r ob' ⟨rfl, rfl⟩
      simp only [U57, s1, d1, w1, d2, s2, w2, s3, s4, seval, bA]
      have hsrc : arrSrc ob' 4 (.asl o (off + i * 4) (n + 1 - i) (c - i)) = some ((cs.drop (off + i * 4)).take ((n + 1 - i) * 4)) := arrSrc_asl hcs (by rw [Nat.sub_mul]; omega)
      have hyt : ((cs.drop (off + i * 4)).take ((n + 1 - i) * 4)).take ((n - i) * 4) = xs.drop (i * 4) := by
        rw [List.take_take, Nat.min_eq_left (mul_le (by omega)), ← hx, List.drop_take, List.drop_drop, Nat.sub_mul]
      refine MS_cpy (k := n - i) rfl (by simp only [arrLen]; omega) (by omega) hsrc hcs (by rw [hyt, hYl]; omega) ?_
      rw [hyt]
      have hg1 : (ob'.set o (.box (setAt cs (off + (i + 1) * 4) (xs.drop (i * 4)))))[o]? = some (.box (setAt cs (off + (i + 1) * 4) (xs.drop (i * 4)))) := List.getElem?_set_self (List.getElem?_eq_some_iff.1 hcs).1
      have hS1 : Same ob' (ob'.set o (.box (setAt cs (off + (i + 1) * 4) (xs.drop (i * 4))))) (· = o) := Same.set rfl
      generalize hob2 : ob'.set o (.box (setAt cs (off + (i + 1) * 4) (xs.drop (i * 4)))) = ob2 at *
      simp only [U57, s1, d1, w1, d2, s2, w2, s3, s4, seval, bA]
      have hrt : row.take (1 * 4) = row := List.take_of_length_le (by omega)
      refine MS_cpy (k := 1) rfl (by simp only [arrLen]; omega) (by omega) (hS1.arr hq hne).src hg1 (by rw [hrt, setAt_len (by rw [hYl]; omega)]; omega) ?_
      rw [hrt]
      simp only [U57, s1, d1, w1, d2, s2, w2, s3, s4, seval, bA]
      refine ⟨_, rfl, o, off, c, rfl, ⟨_, List.getElem?_set_self (List.getElem?_eq_some_iff.1 hg1).1, by omega, by rw [setAt_len (by rw [setAt_len (by rw [hYl]; omega)]; omega), setAt_len (by rw [hYl]; omega)]; exact hl, ?_⟩, .inl rfl, hS1.trans (Same.set rfl), hc⟩
      have := cells_shift (cs := cs) (row := row) (off := off) (a := i * 4) (b := n * 4) (e := 4) (by omega) hm1 (by omega)
      rw [hx] at this
      rw [show off + (i + 1) * 4 = off + i * 4 + 4 by omega, show (n + 1) * 4 = n * 4 + 4 by omega]
      exact this

/-- What slices.overlaps says of two boxes. -/
theorem ovlN {ob : List AObj} {o off n c q offq m cq : Nat} {csq cso : List PV} (hne : q ≠ o) (hq : ob[q]? = some (.box csq)) (ho : ob[o]? = some (.box cso)) (hcso : cso ≠ []) (hcq : 0 < cq) (hc : 0 < c) : ECall Tryz.prog 96 [.asl q offq m cq, .asl o off n c] ob fun r ob' => r = .bool false ∧ ob' = ob := by
  refine ⟨⟨_, _, rfl, rfl⟩, fun cx w F l vs R hv => ?_⟩
  obtain ⟨v1, vs, rfl, h1, hv⟩ := hv.cons_inv
  obtain ⟨v2, vs, rfl, h2, hv⟩ := hv.cons_inv
  obtain rfl := hv.nil_inv
  obtain ⟨L1, a1, g1, g2, g3, g4, rfl⟩ := h1.asl_inv
  obtain ⟨L2, a2, k1, k2, k3, k4, rfl⟩ := h2.asl_inv
  refine ⟨.bool false, .bool false, ob, w, F, l, ?_, R, Mono.refl _ _ _, .bool _, rfl, rfl⟩
  rw [run_callFunc_extern Tryz.func96 (by kernel_rfl) (by kernel_rfl) (by kernel_rfl) (e := Extern.SlicesOverlaps.overlaps #[139, 139] #[4]) (by kernel_rfl)]
  have hrun : (Extern.SlicesOverlaps.overlaps #[139, 139] #[4] [Value.slice (some a1) m cq, Value.slice (some a2) n c].toArray).run Tryz.prog w = .ok (.bool false) w := by
    have e1 := g4 hcq
    have e2 := k4 hc
    subst e1; subst e2
    rcases R.objs q _ hq with f1 | ⟨L', f1, f2⟩
    · simp at f1
    rw [g1] at f1; cases f1
    rcases R.objs o _ ho with f3 | ⟨L'', f3, f4⟩
    · simp at f3
    rw [k1] at f3; cases f3
    obtain ⟨_, n1, cv1, t1, p1, q1, _⟩ := f2
    obtain ⟨_, n2, cv2, t2, p2, q2, _⟩ := f4
    have hblk : L1.blk ≠ L2.blk := fun e => hne (R.inj q o L1 L2 g1 k1 n1 n2 e)
    exact ovl_apart (e := 48) (by kernel_rfl) (by kernel_rfl) hblk p1 p2 (by
      have := q2.1
      intro e
      exact hcso (List.eq_nil_of_length_eq_zero (by omega)))
  rw [hrun]; rfl

/-- slices.Insert of one. -/
theorem insN {ob : List AObj} {o off n c q offq cq i : Nat} {xs row : List PV} (hA : Arr ob 1 o off n c xs) (hq : Arr ob 1 q offq 1 cq row) (hne : q ≠ o) (hi : i ≤ n) (hn : n < 16777216) (hc : c ≤ 9223372036854775807) :
    ICall Tryz.prog 87 [.asl o off n c, .int .i64 (i : Int), .asl q offq 1 cq] ob (ArrR ob 1 o (n + 1) (xs.take (i * 1) ++ (row ++ xs.drop (i * 1)))) := by
  refine icall_dr Tryz.func87 cm58 ?_
  obtain ⟨cs, hcs, hnc, hl, hx⟩ := hA
  have hA : Arr ob 1 o off n c xs := ⟨cs, hcs, hnc, hl, hx⟩
  have hxl := hA.len
  have hrl := hq.len
  have hm1 : i * 1 ≤ n * 1 := mul_le hi
  have hm2 : n * 1 ≤ c * 1 := mul_le hnc
  have s1 : aslB 1 o off n c (some (i : Int)) (some (n : Int)) (some (c : Int)) = some (.asl o (off + i * 1) (n - i) (c - i)) := aslB_n (by omega)
  have w1 : IntKind.i64.wrap ((n : Int) + 1) = ((n + 1 : Nat) : Int) := by rw [wrapI (by omega) (by omega)]; omega
  have w2 : IntKind.i64.wrap ((i : Int) + 1) = ((i + 1 : Nat) : Int) := by rw [wrapI (by omega) (by omega)]; omega
  by_cases hin : i = n
  · subst hin
    have d1 : ((i : Int) == (i : Int)) = true := by simp
    simp only [U58, s1, d1, seval, bA]
    refine MS_app (m := 1) rfl (by omega) hq.src (fun hroom => ⟨cs, hcs, by have := mul_le (e := 1) hroom; omega, ?_⟩) fun hroom => ⟨xs, hA.src, by omega, by omega, fun c' hc1 hc2 => ?_⟩
    · simp only [U58, seval, bA]
      refine ⟨_, rfl, o, off, c, rfl, ⟨_, List.getElem?_set_self (List.getElem?_eq_some_iff.1 hcs).1, hroom, by rw [setAt_len (by have := mul_le (e := 1) hroom; omega)]; exact hl, ?_⟩, .inl rfl, Same.set rfl, hc⟩
      rw [show (i + 1) * 1 = i * 1 + row.length by omega, cells_behind (by have := mul_le (e := 1) hroom; omega), hx, List.take_of_length_le (by omega), List.drop_eq_nil_of_le (by omega), List.append_nil]
    · simp only [U58, seval, bA]
      refine ⟨_, rfl, ob.length, 0, c', rfl, ⟨_, by rw [List.getElem?_append_right (Nat.le_refl _), Nat.sub_self]; rfl, hc1, ?_, ?_⟩, .inr (Nat.le_refl _), Same.app _ _ _, hc2⟩
      · have := mul_le (e := 1) hc1
        rw [List.length_append, List.length_append, flat_rep, Nat.sub_mul]
        simp only [List.length_cons, List.length_nil]; omega
      · rw [List.drop_zero, ← List.append_assoc, List.take_left' (by rw [List.length_append]; omega), List.take_of_length_le (by omega), List.drop_eq_nil_of_le (by omega), List.append_nil]
  · have d1 : ((i : Int) == (n : Int)) = false := by simpa using (by omega : ¬ (i : Int) = (n : Int))
    have hYl : (xs.drop (i * 1)).length = n * 1 - i * 1 := by rw [List.length_drop, hxl]
    by_cases hroom : c < n + 1
    · have d2 : decide ((c : Int) < ((n + 1 : Nat) : Int)) = true := decide_eq_true (by omega)
      have w3 : IntKind.i64.wrap (((n + 1 : Nat) : Int) - (i : Int)) = ((n + 1 - i : Nat) : Int) := by rw [wrapI (by omega) (by omega)]; omega
      have s2 : aslB 1 o off n c (some 0) (some (i : Int)) (some (c : Int)) = some (.asl o off i c) := aslB_z (by omega)
      simp only [U58, s1, d1, w1, d2, w3, s2, seval, bA]
      have hsrc : arrSrc ob 1 (.asl o off i c) = some (xs.take (i * 1)) := by
        rw [arrSrc_asl hcs (by omega), ← hx, List.take_take, Nat.min_eq_left hm1]
      refine MS_apz rfl (by omega) (by omega) hsrc ⟨by omega, by omega, fun c' hc1 hc2 => ?_⟩
      rw [show i + (n + 1 - i) = n + 1 by omega] at *
      have s3 : aslB 1 ob.length 0 (n + 1) c' (some (i : Int)) (some ((n + 1 : Nat) : Int)) (some (c' : Int)) = some (.asl ob.length (0 + i * 1) (n + 1 - i) (c' - i)) := aslB_n (by omega)
      have s4 : aslB 1 ob.length 0 (n + 1) c' (some ((i + 1 : Nat) : Int)) (some ((n + 1 : Nat) : Int)) (some (c' : Int)) = some (.asl ob.length (0 + (i + 1) * 1) (n + 1 - (i + 1)) (c' - (i + 1))) := aslB_n (by omega)
      have hXl : (xs.take (i * 1)).length = i * 1 := by rw [List.length_take, hxl]; omega
      obtain ⟨cs0, hcs0⟩ : ∃ cs0, cs0 = xs.take (i * 1) ++ ((List.replicate (n + 1 - i) [.nili]).flatten ++ (List.replicate (c' - (n + 1)) [.nili]).flatten) := ⟨_, rfl⟩
      have hX0 : cs0.take (i * 1) = xs.take (i * 1) := by rw [hcs0, List.take_left' hXl]
      have hl0 : cs0.length = c' * 1 := by
        rw [hcs0, List.length_append, List.length_append, flat_rep, flat_rep, hXl]
        simp only [List.length_cons, List.length_nil]
        rw [← Nat.add_mul, ← Nat.add_mul]; congr 1; omega
      have hm3 : (n + 1) * 1 ≤ c' * 1 := mul_le hc1
      rw [← hcs0]
      have hg0 : (ob ++ [AObj.box cs0])[ob.length]? = some (.box cs0) := by rw [List.getElem?_append_right (Nat.le_refl _), Nat.sub_self]; rfl
      have hS : Same ob (ob ++ [AObj.box cs0]) (· = ob.length) := Same.app _ _ _
      generalize hob1 : ob ++ [AObj.box cs0] = ob1 at *
      simp only [U58, s1, d1, w1, d2, w3, s2, w2, s3, s4, seval, bA]
      have hlto : o ≠ ob.length := Nat.ne_of_lt hA.lt
      have hltq : q ≠ ob.length := Nat.ne_of_lt hq.lt
      have hq1 := (hS.arr hq hltq).src
      have hrt : row.take (1 * 1) = row := List.take_of_length_le (by omega)
      refine MS_cpy (k := 1) rfl (by simp only [arrLen]; omega) (by omega) hq1 hg0 (by rw [hrt, hl0]; omega) ?_
      rw [hrt]; (try rw [Nat.zero_add])
      have hg1 : (ob1.set ob.length (.box (setAt cs0 (i * 1) row)))[ob.length]? = some (.box (setAt cs0 (i * 1) row)) := List.getElem?_set_self (List.getElem?_eq_some_iff.1 hg0).1
      have hS1 : Same ob (ob1.set ob.length (.box (setAt cs0 (i * 1) row))) (· = ob.length) := hS.trans (Same.set rfl)
      generalize hob2 : ob1.set ob.length (.box (setAt cs0 (i * 1) row)) = ob2 at *
      simp only [U58, s1, d1, w1, d2, w3, s2, w2, s3, s4, seval, bA]
      have hcs2 : ob2[o]? = some (.box cs) := hS1.get hcs hlto
      have hsrc2 : arrSrc ob2 1 (.asl o (off + i * 1) (n - i) (c - i)) = some (xs.drop (i * 1)) := by
        rw [arrSrc_asl hcs2 (by rw [Nat.sub_mul]; omega), ← hx, ← List.drop_drop, List.drop_take, Nat.sub_mul]
      have hyt : (xs.drop (i * 1)).take ((n - i) * 1) = xs.drop (i * 1) := List.take_of_length_le (by rw [hYl, Nat.sub_mul]; omega)
      refine MS_cpy (k := n - i) rfl (by simp only [arrLen]; omega) (by omega) hsrc2 hg1 (by rw [hyt, hYl, setAt_len (by rw [hl0]; omega), hl0]; omega) ?_
      rw [hyt]
      simp only [U58, s1, d1, w1, d2, w3, s2, w2, s3, s4, seval, bA]
      refine ⟨_, rfl, ob.length, 0, c', rfl, ⟨_, List.getElem?_set_self (List.getElem?_eq_some_iff.1 hg1).1, hc1, by rw [setAt_len (by rw [setAt_len (by rw [hl0]; omega), hl0, hYl]; omega), setAt_len (by rw [hl0]; omega), hl0]; omega, ?_⟩, .inr (Nat.le_refl _), hS1.trans (Same.set rfl), hc2⟩
      (try rw [Nat.zero_add]); rw [show (i + 1) * 1 = i * 1 + 1 by omega, show (n + 1) * 1 = n * 1 + 1 by omega]
      exact cells_fresh hX0 (by omega) hm1 hYl (by rw [hl0]; omega)
    · have d2 : decide ((c : Int) < ((n + 1 : Nat) : Int)) = false := decide_eq_false (by omega)
      have hm3 : (n + 1) * 1 ≤ c * 1 := mul_le (by omega)
      have s2 : aslB 1 o off n c (some 0) (some ((n + 1 : Nat) : Int)) (some (c : Int)) = some (.asl o off (n + 1) c) := aslB_z (by omega)
      have s3 : aslB 1 o off (n + 1) c (some (i : Int)) (some ((n + 1 : Nat) : Int)) (some (c : Int)) = some (.asl o (off + i * 1) (n + 1 - i) (c - i)) := aslB_n (by omega)
      have s4 : aslB 1 o off (n + 1) c (some ((i + 1 : Nat) : Int)) (some ((n + 1 : Nat) : Int)) (some (c : Int)) = some (.asl o (off + (i + 1) * 1) (n + 1 - (i + 1)) (c - (i + 1))) := aslB_n (by omega)
      simp only [U58, s1, d1, w1, d2, s2, w2, s3, s4, seval, bA]
      obtain ⟨rcs, hrcs, _, _, _⟩ := id hq
      refine ECall_mono ?_ (ovlN hne hrcs hcs (by intro e; rw [e] at hl; simp at hl; omega) (by obtain ⟨_, _, h, _⟩ := hq; omega) (by omega))
      rintro r ob' ⟨rfl, rfl⟩
      simp only [U58, s1, d1, w1, d2, s2, w2, s3, s4, seval, bA]
      have hsrc : arrSrc ob' 1 (.asl o (off + i * 1) (n + 1 - i) (c - i)) = some ((cs.drop (off + i * 1)).take ((n + 1 - i) * 1)) := arrSrc_asl hcs (by rw [Nat.sub_mul]; omega)
      have hyt : ((cs.drop (off + i * 1)).take ((n + 1 - i) * 1)).take ((n - i) * 1) = xs.drop (i * 1) := by
        rw [List.take_take, Nat.min_eq_left (mul_le (by omega)), ← hx, List.drop_take, List.drop_drop, Nat.sub_mul]
      refine MS_cpy (k := n - i) rfl (by simp only [arrLen]; omega) (by omega) hsrc hcs (by rw [hyt, hYl]; omega) ?_
      rw [hyt]
      have hg1 : (ob'.set o (.box (setAt cs (off + (i + 1) * 1) (xs.drop (i * 1)))))[o]? = some (.box (setAt cs (off + (i + 1) * 1) (xs.drop (i * 1)))) := List.getElem?_set_self (List.getElem?_eq_some_iff.1 hcs).1
      have hS1 : Same ob' (ob'.set o (.box (setAt cs (off + (i + 1) * 1) (xs.drop (i * 1))))) (· = o) := Same.set rfl
      generalize hob2 : ob'.set o (.box (setAt cs (off + (i + 1) * 1) (xs.drop (i * 1)))) = ob2 at *
      simp only [U58, s1, d1, w1, d2, s2, w2, s3, s4, seval, bA]
      have hrt : row.take (1 * 1) = row := List.take_of_length_le (by omega)
      refine MS_cpy (k := 1) rfl (by simp only [arrLen]; omega) (by omega) (hS1.arr hq hne).src hg1 (by rw [hrt, setAt_len (by rw [hYl]; omega)]; omega) ?_
      rw [hrt]
      simp only [U58, s1, d1, w1, d2, s2, w2, s3, s4, seval, bA]
      refine ⟨_, rfl, o, off, c, rfl, ⟨_, List.getElem?_set_self (List.getElem?_eq_some_iff.1 hg1).1, by omega, by rw [setAt_len (by rw [setAt_len (by rw [hYl]; omega)]; omega), setAt_len (by rw [hYl]; omega)]; exact hl, ?_⟩, .inl rfl, hS1.trans (Same.set rfl), hc⟩
      have := cells_shift (cs := cs) (row := row) (off := off) (a := i * 1) (b := n * 1) (e := 1) (by omega) hm1 (by omega)
      rw [hx] at this
      rw [show off + (i + 1) * 1 = off + i * 1 + 1 by omega, show (n + 1) * 1 = n * 1 + 1 by omega]
      exact this

end Go.Proofs.YtdgpiobmncohjaaGreat.Aw.Ar
namespace Go.Proofs.YtdgpiobmncohjaaGreat.Aw.Ar
open Go.RowKit
/-- slices.Clone. -/
theorem cloneE {ob : List AObj} {o off n c : Nat} {xs : List PV} (hA : Arr ob 4 o off n c xs) (hn : n ≤ 16777216) :
    ICall Tryz.prog 95 [.asl o off n c] ob fun r ob' => ∃ q c', r = .asl q 0 n c' ∧ Arr ob' 4 q 0 n c' xs ∧ ob.length ≤ q ∧ c' ≤ 9223372036854775807 ∧ Same ob ob' (fun _ => False) := by
  refine icall_dr Tryz.func95 cm43 ?_
  simp only [U43, List.replicate_zero, reduceIte, reduceCtorEq, Nat.reduceEqDiff, Nat.reduceAdd, Int.reduceLT, Int.reduceLE, Int.reduceNeg, Int.reduceEq, Nat.reduceLT, Nat.reduceSub, Nat.reduceMul, Nat.reduceBEq, Nat.reduceLeDiff, Int.reduceBEq, Int.reduceBNe, Int.reduceToNat, bA]
  have hS : Same ob (ob ++ [AObj.box []]) (fun _ => False) := Same.app _ _ _
  have hg : (ob ++ [AObj.box []])[ob.length]? = some (.box []) := by rw [List.getElem?_append_right (Nat.le_refl _), Nat.sub_self]; rfl
  have hl : (ob ++ [AObj.box []]).length = ob.length + 1 := by simp
  generalize ob ++ [AObj.box []] = ob1 at *
  have hA1 := hS.arr hA (fun h => h)
  have hxl := hA.len
  by_cases h0 : n = 0
  · subst h0
    refine MS_app0 rfl hA1.src ?_
    simp only [U43, reduceIte, reduceCtorEq, Nat.reduceEqDiff, Nat.reduceAdd, Int.reduceLT, Int.reduceLE, Int.reduceNeg, Int.reduceEq, Nat.reduceLT, Nat.reduceSub, Nat.reduceMul, Nat.reduceBEq, Nat.reduceLeDiff, Int.reduceBEq, Int.reduceBNe, Int.reduceToNat, bA]
    refine ⟨_, rfl, ob.length, 0, rfl, ⟨[], hg, Nat.le_refl _, by simp, ?_⟩, Nat.le_refl _, by omega, hS⟩
    exact (List.eq_nil_of_length_eq_zero (by omega)).symm
  · refine MS_app (m := n) rfl (by omega) hA1.src (fun h => by omega) fun _ => ⟨[], arrSrc_asl hg (by simp), by omega, by omega, fun c' h1 h2 => ?_⟩
    (try rw [Nat.zero_add]); (try rw [Nat.zero_add] at h1)
    simp only [U43, reduceIte, reduceCtorEq, Nat.reduceEqDiff, Nat.reduceAdd, Int.reduceLT, Int.reduceLE, Int.reduceNeg, Int.reduceEq, Nat.reduceLT, Nat.reduceSub, Nat.reduceMul, Nat.reduceBEq, Nat.reduceLeDiff, Int.reduceBEq, Int.reduceBNe, Int.reduceToNat, bA]
    refine ⟨_, rfl, ob1.length, c', by simp, ⟨_, by rw [List.getElem?_append_right (Nat.le_refl _), Nat.sub_self]; rfl, by omega, ?_, ?_⟩, by omega, h2, hS.trans (Same.app _ _ _)⟩
    · have := mul_le (e := 4) (show n ≤ c' by omega)
      simp only [List.nil_append, List.length_append, flat_rep, Nat.sub_mul, List.length_cons, List.length_nil]; omega
    · (try simp only [List.drop_zero, List.nil_append]); rw [List.take_left' (by omega)]

/-- slices.Grow of nil. -/
theorem growE {ob : List AObj} {k : Nat} (h0 : 0 < k) (hk : k ≤ 16777216) :
    ICall Tryz.prog 53 [.nils, .int .i64 (k : Int)] ob fun r ob' => ∃ c' cs, r = .asl ob.length 0 0 c' ∧ ob' = ob ++ [.box cs] ∧ k ≤ c' ∧ c' ≤ 9223372036854775807 ∧ cs.length = c' * 4 := by
  refine icall_dr Tryz.func53 cm51 ?_
  have d1 : decide ((k : Int) < 0) = false := decide_eq_false (by omega)
  have d2 : decide (0 < (k : Int)) = true := decide_eq_true (by omega)
  have w1 : IntKind.i64.wrap ((0 : Int) - 0) = 0 := by decide
  have w2 : IntKind.i64.wrap ((k : Int) - 0) = (k : Int) := by rw [wrapI (by omega) (by omega)]; omega
  simp only [U51, d1, d2, w1, w2, reduceIte, reduceCtorEq, Nat.reduceEqDiff, Nat.reduceAdd, Int.reduceLT, Int.reduceLE, Int.reduceNeg, Int.reduceEq, Nat.reduceLT, Nat.reduceSub, Nat.reduceMul, Nat.reduceBEq, Nat.reduceLeDiff, Int.reduceBEq, Int.reduceBNe, Int.reduceToNat, bA]
  refine MS_apz0 rfl h0 ⟨h0, by omega, fun c' h1 h2 => ?_⟩
  (try rw [Nat.zero_add]); (try rw [Nat.zero_add] at h1)
  have s1 : aslB 4 ob.length 0 k c' (some 0) (some 0) (some (c' : Int)) = some (.asl ob.length 0 0 c') := aslB_z (h := 0) (by omega)
  simp only [U51, d1, d2, w1, w2, s1, reduceIte, reduceCtorEq, Nat.reduceEqDiff, Nat.reduceAdd, Int.reduceLT, Int.reduceLE, Int.reduceNeg, Int.reduceEq, Nat.reduceLT, Nat.reduceSub, Nat.reduceMul, Nat.reduceBEq, Nat.reduceLeDiff, Int.reduceBEq, Int.reduceBNe, Int.reduceToNat, bA]
  refine ⟨_, rfl, c', _, rfl, rfl, by omega, h2, ?_⟩
  simp only [List.nil_append, List.length_append, flat_rep, List.length_cons, List.length_nil, ← Nat.add_mul]
  congr 1; omega

/-- slices.Concat of two. -/
theorem concatE {ob : List AObj} {s o1 off1 n1 c1 o2 off2 n2 c2 : Nat} {xs ys : List PV} (hs : ob[s]? = some (.box [.asl o1 off1 n1 c1, .asl o2 off2 n2 c2])) (hA : Arr ob 4 o1 off1 n1 c1 xs) (hB : Arr ob 4 o2 off2 n2 c2 ys) (h0 : 0 < n1 + n2) (hn : n1 + n2 ≤ 16777216) :
    ICall Tryz.prog 31 [.asl s 0 2 2] ob fun r ob' => ∃ q c', r = .asl q 0 (n1 + n2) c' ∧ Arr ob' 4 q 0 (n1 + n2) c' (xs ++ ys) ∧ ob.length ≤ q ∧ c' ≤ 9223372036854775807 ∧ Same ob ob' (fun _ => False) := by
  refine icall_dr Tryz.func31 cm45 ?_
  have w1 : IntKind.i64.wrap ((0 : Int) + (n1 : Int)) = (n1 : Int) := by rw [wrapI (by omega) (by omega)]; omega
  have w2 : IntKind.i64.wrap ((n1 : Int) + (n2 : Int)) = ((n1 + n2 : Nat) : Int) := by rw [wrapI (by omega) (by omega)]; omega
  have w3 : IntKind.i64.wrap ((0 : Int) + 1) = 1 := by decide
  have w4 : IntKind.i64.wrap ((1 : Int) + 1) = 2 := by decide
  have d1 : decide ((n1 : Int) < 0) = false := decide_eq_false (by omega)
  have d2 : decide (((n1 + n2 : Nat) : Int) < 0) = false := decide_eq_false (by omega)
  have e0 : ixV 1 s 0 2 0 = some (.ref s 0) := by simp [ixV]
  have e1 : ixV 1 s 0 2 1 = some (.ref s 1) := by simp [ixV]
  simp only [U45, reduceIte, reduceCtorEq, Nat.reduceEqDiff, Nat.reduceAdd, Int.reduceLT, Int.reduceLE, Int.reduceNeg, Int.reduceEq, Nat.reduceLT, Nat.reduceSub, Nat.reduceMul, Nat.reduceBEq, Nat.reduceLeDiff, Int.reduceBEq, Int.reduceBNe, Int.reduceToNat, bA]
  refine loopF (fun i : Nat => ⟨ofL [(0, .asl s 0 2 2), (3, .int .i64 ((if i = 0 then 0 else if i = 1 then n1 else n1 + n2 : Nat) : Int)), (9, .asl s 0 2 2), (10, .int .i64 2), (11, .int .i64 (i : Int))], ob⟩) (fun i => i ≤ 2) (fun i => 2 - i) 0 ?_ (Nat.zero_le _) ?_
  · simp only [U45, if_true, reduceIte, reduceCtorEq, Nat.reduceEqDiff, Nat.reduceAdd, Int.reduceLT, Int.reduceLE, Int.reduceNeg, Int.reduceEq, Nat.reduceLT, Nat.reduceSub, Nat.reduceMul, Nat.reduceBEq, Nat.reduceLeDiff, Int.reduceBEq, Int.reduceBNe, Int.reduceToNat, bA]
  intro i hi
  obtain rfl | rfl | rfl : i = 0 ∨ i = 1 ∨ i = 2 := by omega
  · simp only [if_true]
    simp only [U45, w1, w3, d1, e0, hs, reduceIte, reduceCtorEq, Nat.reduceEqDiff, Nat.reduceAdd, Int.reduceLT, Int.reduceLE, Int.reduceNeg, Int.reduceEq, Nat.reduceLT, Nat.reduceSub, Nat.reduceMul, Nat.reduceBEq, Nat.reduceLeDiff, Int.reduceBEq, Int.reduceBNe, Int.reduceToNat, bA]
    refine ⟨1, ?_, by omega, by omega⟩
    simp
  · simp only [if_true, Nat.one_ne_zero, if_false]
    simp only [U45, w2, w4, d2, e1, hs, reduceIte, reduceCtorEq, Nat.reduceEqDiff, Nat.reduceAdd, Int.reduceLT, Int.reduceLE, Int.reduceNeg, Int.reduceEq, Nat.reduceLT, Nat.reduceSub, Nat.reduceMul, Nat.reduceBEq, Nat.reduceLeDiff, Int.reduceBEq, Int.reduceBNe, Int.reduceToNat, bA]
    refine ⟨2, ?_, by omega, by omega⟩
    simp
  · simp only [show ¬ (2 : Nat) = 0 by omega, show ¬ (2 : Nat) = 1 by omega, if_false]
    simp only [U45, reduceIte, reduceCtorEq, Nat.reduceEqDiff, Nat.reduceAdd, Int.reduceLT, Int.reduceLE, Int.reduceNeg, Int.reduceEq, Nat.reduceLT, Nat.reduceSub, Nat.reduceMul, Nat.reduceBEq, Nat.reduceLeDiff, Int.reduceBEq, Int.reduceBNe, Int.reduceToNat, bA]
    refine callM (growE h0 hn) ?_
    rintro r ob1 ⟨c', cs, rfl, hob1, hc1, hc2, hcl⟩
    have hS : Same ob ob1 (fun _ => False) := by rw [hob1]; exact Same.app _ _ _
    have hg : ob1[ob.length]? = some (.box cs) := by rw [hob1, List.getElem?_append_right (Nat.le_refl _), Nat.sub_self]; rfl
    clear hob1
    simp only [U45, reduceIte, reduceCtorEq, Nat.reduceEqDiff, Nat.reduceAdd, Int.reduceLT, Int.reduceLE, Int.reduceNeg, Int.reduceEq, Nat.reduceLT, Nat.reduceSub, Nat.reduceMul, Nat.reduceBEq, Nat.reduceLeDiff, Int.reduceBEq, Int.reduceBNe, Int.reduceToNat, bA]
    have hs1 := hS.get hs (fun h => h)
    have hA1 := hS.arr hA (fun h => h)
    have hB1 := hS.arr hB (fun h => h)
    refine loopF (fun x : Nat × List AObj × Nat => ⟨ofL [(6, .asl ob.length 0 x.2.2 c'), (25, .asl s 0 2 2), (26, .int .i64 2), (27, .int .i64 (x.1 : Int))], x.2.1⟩)
      (fun x => (x.1 = 0 ∧ ob1 = x.2.1 ∧ 0 = x.2.2) ∨ (x.1 = 1 ∧ n1 = x.2.2 ∧ Arr x.2.1 4 ob.length 0 n1 c' xs ∧ Same ob1 x.2.1 (· = ob.length)) ∨ (x.1 = 2 ∧ n1 + n2 = x.2.2 ∧ Arr x.2.1 4 ob.length 0 (n1 + n2) c' (xs ++ ys) ∧ Same ob1 x.2.1 (· = ob.length))) (fun x => 2 - x.1) (0, ob1, 0) ?_ (.inl ⟨rfl, rfl, rfl⟩) ?_
    · simp only [U45, reduceIte, reduceCtorEq, Nat.reduceEqDiff, Nat.reduceAdd, Int.reduceLT, Int.reduceLE, Int.reduceNeg, Int.reduceEq, Nat.reduceLT, Nat.reduceSub, Nat.reduceMul, Nat.reduceBEq, Nat.reduceLeDiff, Int.reduceBEq, Int.reduceBNe, Int.reduceToNat, bA]
    have hnS : ∀ {o : Nat}, o < ob.length → o ≠ ob.length := fun h => Nat.ne_of_lt h
    rintro ⟨i, ob2, k⟩ (⟨rfl, rfl, rfl⟩ | ⟨rfl, rfl, hX, hT⟩ | ⟨rfl, rfl, hX, hT⟩)
    · simp only [U45, e0, hs1, w3, reduceIte, reduceCtorEq, Nat.reduceEqDiff, Nat.reduceAdd, Int.reduceLT, Int.reduceLE, Int.reduceNeg, Int.reduceEq, Nat.reduceLT, Nat.reduceSub, Nat.reduceMul, Nat.reduceBEq, Nat.reduceLeDiff, Int.reduceBEq, Int.reduceBNe, Int.reduceToNat, bA]
      by_cases hz : n1 = 0
      · subst hz
        have hx0 : xs = [] := List.eq_nil_of_length_eq_zero (by have := hA.len; omega)
        refine MS_app0 rfl hA1.src ?_
        simp only [U45, e0, hs1, w3, reduceIte, reduceCtorEq, Nat.reduceEqDiff, Nat.reduceAdd, Int.reduceLT, Int.reduceLE, Int.reduceNeg, Int.reduceEq, Nat.reduceLT, Nat.reduceSub, Nat.reduceMul, Nat.reduceBEq, Nat.reduceLeDiff, Int.reduceBEq, Int.reduceBNe, Int.reduceToNat, bA]
        refine ⟨(1, ob1, 0), by simp, .inr (.inl ⟨rfl, rfl, ⟨cs, hg, by omega, by omega, by rw [hx0]; simp⟩, Same.refl _ _⟩), by simp⟩
      · refine MS_app (m := n1) rfl (by omega) hA1.src (fun hr => ⟨cs, hg, by have := hA.len; have := mul_le (e := 4) (show n1 ≤ c' by omega); omega, ?_⟩) (fun h => by omega)
        have hset := List.getElem?_set_self (a := AObj.box (setAt cs (0 + 0 * 4) xs)) (List.getElem?_eq_some_iff.1 hg).1
        have hS2 : Same ob1 (ob1.set ob.length (AObj.box (setAt cs (0 + 0 * 4) xs))) (· = ob.length) := Same.set rfl
        generalize ob1.set ob.length (AObj.box (setAt cs (0 + 0 * 4) xs)) = ob3 at *
        simp only [U45, e0, hs1, w3, reduceIte, reduceCtorEq, Nat.reduceEqDiff, Nat.reduceAdd, Int.reduceLT, Int.reduceLE, Int.reduceNeg, Int.reduceEq, Nat.reduceLT, Nat.reduceSub, Nat.reduceMul, Nat.reduceBEq, Nat.reduceLeDiff, Int.reduceBEq, Int.reduceBNe, Int.reduceToNat, bA]
        have hl1 : 0 + 0 + xs.length ≤ cs.length := by have := hA.len; have := mul_le (e := 4) (show n1 ≤ c' by omega); omega
        refine ⟨(1, ob3, n1), by simp, .inr (.inl ⟨rfl, rfl, ⟨_, hset, by omega, by rw [setAt_len (by omega)]; omega, ?_⟩, hS2⟩), by simp⟩
        have := cells_behind (cs := cs) (row := xs) (off := 0) (b := 0) hl1
        simp only [Nat.zero_mul, Nat.add_zero, Nat.zero_add, List.take_zero, List.nil_append] at this ⊢
        rw [← hA.len]; exact this
    · have hs2 : ob2[s]? = some (.box [.asl o1 off1 n1 c1, .asl o2 off2 n2 c2]) := hT.get hs1 (hnS (List.getElem?_eq_some_iff.1 hs).1)
      have hB2 := hT.arr hB1 (hnS hB.lt)
      simp only [U45, e1, hs2, w4, reduceIte, reduceCtorEq, Nat.reduceEqDiff, Nat.reduceAdd, Int.reduceLT, Int.reduceLE, Int.reduceNeg, Int.reduceEq, Nat.reduceLT, Nat.reduceSub, Nat.reduceMul, Nat.reduceBEq, Nat.reduceLeDiff, Int.reduceBEq, Int.reduceBNe, Int.reduceToNat, bA]
      by_cases hz : n2 = 0
      · subst hz
        have hx0 : ys = [] := List.eq_nil_of_length_eq_zero (by have := hB.len; omega)
        refine MS_app0 rfl hB2.src ?_
        simp only [U45, e1, hs2, w4, reduceIte, reduceCtorEq, Nat.reduceEqDiff, Nat.reduceAdd, Int.reduceLT, Int.reduceLE, Int.reduceNeg, Int.reduceEq, Nat.reduceLT, Nat.reduceSub, Nat.reduceMul, Nat.reduceBEq, Nat.reduceLeDiff, Int.reduceBEq, Int.reduceBNe, Int.reduceToNat, bA]
        refine ⟨(2, ob2, n1), by simp, .inr (.inr ⟨rfl, rfl, by rw [hx0, List.append_nil]; exact hX, hT⟩), by simp⟩
      · obtain ⟨cs2, hg2, hc3, hl2, hx2⟩ := hX
        have hm := mul_le (e := 4) (show n1 + n2 ≤ c' by omega)
        have hBl := hB.len
        refine MS_app (m := n2) rfl (by omega) hB2.src (fun hr => ⟨cs2, hg2, by omega, ?_⟩) (fun h => by omega)
        have hset := List.getElem?_set_self (a := AObj.box (setAt cs2 (0 + n1 * 4) ys)) (List.getElem?_eq_some_iff.1 hg2).1
        have hS2 : Same ob1 (ob2.set ob.length (AObj.box (setAt cs2 (0 + n1 * 4) ys))) (· = ob.length) := hT.trans (Same.set rfl)
        generalize ob2.set ob.length (AObj.box (setAt cs2 (0 + n1 * 4) ys)) = ob3 at *
        simp only [U45, e1, hs2, w4, reduceIte, reduceCtorEq, Nat.reduceEqDiff, Nat.reduceAdd, Int.reduceLT, Int.reduceLE, Int.reduceNeg, Int.reduceEq, Nat.reduceLT, Nat.reduceSub, Nat.reduceMul, Nat.reduceBEq, Nat.reduceLeDiff, Int.reduceBEq, Int.reduceBNe, Int.reduceToNat, bA]
        refine ⟨(2, ob3, n1 + n2), by simp, .inr (.inr ⟨rfl, rfl, ⟨_, hset, by omega, by rw [setAt_len (by omega)]; omega, ?_⟩, hS2⟩), by simp⟩
        have := cells_behind (cs := cs2) (row := ys) (off := 0) (b := n1 * 4) (by omega)
        rw [hx2] at this
        rw [show (n1 + n2) * 4 = n1 * 4 + ys.length by omega]; exact this
    · simp only [U45, reduceIte, reduceCtorEq, Nat.reduceEqDiff, Nat.reduceAdd, Int.reduceLT, Int.reduceLE, Int.reduceNeg, Int.reduceEq, Nat.reduceLT, Nat.reduceSub, Nat.reduceMul, Nat.reduceBEq, Nat.reduceLeDiff, Int.reduceBEq, Int.reduceBNe, Int.reduceToNat, bA]
      refine ⟨_, rfl, ob.length, c', rfl, hX, Nat.le_refl _, hc2, ?_⟩
      exact ⟨Nat.le_trans hS.1 hT.1, fun j hj _ => (hT.2 j (Nat.lt_of_lt_of_le hj hS.1) (hnS hj)).trans (hS.2 j hj (fun h => h))⟩

/-- slices.Clone. -/
theorem cloneN {ob : List AObj} {o off n c : Nat} {xs : List PV} (hA : Arr ob 1 o off n c xs) (hn : n ≤ 16777216) :
    ICall Tryz.prog 98 [.asl o off n c] ob fun r ob' => ∃ q c', r = .asl q 0 n c' ∧ Arr ob' 1 q 0 n c' xs ∧ ob.length ≤ q ∧ c' ≤ 9223372036854775807 ∧ Same ob ob' (fun _ => False) := by
  refine icall_dr Tryz.func98 cm44 ?_
  simp only [U44, List.replicate_zero, reduceIte, reduceCtorEq, Nat.reduceEqDiff, Nat.reduceAdd, Int.reduceLT, Int.reduceLE, Int.reduceNeg, Int.reduceEq, Nat.reduceLT, Nat.reduceSub, Nat.reduceMul, Nat.reduceBEq, Nat.reduceLeDiff, Int.reduceBEq, Int.reduceBNe, Int.reduceToNat, bA]
  have hS : Same ob (ob ++ [AObj.box []]) (fun _ => False) := Same.app _ _ _
  have hg : (ob ++ [AObj.box []])[ob.length]? = some (.box []) := by rw [List.getElem?_append_right (Nat.le_refl _), Nat.sub_self]; rfl
  have hl : (ob ++ [AObj.box []]).length = ob.length + 1 := by simp
  generalize ob ++ [AObj.box []] = ob1 at *
  have hA1 := hS.arr hA (fun h => h)
  have hxl := hA.len
  by_cases h0 : n = 0
  · subst h0
    refine MS_app0 rfl hA1.src ?_
    simp only [U44, reduceIte, reduceCtorEq, Nat.reduceEqDiff, Nat.reduceAdd, Int.reduceLT, Int.reduceLE, Int.reduceNeg, Int.reduceEq, Nat.reduceLT, Nat.reduceSub, Nat.reduceMul, Nat.reduceBEq, Nat.reduceLeDiff, Int.reduceBEq, Int.reduceBNe, Int.reduceToNat, bA]
    refine ⟨_, rfl, ob.length, 0, rfl, ⟨[], hg, Nat.le_refl _, by simp, ?_⟩, Nat.le_refl _, by omega, hS⟩
    exact (List.eq_nil_of_length_eq_zero (by omega)).symm
  · refine MS_app (m := n) rfl (by omega) hA1.src (fun h => by omega) fun _ => ⟨[], arrSrc_asl hg (by simp), by omega, by omega, fun c' h1 h2 => ?_⟩
    (try rw [Nat.zero_add]); (try rw [Nat.zero_add] at h1)
    simp only [U44, reduceIte, reduceCtorEq, Nat.reduceEqDiff, Nat.reduceAdd, Int.reduceLT, Int.reduceLE, Int.reduceNeg, Int.reduceEq, Nat.reduceLT, Nat.reduceSub, Nat.reduceMul, Nat.reduceBEq, Nat.reduceLeDiff, Int.reduceBEq, Int.reduceBNe, Int.reduceToNat, bA]
    refine ⟨_, rfl, ob1.length, c', by simp, ⟨_, by rw [List.getElem?_append_right (Nat.le_refl _), Nat.sub_self]; rfl, by omega, ?_, ?_⟩, by omega, h2, hS.trans (Same.app _ _ _)⟩
    · have := mul_le (e := 1) (show n ≤ c' by omega)
      simp only [List.nil_append, List.length_append, flat_rep, Nat.sub_mul, List.length_cons, List.length_nil]; omega
    · (try simp only [List.drop_zero, List.nil_append]); rw [List.take_left' (by omega)]

/-- slices.Grow of nil. -/
theorem growN {ob : List AObj} {k : Nat} (h0 : 0 < k) (hk : k ≤ 16777216) :
    ICall Tryz.prog 107 [.nils, .int .i64 (k : Int)] ob fun r ob' => ∃ c' cs, r = .asl ob.length 0 0 c' ∧ ob' = ob ++ [.box cs] ∧ k ≤ c' ∧ c' ≤ 9223372036854775807 ∧ cs.length = c' * 1 := by
  refine icall_dr Tryz.func107 cm52 ?_
  have d1 : decide ((k : Int) < 0) = false := decide_eq_false (by omega)
  have d2 : decide (0 < (k : Int)) = true := decide_eq_true (by omega)
  have w1 : IntKind.i64.wrap ((0 : Int) - 0) = 0 := by decide
  have w2 : IntKind.i64.wrap ((k : Int) - 0) = (k : Int) := by rw [wrapI (by omega) (by omega)]; omega
  simp only [U52, d1, d2, w1, w2, reduceIte, reduceCtorEq, Nat.reduceEqDiff, Nat.reduceAdd, Int.reduceLT, Int.reduceLE, Int.reduceNeg, Int.reduceEq, Nat.reduceLT, Nat.reduceSub, Nat.reduceMul, Nat.reduceBEq, Nat.reduceLeDiff, Int.reduceBEq, Int.reduceBNe, Int.reduceToNat, bA]
  refine MS_apz0 rfl h0 ⟨h0, by omega, fun c' h1 h2 => ?_⟩
  (try rw [Nat.zero_add]); (try rw [Nat.zero_add] at h1)
  have s1 : aslB 1 ob.length 0 k c' (some 0) (some 0) (some (c' : Int)) = some (.asl ob.length 0 0 c') := aslB_z (h := 0) (by omega)
  simp only [U52, d1, d2, w1, w2, s1, reduceIte, reduceCtorEq, Nat.reduceEqDiff, Nat.reduceAdd, Int.reduceLT, Int.reduceLE, Int.reduceNeg, Int.reduceEq, Nat.reduceLT, Nat.reduceSub, Nat.reduceMul, Nat.reduceBEq, Nat.reduceLeDiff, Int.reduceBEq, Int.reduceBNe, Int.reduceToNat, bA]
  refine ⟨_, rfl, c', _, rfl, rfl, by omega, h2, ?_⟩
  simp only [List.nil_append, List.length_append, flat_rep, List.length_cons, List.length_nil, ← Nat.add_mul]
  congr 1; omega

/-- slices.Concat of two. -/
theorem concatN {ob : List AObj} {s o1 off1 n1 c1 o2 off2 n2 c2 : Nat} {xs ys : List PV} (hs : ob[s]? = some (.box [.asl o1 off1 n1 c1, .asl o2 off2 n2 c2])) (hA : Arr ob 1 o1 off1 n1 c1 xs) (hB : Arr ob 1 o2 off2 n2 c2 ys) (h0 : 0 < n1 + n2) (hn : n1 + n2 ≤ 16777216) :
    ICall Tryz.prog 104 [.asl s 0 2 2] ob fun r ob' => ∃ q c', r = .asl q 0 (n1 + n2) c' ∧ Arr ob' 1 q 0 (n1 + n2) c' (xs ++ ys) ∧ ob.length ≤ q ∧ c' ≤ 9223372036854775807 ∧ Same ob ob' (fun _ => False) := by
  refine icall_dr Tryz.func104 cm46 ?_
  have w1 : IntKind.i64.wrap ((0 : Int) + (n1 : Int)) = (n1 : Int) := by rw [wrapI (by omega) (by omega)]; omega
  have w2 : IntKind.i64.wrap ((n1 : Int) + (n2 : Int)) = ((n1 + n2 : Nat) : Int) := by rw [wrapI (by omega) (by omega)]; omega
  have w3 : IntKind.i64.wrap ((0 : Int) + 1) = 1 := by decide
  have w4 : IntKind.i64.wrap ((1 : Int) + 1) = 2 := by decide
  have d1 : decide ((n1 : Int) < 0) = false := decide_eq_false (by omega)
  have d2 : decide (((n1 + n2 : Nat) : Int) < 0) = false := decide_eq_false (by omega)
  have e0 : ixV 1 s 0 2 0 = some (.ref s 0) := by simp [ixV]
  have e1 : ixV 1 s 0 2 1 = some (.ref s 1) := by simp [ixV]
  simp only [U46, reduceIte, reduceCtorEq, Nat.reduceEqDiff, Nat.reduceAdd, Int.reduceLT, Int.reduceLE, Int.reduceNeg, Int.reduceEq, Nat.reduceLT, Nat.reduceSub, Nat.reduceMul, Nat.reduceBEq, Nat.reduceLeDiff, Int.reduceBEq, Int.reduceBNe, Int.reduceToNat, bA]
  refine loopF (fun i : Nat => ⟨ofL [(0, .asl s 0 2 2), (3, .int .i64 ((if i = 0 then 0 else if i = 1 then n1 else n1 + n2 : Nat) : Int)), (9, .asl s 0 2 2), (10, .int .i64 2), (11, .int .i64 (i : Int))], ob⟩) (fun i => i ≤ 2) (fun i => 2 - i) 0 ?_ (Nat.zero_le _) ?_
  · simp only [U46, if_true, reduceIte, reduceCtorEq, Nat.reduceEqDiff, Nat.reduceAdd, Int.reduceLT, Int.reduceLE, Int.reduceNeg, Int.reduceEq, Nat.reduceLT, Nat.reduceSub, Nat.reduceMul, Nat.reduceBEq, Nat.reduceLeDiff, Int.reduceBEq, Int.reduceBNe, Int.reduceToNat, bA]
  intro i hi
  obtain rfl | rfl | rfl : i = 0 ∨ i = 1 ∨ i = 2 := by omega
  · simp only [if_true]
    simp only [U46, w1, w3, d1, e0, hs, reduceIte, reduceCtorEq, Nat.reduceEqDiff, Nat.reduceAdd, Int.reduceLT, Int.reduceLE, Int.reduceNeg, Int.reduceEq, Nat.reduceLT, Nat.reduceSub, Nat.reduceMul, Nat.reduceBEq, Nat.reduceLeDiff, Int.reduceBEq, Int.reduceBNe, Int.reduceToNat, bA]
    refine ⟨1, ?_, by omega, by omega⟩
    simp
  · simp only [if_true, Nat.one_ne_zero, if_false]
    simp only [U46, w2, w4, d2, e1, hs, reduceIte, reduceCtorEq, Nat.reduceEqDiff, Nat.reduceAdd, Int.reduceLT, Int.reduceLE, Int.reduceNeg, Int.reduceEq, Nat.reduceLT, Nat.reduceSub, Nat.reduceMul, Nat.reduceBEq, Nat.reduceLeDiff, Int.reduceBEq, Int.reduceBNe, Int.reduceToNat, bA]
    refine ⟨2, ?_, by omega, by omega⟩
    simp
  · simp only [show ¬ (2 : Nat) = 0 by omega, show ¬ (2 : Nat) = 1 by omega, if_false]
    simp only [U46, reduceIte, reduceCtorEq, Nat.reduceEqDiff, Nat.reduceAdd, Int.reduceLT, Int.reduceLE, Int.reduceNeg, Int.reduceEq, Nat.reduceLT, Nat.reduceSub, Nat.reduceMul, Nat.reduceBEq, Nat.reduceLeDiff, Int.reduceBEq, Int.reduceBNe, Int.reduceToNat, bA]
    refine callM (growN h0 hn) ?_
    rintro r ob1 ⟨c', cs, rfl, hob1, hc1, hc2, hcl⟩
    have hS : Same ob ob1 (fun _ => False) := by rw [hob1]; exact Same.app _ _ _
    have hg : ob1[ob.length]? = some (.box cs) := by rw [hob1, List.getElem?_append_right (Nat.le_refl _), Nat.sub_self]; rfl
    clear hob1
    simp only [U46, reduceIte, reduceCtorEq, Nat.reduceEqDiff, Nat.reduceAdd, Int.reduceLT, Int.reduceLE, Int.reduceNeg, Int.reduceEq, Nat.reduceLT, Nat.reduceSub, Nat.reduceMul, Nat.reduceBEq, Nat.reduceLeDiff, Int.reduceBEq, Int.reduceBNe, Int.reduceToNat, bA]
    have hs1 := hS.get hs (fun h => h)
    have hA1 := hS.arr hA (fun h => h)
    have hB1 := hS.arr hB (fun h => h)
    refine loopF (fun x : Nat × List AObj × Nat => ⟨ofL [(6, .asl ob.length 0 x.2.2 c'), (25, .asl s 0 2 2), (26, .int .i64 2), (27, .int .i64 (x.1 : Int))], x.2.1⟩)
      (fun x => (x.1 = 0 ∧ ob1 = x.2.1 ∧ 0 = x.2.2) ∨ (x.1 = 1 ∧ n1 = x.2.2 ∧ Arr x.2.1 1 ob.length 0 n1 c' xs ∧ Same ob1 x.2.1 (· = ob.length)) ∨ (x.1 = 2 ∧ n1 + n2 = x.2.2 ∧ Arr x.2.1 1 ob.length 0 (n1 + n2) c' (xs ++ ys) ∧ Same ob1 x.2.1 (· = ob.length))) (fun x => 2 - x.1) (0, ob1, 0) ?_ (.inl ⟨rfl, rfl, rfl⟩) ?_
    · simp only [U46, reduceIte, reduceCtorEq, Nat.reduceEqDiff, Nat.reduceAdd, Int.reduceLT, Int.reduceLE, Int.reduceNeg, Int.reduceEq, Nat.reduceLT, Nat.reduceSub, Nat.reduceMul, Nat.reduceBEq, Nat.reduceLeDiff, Int.reduceBEq, Int.reduceBNe, Int.reduceToNat, bA]
    have hnS : ∀ {o : Nat}, o < ob.length → o ≠ ob.length := fun h => Nat.ne_of_lt h
    rintro ⟨i, ob2, k⟩ (⟨rfl, rfl, rfl⟩ | ⟨rfl, rfl, hX, hT⟩ | ⟨rfl, rfl, hX, hT⟩)
    · simp only [U46, e0, hs1, w3, reduceIte, reduceCtorEq, Nat.reduceEqDiff, Nat.reduceAdd, Int.reduceLT, Int.reduceLE, Int.reduceNeg, Int.reduceEq, Nat.reduceLT, Nat.reduceSub, Nat.reduceMul, Nat.reduceBEq, Nat.reduceLeDiff, Int.reduceBEq, Int.reduceBNe, Int.reduceToNat, bA]
      by_cases hz : n1 = 0
      · subst hz
        have hx0 : xs = [] := List.eq_nil_of_length_eq_zero (by have := hA.len; omega)
        refine MS_app0 rfl hA1.src ?_
        simp only [U46, e0, hs1, w3, reduceIte, reduceCtorEq, Nat.reduceEqDiff, Nat.reduceAdd, Int.reduceLT, Int.reduceLE, Int.reduceNeg, Int.reduceEq, Nat.reduceLT, Nat.reduceSub, Nat.reduceMul, Nat.reduceBEq, Nat.reduceLeDiff, Int.reduceBEq, Int.reduceBNe, Int.reduceToNat, bA]
        refine ⟨(1, ob1, 0), by simp, .inr (.inl ⟨rfl, rfl, ⟨cs, hg, by omega, by omega, by rw [hx0]; simp⟩, Same.refl _ _⟩), by simp⟩
      · refine MS_app (m := n1) rfl (by omega) hA1.src (fun hr => ⟨cs, hg, by have := hA.len; have := mul_le (e := 1) (show n1 ≤ c' by omega); omega, ?_⟩) (fun h => by omega)
        have hset := List.getElem?_set_self (a := AObj.box (setAt cs (0 + 0 * 1) xs)) (List.getElem?_eq_some_iff.1 hg).1
        have hS2 : Same ob1 (ob1.set ob.length (AObj.box (setAt cs (0 + 0 * 1) xs))) (· = ob.length) := Same.set rfl
        generalize ob1.set ob.length (AObj.box (setAt cs (0 + 0 * 1) xs)) = ob3 at *
        simp only [U46, e0, hs1, w3, reduceIte, reduceCtorEq, Nat.reduceEqDiff, Nat.reduceAdd, Int.reduceLT, Int.reduceLE, Int.reduceNeg, Int.reduceEq, Nat.reduceLT, Nat.reduceSub, Nat.reduceMul, Nat.reduceBEq, Nat.reduceLeDiff, Int.reduceBEq, Int.reduceBNe, Int.reduceToNat, bA]
        have hl1 : 0 + 0 + xs.length ≤ cs.length := by have := hA.len; have := mul_le (e := 1) (show n1 ≤ c' by omega); omega
        refine ⟨(1, ob3, n1), by simp, .inr (.inl ⟨rfl, rfl, ⟨_, hset, by omega, by rw [setAt_len (by omega)]; omega, ?_⟩, hS2⟩), by simp⟩
        have := cells_behind (cs := cs) (row := xs) (off := 0) (b := 0) hl1
        simp only [Nat.zero_mul, Nat.add_zero, Nat.zero_add, List.take_zero, List.nil_append] at this ⊢
        rw [← hA.len]; exact this
    · have hs2 : ob2[s]? = some (.box [.asl o1 off1 n1 c1, .asl o2 off2 n2 c2]) := hT.get hs1 (hnS (List.getElem?_eq_some_iff.1 hs).1)
      have hB2 := hT.arr hB1 (hnS hB.lt)
      simp only [U46, e1, hs2, w4, reduceIte, reduceCtorEq, Nat.reduceEqDiff, Nat.reduceAdd, Int.reduceLT, Int.reduceLE, Int.reduceNeg, Int.reduceEq, Nat.reduceLT, Nat.reduceSub, Nat.reduceMul, Nat.reduceBEq, Nat.reduceLeDiff, Int.reduceBEq, Int.reduceBNe, Int.reduceToNat, bA]
      by_cases hz : n2 = 0
      · subst hz
        have hx0 : ys = [] := List.eq_nil_of_length_eq_zero (by have := hB.len; omega)
        refine MS_app0 rfl hB2.src ?_
        simp only [U46, e1, hs2, w4, reduceIte, reduceCtorEq, Nat.reduceEqDiff, Nat.reduceAdd, Int.reduceLT, Int.reduceLE, Int.reduceNeg, Int.reduceEq, Nat.reduceLT, Nat.reduceSub, Nat.reduceMul, Nat.reduceBEq, Nat.reduceLeDiff, Int.reduceBEq, Int.reduceBNe, Int.reduceToNat, bA]
        refine ⟨(2, ob2, n1), by simp, .inr (.inr ⟨rfl, rfl, by rw [hx0, List.append_nil]; exact hX, hT⟩), by simp⟩
      · obtain ⟨cs2, hg2, hc3, hl2, hx2⟩ := hX
        have hm := mul_le (e := 1) (show n1 + n2 ≤ c' by omega)
        have hBl := hB.len
        refine MS_app (m := n2) rfl (by omega) hB2.src (fun hr => ⟨cs2, hg2, by omega, ?_⟩) (fun h => by omega)
        have hset := List.getElem?_set_self (a := AObj.box (setAt cs2 (0 + n1 * 1) ys)) (List.getElem?_eq_some_iff.1 hg2).1
        have hS2 : Same ob1 (ob2.set ob.length (AObj.box (setAt cs2 (0 + n1 * 1) ys))) (· = ob.length) := hT.trans (Same.set rfl)
        generalize ob2.set ob.length (AObj.box (setAt cs2 (0 + n1 * 1) ys)) = ob3 at *
        simp only [U46, e1, hs2, w4, reduceIte, reduceCtorEq, Nat.reduceEqDiff, Nat.reduceAdd, Int.reduceLT, Int.reduceLE, Int.reduceNeg, Int.reduceEq, Nat.reduceLT, Nat.reduceSub, Nat.reduceMul, Nat.reduceBEq, Nat.reduceLeDiff, Int.reduceBEq, Int.reduceBNe, Int.reduceToNat, bA]
        refine ⟨(2, ob3, n1 + n2), by simp, .inr (.inr ⟨rfl, rfl, ⟨_, hset, by omega, by rw [setAt_len (by omega)]; omega, ?_⟩, hS2⟩), by simp⟩
        have := cells_behind (cs := cs2) (row := ys) (off := 0) (b := n1 * 1) (by omega)
        rw [hx2] at this
        rw [show (n1 + n2) * 1 = n1 * 1 + ys.length by omega]; exact this
    · simp only [U46, reduceIte, reduceCtorEq, Nat.reduceEqDiff, Nat.reduceAdd, Int.reduceLT, Int.reduceLE, Int.reduceNeg, Int.reduceEq, Nat.reduceLT, Nat.reduceSub, Nat.reduceMul, Nat.reduceBEq, Nat.reduceLeDiff, Int.reduceBEq, Int.reduceBNe, Int.reduceToNat, bA]
      refine ⟨_, rfl, ob.length, c', rfl, hX, Nat.le_refl _, hc2, ?_⟩
      exact ⟨Nat.le_trans hS.1 hT.1, fun j hj _ => (hT.2 j (Nat.lt_of_lt_of_le hj hS.1) (hnS hj)).trans (hS.2 j hj (fun h => h))⟩

end Go.Proofs.YtdgpiobmncohjaaGreat.Aw.Ar
