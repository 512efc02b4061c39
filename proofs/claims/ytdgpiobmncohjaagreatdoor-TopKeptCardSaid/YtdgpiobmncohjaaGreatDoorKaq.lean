/-
 Slices over boxes: what a box shows through one, and what the operations on them come to. Plain laws of lists of cells, and of abstract objects.; slices.overlaps at two boxes.; Lists of extents, and what they say of a sector. Plain Lean.; Parts of lists of extents, and tidying them. Plain Lean.; Cutting, laying over and clipping, by what the lists say. Plain Lean.; Lists of extents, place by place; how long one is that may be; counting. Plain Lean.; What the functions of the package 'ext' compute: extents alone, and what the document's say of them.; slices.Grow of a nil slice: no element yet, and room.; What the functions of the package 'ext' compute: lists.
-/
import Derived.Test.YtdgpiobmncohjaaGreatDoorKap
import Derived.Test.YtdgpiobmncohjaaGreatDoorQa
import Derived.Lib.Overlaps
import Derived.Test.YtdgpiobmncohjaaGreatDoorKao
import Derived.Test.YtdgpiobmncohjaaGreatDoorQb
import Derived.Test.YtdgpiobmncohjaaGreatDoorQc
import Derived.Lib.Walk
import Derived.WalkKit
set_option linter.all false
namespace Go.Proofs.YtdgpiobmncohjaaGreatDoor.Aw
open Go.RowKit
def Arr (ob : List AObj) (e o off n c : Nat) (xs : List PV) : Prop := ∃ cs, ob[o]? = some (.box cs) ∧ n ≤ c ∧ off + c * e ≤ cs.length ∧ (cs.drop off).take (n * e) = xs
theorem mul_le {n c e : Nat} (h : n ≤ c) : n * e ≤ c * e := Nat.mul_le_mul_right _ h
theorem Arr.len {ob : List AObj} {e o off n c : Nat} {xs : List PV} (h : Arr ob e o off n c xs) : xs.length = n * e := by
 obtain ⟨cs, h1, h2, h3, rfl⟩ := h
 have := mul_le (e := e) h2
 rw [List.length_take, List.length_drop]; omega
theorem Arr.lt {ob : List AObj} {e o off n c : Nat} {xs : List PV} (h : Arr ob e o off n c xs) : o < ob.length := by
 obtain ⟨cs, h1, _⟩ := h
 exact (List.getElem?_eq_some_iff.1 h1).1
theorem Arr.keep {ob ob' : List AObj} {e o off n c : Nat} {xs : List PV} (h : Arr ob e o off n c xs) (hk : ob'[o]? = ob[o]?) : Arr ob' e o off n c xs := by
 obtain ⟨cs, h1, h2⟩ := h
 exact ⟨cs, hk.trans h1, h2⟩
theorem Arr.slice {ob : List AObj} {e o off n c : Nat} {xs : List PV} (h : Arr ob e o off n c xs) {a b m : Nat} (hab : a ≤ b) (hbn : b ≤ n) (hbm : b ≤ m) (hm : m ≤ c) : Arr ob e o (off + a * e) (b - a) (m - a) ((xs.take (b * e)).drop (a * e)) := by
 obtain ⟨cs, h1, h2, h3, h4⟩ := h
 have e1 := mul_le (e := e) hab
 have e2 := mul_le (e := e) hm
 have e3 := mul_le (e := e) hbn
 have e4 := mul_le (e := e) hbm
 refine ⟨cs, h1, by omega, by rw [Nat.sub_mul]; omega, ?_⟩
 rw [← h4, List.take_take, Nat.min_eq_left e3, List.drop_take, List.drop_drop, Nat.sub_mul]
theorem arrSrc_asl {ob : List AObj} {e o off n c : Nat} {cs : List PV} (h : ob[o]? = some (.box cs)) (hl : off + n * e ≤ cs.length) : arrSrc ob e (.asl o off n c) = some ((cs.drop off).take (n * e)) := by
 simp only [arrSrc]
 split
 ·rename_i h0; subst h0; simp
 ·simp only [arrSrcO, h]; rw [if_pos hl]
theorem Arr.src {ob : List AObj} {e o off n c : Nat} {xs : List PV} (h : Arr ob e o off n c xs) : arrSrc ob e (.asl o off n c) = some xs := by
 obtain ⟨cs, h1, h2, h3, rfl⟩ := h
 exact arrSrc_asl h1 (by have := mul_le (e := e) h2; omega)
section
variable {ob : List AObj} {e o off n c : Nat} {z : List PV} {y : PV} {K : PV → List AObj → Prop}
theorem MS_app {m : Nat} {ys : List PV} (hm : arrLen y = m) (hm0 : 0 < m) (hy : arrSrc ob e y = some ys) (h1 : n + m ≤ c → ∃ cs, ob[o]? = some (.box cs) ∧ off + n * e + ys.length ≤ cs.length ∧ K (.asl o off (n + m) c) (ob.set o (.box (setAt cs (off + n * e) ys))))
  (h2 : c < n + m → ∃ xs, arrSrc ob e (.asl o off n c) = some xs ∧ aGrow n m z xs ys ob K) : MStep (.aapp e z) [.asl o off n c, y] ob K := by
 simp only [MStep, hm, hy, aAppY]
 rw [if_neg (by omega)]
 split
 ·rename_i h
  obtain ⟨cs, g1, g2, g3⟩ := h1 h
  rw [g1]; exact ⟨g2, g3⟩
 ·rename_i h
  obtain ⟨xs, g1, g2⟩ := h2 (by omega)
  rw [g1]; exact g2
theorem MS_app0 (hm : arrLen y = 0) {ys : List PV} (hy : arrSrc ob e y = some ys) (h : K (.asl o off n c) ob) : MStep (.aapp e z) [.asl o off n c, y] ob K := by
 simp only [MStep, hm, hy, aAppY, if_true]; exact h
theorem MS_apz {k : Int} {kn : Nat} {xs : List PV} (hk : k = (kn : Int)) (h0 : 0 < kn) (hc : c < n + kn) (hx : arrSrc ob e (.asl o off n c) = some xs) (hg : aGrow n kn z xs (List.replicate kn z).flatten ob K) : MStep (.aapz e z) [.asl o off n c, .int .i64 k] ob K := by
 subst hk
 simp only [MStep, aApzY, Int.toNat_natCast, hx, aGrowO]
 exact ⟨by omega, hc, hg⟩
theorem MS_apz0 {k : Int} {kn : Nat} (hk : k = (kn : Int)) (h0 : 0 < kn) (hg : aGrow 0 kn z [] (List.replicate kn z).flatten ob K) : MStep (.aapz e z) [.nils, .int .i64 k] ob K := by
 subst hk
 simp only [MStep, aApzY, Int.toNat_natCast]
 exact ⟨by omega, hg⟩
theorem MS_cpy {m k : Nat} {ys cs : List PV} (hm : arrLen y = m) (hk : min m n = k) (hk0 : 0 < k) (hy : arrSrc ob e y = some ys) (hob : ob[o]? = some (.box cs)) (hl : off + (ys.take (k * e)).length ≤ cs.length) (h : K (.int .i64 (k : Int)) (ob.set o (.box (setAt cs off (ys.take (k * e)))))) :
  MStep (.acpy e) [.asl o off n c, y] ob K := by
 simp only [MStep, hm, hy, aCpyY, hk]
 rw [if_neg (by omega), hob]; exact ⟨hl, h⟩
theorem MS_clr {cs : List PV} (h0 : 0 < n) (hob : ob[o]? = some (.box cs)) (hl : off + (List.replicate n z).flatten.length ≤ cs.length) (h : K (.tup []) (ob.set o (.box (setAt cs off (List.replicate n z).flatten)))) : MStep (.aclr z) [.asl o off n c] ob K := by
 simp only [MStep, aClrX]
 rw [if_neg (by omega), hob]; exact ⟨hl, h⟩
end
theorem setAt_len {cs : List PV} {off : Nat} {vs : List PV} (h : off + vs.length ≤ cs.length) : (setAt cs off vs).length = cs.length := setAt_length h
theorem setAt_get {cs : List PV} {off : Nat} {vs : List PV} (h : off + vs.length ≤ cs.length) (j : Nat) : (setAt cs off vs)[j]? = if off ≤ j ∧ j < off + vs.length then vs[j - off]? else cs[j]? := by
 have e1 : (cs.take off).length = off := by rw [List.length_take]; omega
 unfold setAt
 by_cases h1 : j < off
 ·rw [List.getElem?_append_left (by omega), List.getElem?_take, if_pos h1, if_neg (by omega)]
 ·by_cases h2 : j < off + vs.length
  ·rw [List.getElem?_append_right (by omega), e1, List.getElem?_append_left (by omega), if_pos ⟨by omega, h2⟩]
  ·rw [List.getElem?_append_right (by omega), e1, List.getElem?_append_right (by omega), if_neg (by omega), List.getElem?_drop]
   congr 1; omega
theorem cells_shift {cs row : List PV} {off a b e : Nat} (hr : row.length = e) (hab : a ≤ b) (hl : off + b + e ≤ cs.length) :
  ((setAt (setAt cs (off + a + e) (((cs.drop off).take b).drop a)) (off + a) row).drop off).take (b + e) = ((cs.drop off).take b).take a ++ (row ++ ((cs.drop off).take b).drop a) := by
 have l1 : ((cs.drop off).take b).length = b := by rw [List.length_take, List.length_drop]; omega
 have l2 : (((cs.drop off).take b).drop a).length = b - a := by rw [List.length_drop, l1]
 have l3 : (((cs.drop off).take b).take a).length = a := by rw [List.length_take, l1]; omega
 apply List.ext_getElem?
 intro j
 rw [List.getElem?_take, List.getElem?_drop, setAt_get (by rw [setAt_len (by omega)]; omega), setAt_get (by omega), l2, hr]
 by_cases h1 : j < a
 ·rw [if_pos (by omega), if_neg (by omega), if_neg (by omega), List.getElem?_append_left (by omega), List.getElem?_take, if_pos h1, List.getElem?_take, if_pos (by omega), List.getElem?_drop]
 ·by_cases h2 : j < a + e
  ·rw [if_pos (by omega), if_pos (by omega), List.getElem?_append_right (by omega), l3, List.getElem?_append_left (by omega)]
   congr 1; omega
  ·by_cases h3 : j < b + e
   ·rw [if_pos h3, if_neg (by omega), if_pos (by omega), List.getElem?_append_right (by omega), l3, List.getElem?_append_right (by omega)]
    congr 1; omega
   ·rw [if_neg h3, List.getElem?_append_right (by omega), l3, List.getElem?_append_right (by omega), List.getElem?_eq_none (by omega)]
theorem cells_fresh {cs X row Y : List PV} {a b e : Nat} (hX : cs.take a = X) (hr : row.length = e) (hab : a ≤ b) (hY : Y.length = b - a) (hl : b + e ≤ cs.length) :
  ((setAt (setAt cs a row) (a + e) Y).drop 0).take (b + e) = X ++ (row ++ Y) := by
 have l3 : X.length = a := by rw [← hX, List.length_take]; omega
 apply List.ext_getElem?
 intro j
 rw [List.drop_zero, List.getElem?_take, setAt_get (by rw [setAt_len (by omega)]; omega), setAt_get (by omega), hY, hr]
 by_cases h1 : j < a
 ·rw [if_pos (by omega), if_neg (by omega), if_neg (by omega), List.getElem?_append_left (by omega), ← hX, List.getElem?_take, if_pos h1]
 ·by_cases h2 : j < a + e
  ·rw [if_pos (by omega), if_neg (by omega), if_pos (by omega), List.getElem?_append_right (by omega), l3, List.getElem?_append_left (by omega)]
  ·by_cases h3 : j < b + e
   ·rw [if_pos h3, if_pos (by omega), List.getElem?_append_right (by omega), l3, List.getElem?_append_right (by omega)]
    congr 1; omega
   ·rw [if_neg h3, List.getElem?_append_right (by omega), l3, List.getElem?_append_right (by omega), List.getElem?_eq_none (by omega)]
theorem cells_behind {cs row : List PV} {off b : Nat} (hl : off + b + row.length ≤ cs.length) :
  ((setAt cs (off + b) row).drop off).take (b + row.length) = (cs.drop off).take b ++ row := by
 have l1 : ((cs.drop off).take b).length = b := by rw [List.length_take, List.length_drop]; omega
 apply List.ext_getElem?
 intro j
 rw [List.getElem?_take, List.getElem?_drop, setAt_get (by omega)]
 by_cases h1 : j < b
 ·rw [if_pos (by omega), if_neg (by omega), List.getElem?_append_left (by omega), List.getElem?_take, if_pos h1, List.getElem?_drop]
 ·by_cases h2 : j < b + row.length
  ·rw [if_pos h2, if_pos (by omega), List.getElem?_append_right (by omega), l1]
   congr 1; omega
  ·rw [if_neg h2, List.getElem?_append_right (by omega), l1, List.getElem?_eq_none (by omega)]
def Same (ob ob' : List AObj) (T : Nat → Prop) : Prop := ob.length ≤ ob'.length ∧ ∀ j, j < ob.length → ¬ T j → ob'[j]? = ob[j]?
theorem Same.refl (ob : List AObj) (T : Nat → Prop) : Same ob ob T := ⟨Nat.le_refl _, fun _ _ _ => rfl⟩
theorem Same.trans {a b c : List AObj} {T : Nat → Prop} (h : Same a b T) (k : Same b c T) : Same a c T :=
 ⟨Nat.le_trans h.1 k.1, fun j hj hT => (k.2 j (Nat.lt_of_lt_of_le hj h.1) hT).trans (h.2 j hj hT)⟩
theorem Same.mono {a b : List AObj} {T U : Nat → Prop} (h : Same a b T) (hU : ∀ j, T j → U j) : Same a b U := ⟨h.1, fun j hj hT => h.2 j hj fun ht => hT (hU j ht)⟩
theorem Same.app (ob l : List AObj) (T : Nat → Prop) : Same ob (ob ++ l) T := ⟨by simp, fun j hj _ => List.getElem?_append_left hj⟩
theorem Same.set {ob : List AObj} {o : Nat} {a : AObj} {T : Nat → Prop} (h : T o) : Same ob (ob.set o a) T := ⟨by simp, fun j _ hT => by rw [List.getElem?_set_ne]; rintro rfl; exact hT h⟩
theorem Same.get {a b : List AObj} {T : Nat → Prop} (h : Same a b T) {j : Nat} {x : AObj} (hj : a[j]? = some x) (hT : ¬ T j) : b[j]? = some x := (h.2 j (List.getElem?_eq_some_iff.1 hj).1 hT).trans hj
theorem Same.arr {a b : List AObj} {T : Nat → Prop} (h : Same a b T) {e o off n c : Nat} {xs : List PV} (hA : Arr a e o off n c xs) (hT : ¬ T o) : Arr b e o off n c xs := hA.keep (h.2 o hA.lt hT)
structure ArrR (ob : List AObj) (e o n : Nat) (xs : List PV) (r : PV) (ob' : List AObj) : Prop where
 ex : ∃ q off c, r = .asl q off n c ∧ Arr ob' e q off n c xs ∧ (q = o ∨ ob.length ≤ q) ∧ Same ob ob' (· = q) ∧ c ≤ 9223372036854775807
open Go.RowKit
theorem flat_rep (n : Nat) (z : List PV) : (List.replicate n z).flatten.length = n * z.length := by
 induction n with
 | zero => simp
 | succ n ih => rw [List.replicate_succ, List.flatten_cons, List.length_append, ih, Nat.add_mul]; omega
theorem ovl_apart {P : Program} {w : World} {t r e : TypeId} {b1 b2 o1 o2 n m c d : Nat} {cv1 cv2 : List Value} {t1 t2 : TypeId} (hu : P.underlying t = some (.slice e)) (hi : (P.info? e).isSome = true) (hb : b1 ≠ b2) (h1 : w.heap[b1]? = some (.cells cv1.toArray t1 (0, 0))) (h2 : w.heap[b2]? = some (.cells cv2.toArray t2 (0, 0))) (h0 : cv2.length ≠ 0) :
  (Extern.SlicesOverlaps.overlaps #[t, t] #[r] [Value.slice (some ⟨b1, o1, none⟩) m c, Value.slice (some ⟨b2, o2, none⟩) n d].toArray).run P w = .ok (.bool false) w := by
 obtain ⟨i, hi⟩ := Option.isSome_iff_exists.1 hi
 refine Lib.run_overlaps_apart w t r e hu i.size (fun w => sizeOf_run hi) ⟨b1, o1, none⟩ ⟨b2, o2, none⟩ m c n d hb t1 t2 cv1.length cv2.length ?_ ?_ h0 ?_ ?_
 ·simp [World.shape?, h1]
 ·simp [World.shape?, h2]
 ·simp only [World.frozen?, h1]; simp
 ·simp only [World.frozen?, h1]; simp
open Go.RowKit
structure Xt where
 fr : Int
 n : Int
 kd : Int
 at_ : Int
deriving DecidableEq
def rowE (e : Xt) : List PV := [.int .i64 e.fr, .int .i64 e.n, .int .i64 e.kd, .int .i64 e.at_]
theorem rowE_len (e : Xt) : (rowE e).length = 4 := rfl
def spanS (f n : Int) : Bool := decide (0 ≤ f ∧ 0 ≤ n ∧ f ≤ 16777216 ∧ n ≤ 16777216 - f)
def OneP (e : Xt) : Prop := 0 ≤ e.fr ∧ 1 ≤ e.n ∧ e.fr ≤ 16777216 ∧ e.n ≤ 16777216 - e.fr ∧ ((e.kd = 1 ∧ e.at_ = 0) ∨ (e.kd = 2 ∧ 0 ≤ e.at_ ∧ e.at_ ≤ 2048 ∧ e.n ≤ 2048 - e.at_))
instance (e : Xt) : Decidable (OneP e) := by unfold OneP; infer_instance
def endE (e : Xt) : Int := e.fr + e.n
def TogP (a b : Xt) : Prop := b.fr = a.fr + a.n ∧ b.kd = a.kd ∧ b.at_ = if a.kd = 2 then a.at_ + a.n else 0
instance (a b : Xt) : Decidable (TogP a b) := by unfold TogP; infer_instance
def Chain : Int → List Xt → Prop
 | _, [] => True
 | lo, e :: t => OneP e ∧ lo ≤ e.fr ∧ Chain (endE e) t
def Tight : List Xt → Prop
 | [] => True
 | [_] => True
 | a :: b :: t => ¬ TogP a b ∧ Tight (b :: t)
def OkL (l : List Xt) : Prop := Chain 0 l ∧ Tight l
def covers (e : Xt) (s : Int) : Bool := decide (e.fr ≤ s ∧ s < e.fr + e.n)
def tells (e : Xt) (s : Int) : Int × Int := (e.kd, if e.kd = 2 then e.at_ + s - e.fr else 0)
def say : List Xt → Int → Int × Int
 | [], _ => (0, 0)
 | e :: t, s => if covers e s = true then tells e s else say t s
theorem Chain.mono {lo lo' : Int} (h : lo' ≤ lo) : ∀ {l}, Chain lo l → Chain lo' l
 | [], _ => trivial
 | _ :: _, ⟨h1, h2, h3⟩ => ⟨h1, by omega, h3⟩
theorem Tight.tail {a : Xt} : ∀ {l}, Tight (a :: l) → Tight l
 | [], _ => trivial
 | _ :: _, h => h.2
theorem say_low : ∀ {l : List Xt} {lo s : Int}, Chain lo l → s < lo → say l s = (0, 0)
 | [], _, _, _, _ => rfl
 | e :: t, lo, s, ⟨h1, h2, h3⟩, hs => by
  have hc : covers e s = false := by simp only [covers, decide_eq_false_iff_not]; omega
  rw [say, hc, if_neg (by simp)]
  exact say_low h3 (by simp only [endE]; have := h1.2.1; omega)
theorem tells_ne {e : Xt} (h : OneP e) (s : Int) : tells e s ≠ (0, 0) := by
 intro h0
 simp only [tells, Prod.mk.injEq] at h0
 rcases h.2.2.2.2 with g | g <;> omega
theorem say_head {e : Xt} {t : List Xt} {s : Int} (h : e.fr ≤ s) (h2 : s < e.fr + e.n) : say (e :: t) s = tells e s := by
 rw [say, if_pos (by simp [covers, h, h2])]
theorem say_tail {e : Xt} {t : List Xt} {s : Int} (h : ¬ (e.fr ≤ s ∧ s < e.fr + e.n)) : say (e :: t) s = say t s := by
 rw [say, if_neg (by simp [covers]; omega)]
theorem same_head {e f : Xt} {t u : List Xt} (he : OneP e) (hf : OneP f) (ht : Chain (endE e) t) (hu : Chain (endE f) u) (hte : Tight (e :: t)) (hs : ∀ s, say (e :: t) s = say (f :: u) s) (hfr : e.fr = f.fr) : ¬ e.n < f.n := by
 intro hn
 have h0 := hs e.fr
 rw [say_head (Int.le_refl _) (by have := he.2.1; omega), say_head (by omega) (by have := hf.2.1; omega)] at h0
 have h1 := hs (endE e)
 have e1 : (e.fr + e.n) = endE e := rfl
 rw [say_tail (by simp only [endE]; omega), say_head (e := f) (by simp only [endE]; have := he.2.1; omega) (by simp only [endE]; omega)] at h1
 simp only [tells, Prod.mk.injEq] at h0
 cases t with
 | nil => exact tells_ne hf _ h1.symm
 | cons g t =>
  obtain ⟨g1, g2, g3⟩ := ht
  by_cases hg : g.fr = endE e
  ·rw [say_head (by omega) (by have := g1.2.1; omega)] at h1
   simp only [tells, Prod.mk.injEq, endE] at h1 hg
   refine hte.1 ⟨hg, by omega, ?_⟩
   obtain ⟨k1, k2⟩ := h1
   obtain ⟨k3, k4⟩ := h0
   rcases he.2.2.2.2 with q | q
   ·have q1 : ¬ e.kd = 2 := by omega
    have q2 : ¬ g.kd = 2 := by omega
    rw [if_neg q1]
    rcases g1.2.2.2.2 with r | r
    ·exact r.2
    ·omega
   ·have q1 : e.kd = 2 := q.1
    have q2 : g.kd = 2 := by omega
    have q3 : f.kd = 2 := by omega
    rw [if_pos q1]
    rw [if_pos q2, if_pos q3] at k2
    rw [if_pos q1, if_pos q3] at k4
    omega
  ·rw [say_low (l := g :: t) (lo := g.fr) ⟨g1, Int.le_refl _, g3⟩ (by omega)] at h1
   exact tells_ne hf _ h1.symm
theorem same_list : ∀ {l m : List Xt} {lo lo' : Int}, Chain lo l → Tight l → Chain lo' m → Tight m → (∀ s, say l s = say m s) → l = m
 | [], [], _, _, _, _, _, _, _ => rfl
 | [], f :: u, _, _, _, _, ⟨h1, _, _⟩, _, hs => by
  have := hs f.fr
  rw [say_head (Int.le_refl _) (by have := h1.2.1; omega)] at this
  exact absurd this.symm (tells_ne h1 _)
 | e :: t, [], _, _, ⟨h1, _, _⟩, _, _, _, hs => by
  have := hs e.fr
  rw [say_head (Int.le_refl _) (by have := h1.2.1; omega)] at this
  exact absurd this (tells_ne h1 _)
 | e :: t, f :: u, lo, lo', ⟨he, _, ht⟩, hte, ⟨hf, _, hu⟩, htf, hs => by
  have hfr : e.fr = f.fr := by
   rcases Int.lt_trichotomy e.fr f.fr with h | h | h
   ·have := hs e.fr
    rw [say_head (Int.le_refl _) (by have := he.2.1; omega), say_low (l := f :: u) (lo := f.fr) ⟨hf, Int.le_refl _, hu⟩ h] at this
    exact absurd this (tells_ne he _)
   ·exact h
   ·have := hs f.fr
    rw [say_head (e := f) (Int.le_refl _) (by have := hf.2.1; omega), say_low (l := e :: t) (lo := e.fr) ⟨he, Int.le_refl _, ht⟩ h] at this
    exact absurd this.symm (tells_ne hf _)
  have hn : e.n = f.n := by
   have a := same_head he hf ht hu hte hs hfr
   have b := same_head hf he hu ht htf (fun s => (hs s).symm) hfr.symm
   omega
  have hef : e = f := by
   have h0 := hs e.fr
   rw [say_head (Int.le_refl _) (by have := he.2.1; omega), say_head (by omega) (by have := hf.2.1; omega)] at h0
   simp only [tells, Prod.mk.injEq] at h0
   obtain ⟨k1, k2⟩ := h0
   have hat : e.at_ = f.at_ := by
    rcases he.2.2.2.2 with q | q <;> rcases hf.2.2.2.2 with r | r
    ·omega
    ·omega
    ·omega
    ·rw [if_pos q.1, if_pos r.1] at k2; omega
   cases e; cases f; simp_all
  subst hef
  have := same_list (lo := endE e) (lo' := endE e) ht hte.tail hu htf.tail fun s => by
   by_cases h : e.fr ≤ s ∧ s < e.fr + e.n
   ·rw [say_low ht (by simp only [endE]; omega), say_low hu (by simp only [endE]; omega)]
   ·have := hs s
    rwa [say_tail h, say_tail h] at this
  rw [this]
open Go.RowKit
def partS (e : Xt) (f t : Int) : Option Xt :=
 if min (endE e) t ≤ max e.fr f then none else some ⟨max e.fr f, min (endE e) t - max e.fr f, e.kd, if e.kd = 2 then e.at_ + max e.fr f - e.fr else 0⟩
def partsS (l : List Xt) (f t : Int) : List Xt := l.filterMap fun e => partS e f t
theorem partsS_cons (e : Xt) (l f t) : partsS (e :: l) f t = match partS e f t with | none => partsS l f t | some p => p :: partsS l f t := by
 simp only [partsS, List.filterMap_cons]; cases partS e f t <;> rfl
theorem part_none {e : Xt} {f t : Int} (h : min (endE e) t ≤ max e.fr f) : partS e f t = none := by rw [partS, if_pos h]
theorem part_some {e p : Xt} {f t : Int} (he : OneP e) (h : partS e f t = some p) : OneP p ∧ e.fr ≤ p.fr ∧ f ≤ p.fr ∧ endE p ≤ endE e ∧ endE p ≤ t ∧ p.kd = e.kd ∧ (p.fr = e.fr ∨ p.fr = f) ∧ (endE p = endE e ∨ endE p = t) ∧ (∀ s, tells p s = tells e s) ∧ p.at_ = (if e.kd = 2 then e.at_ + (p.fr - e.fr) else 0) := by
 rw [partS] at h
 split at h
 ·cases h
 ·rename_i hh
  simp only [Option.some.injEq] at h
  subst h
  simp only [endE] at hh ⊢
  have h1 := he
  obtain ⟨a1, a2, a3, a4, a5⟩ := he
  have m1 : max e.fr f = e.fr ∨ max e.fr f = f := by omega
  have m2 : min (e.fr + e.n) t = e.fr + e.n ∨ min (e.fr + e.n) t = t := by omega
  have m3 : e.fr ≤ max e.fr f := by omega
  have m4 : f ≤ max e.fr f := by omega
  have m5 : min (e.fr + e.n) t ≤ e.fr + e.n := by omega
  have m6 : min (e.fr + e.n) t ≤ t := by omega
  generalize max e.fr f = a at *
  generalize min (e.fr + e.n) t = b at *
  refine ⟨⟨by simp only []; omega, by simp only []; omega, by simp only []; omega, by simp only []; omega, ?_⟩, m3, m4, by omega, by omega, trivial, m1, by omega, fun s => ?_, ?_⟩
  ·rcases a5 with q | q
   ·exact .inl ⟨q.1, by simp only []; rw [if_neg (by omega)]⟩
   ·refine .inr ⟨q.1, ?_⟩
    simp only [q.1, if_true]; omega
  ·simp only [tells]
   by_cases hk : e.kd = 2
   ·simp only [hk, if_true, Prod.mk.injEq, true_and]; omega
   ·simp only [hk, if_false]
  ·by_cases hk : e.kd = 2
   ·simp only [hk, if_true]; omega
   ·simp only [hk, if_false]
theorem parts_chain : ∀ {l : List Xt} {lo f t : Int}, Chain lo l → Chain (max lo f) (partsS l f t)
 | [], _, _, _, _ => trivial
 | e :: l, lo, f, t, ⟨h1, h2, h3⟩ => by
  rw [partsS_cons]
  have h4 := parts_chain (f := f) (t := t) h3
  have hen : e.fr < endE e := by simp only [endE]; have := h1.2.1; omega
  cases hp : partS e f t with
  | none => exact h4.mono (by omega)
  | some p =>
   obtain ⟨g1, g2, g3, g4, g5, _⟩ := part_some h1 hp
   refine ⟨g1, by omega, h4.mono ?_⟩
   have : p.fr < endE p := by simp only [endE]; have := g1.2.1; omega
   omega
theorem parts_end : ∀ {l : List Xt} {lo f t : Int}, Chain lo l → t ≤ lo → partsS l f t = []
 | [], _, _, _, _, _ => rfl
 | e :: l, lo, f, t, ⟨h1, h2, h3⟩, h => by
  rw [partsS_cons, part_none (by simp only [endE]; omega)]
  exact parts_end h3 (by simp only [endE]; have := h1.2.1; omega)
theorem parts_say : ∀ {l : List Xt} {lo f t : Int} (s : Int), Chain lo l → say (partsS l f t) s = if f ≤ s ∧ s < t then say l s else (0, 0)
 | [], _, _, _, _, _ => by simp [partsS, say]
 | e :: l, lo, f, t, s, ⟨h1, h2, h3⟩ => by
  rw [partsS_cons]
  have ih := parts_say (f := f) (t := t) s h3
  have hn := h1.2.1
  cases hp : partS e f t with
  | none =>
   simp only []
   rw [ih]
   have hno : min (endE e) t ≤ max e.fr f := by
    rw [partS] at hp
    split at hp
    ·assumption
    ·cases hp
   simp only [endE] at hno
   by_cases hr : f ≤ s ∧ s < t
   ·rw [if_pos hr, if_pos hr, say_tail (by omega)]
   ·rw [if_neg hr, if_neg hr]
  | some p =>
   simp only []
   obtain ⟨g1, g2, g3, g4, g5, g6, g7, g8, g9, _⟩ := part_some h1 hp
   simp only [endE] at g4 g5 g8
   by_cases hc : p.fr ≤ s ∧ s < p.fr + p.n
   ·rw [say_head hc.1 hc.2, g9, if_pos (by omega), say_head (by omega) (by omega)]
   ·rw [say_tail hc, ih]
    by_cases hr : f ≤ s ∧ s < t
    ·rw [if_pos hr, if_pos hr]
     by_cases he : e.fr ≤ s ∧ s < e.fr + e.n
     ·omega
     ·rw [say_tail he]
    ·rw [if_neg hr, if_neg hr]
def pushT (out : List Xt) (e : Xt) : List Xt :=
 match out.getLast? with
 | some k => if TogP k e then out.dropLast ++ [{ k with n := k.n + e.n }] else out ++ [e]
 | none => out ++ [e]
def tidyS (l : List Xt) : List Xt := l.foldl pushT []
theorem pushT_nil {e} : pushT [] e = [e] := rfl
theorem pushT_snoc {r k e} : pushT (r ++ [k]) e = if TogP k e then r ++ [{ k with n := k.n + e.n }] else r ++ [k, e] := by
 simp [pushT]
theorem merge_one {k e : Xt} (hk : OneP k) (he : OneP e) (ht : TogP k e) : OneP { k with n := k.n + e.n } := by
 obtain ⟨a1, a2, a3, a4, a5⟩ := hk
 obtain ⟨b1, b2, b3, b4, b5⟩ := he
 obtain ⟨t1, t2, t3⟩ := ht
 refine ⟨a1, by simp only []; omega, a3, by simp only []; omega, ?_⟩
 rcases a5 with q | q
 ·exact .inl q
 ·have := q.1
  rw [if_pos this] at t3
  refine .inr ⟨q.1, q.2.1, q.2.2.1, ?_⟩
  simp only []
  rcases b5 with z | z <;> omega
theorem merge_chain {k e : Xt} {l : List Xt} (ht : TogP k e) : ∀ {r : List Xt} {lo : Int}, Chain lo (r ++ k :: e :: l) → Chain lo (r ++ { k with n := k.n + e.n } :: l)
 | [], lo, ⟨h1, h2, h3, h4, h5⟩ => ⟨merge_one h1 h3 ht, h2, by
   have : endE { k with n := k.n + e.n } = endE e := by simp only [endE, ht.1]; omega
   rw [this]; exact h5⟩
 | a :: r, lo, ⟨h1, h2, h3⟩ => ⟨h1, h2, merge_chain ht h3⟩
theorem merge_say {k e : Xt} {l : List Xt} (hk : OneP k) (he : OneP e) (ht : TogP k e) (s : Int) : ∀ (r : List Xt), say (r ++ { k with n := k.n + e.n } :: l) s = say (r ++ k :: e :: l) s
 | [] => by
  simp only [List.nil_append]
  obtain ⟨t1, t2, t3⟩ := ht
  have a2 := hk.2.1
  have b2 := he.2.1
  by_cases h1 : k.fr ≤ s ∧ s < k.fr + k.n
  ·rw [say_head (e := { k with n := k.n + e.n }) h1.1 (by show s < k.fr + (k.n + e.n); omega), say_head h1.1 h1.2]; rfl
  ·rw [say_tail h1]
   by_cases h2 : e.fr ≤ s ∧ s < e.fr + e.n
   ·rw [say_head (e := { k with n := k.n + e.n }) (by show k.fr ≤ s; omega) (by show s < k.fr + (k.n + e.n); omega), say_head h2.1 h2.2]
    simp only [tells, t2]
    by_cases hq : k.kd = 2
    ·rw [if_pos hq] at t3
     simp only [hq, if_true, Prod.mk.injEq, true_and]; omega
    ·simp only [hq, if_false]
   ·rw [say_tail h2, say_tail (e := { k with n := k.n + e.n }) (by show ¬ (k.fr ≤ s ∧ s < k.fr + (k.n + e.n)); omega)]
 | a :: r => by
  rw [List.cons_append, List.cons_append, say, say, merge_say hk he ht s r]
theorem tight_swap {k k' : Xt} (h1 : k'.fr = k.fr) (h2 : k'.kd = k.kd) (h3 : k'.at_ = k.at_) : ∀ {r : List Xt}, Tight (r ++ [k]) → Tight (r ++ [k'])
 | [], _ => trivial
 | [a], h => ⟨fun ht => h.1 ⟨by rw [← h1]; exact ht.1, by rw [← h2]; exact ht.2.1, by rw [← h3]; exact ht.2.2⟩, trivial⟩
 | a :: b :: r, h => ⟨h.1, tight_swap (r := b :: r) h1 h2 h3 h.2⟩
theorem tight_snoc {k e : Xt} (h : ¬ TogP k e) : ∀ {r : List Xt}, Tight (r ++ [k]) → Tight (r ++ [k, e])
 | [], _ => ⟨h, trivial⟩
 | [a], h1 => ⟨h1.1, h, trivial⟩
 | a :: b :: r, h1 => ⟨h1.1, tight_snoc (r := b :: r) h h1.2⟩
theorem chain_mem : ∀ {r l : List Xt} {lo : Int} {k : Xt}, Chain lo (r ++ k :: l) → OneP k
 | [], _, _, _, h => h.1
 | _ :: r, _, _, _, h => chain_mem (r := r) h.2.2
theorem snoc_cases (l : List Xt) : l = [] ∨ ∃ r k, l = r ++ [k] := by
 by_cases h : l = []
 ·exact .inl h
 ·exact .inr ⟨l.dropLast, l.getLast h, (List.dropLast_concat_getLast h).symm⟩
theorem fold_ok : ∀ (l out : List Xt) (lo : Int), Chain lo (out ++ l) → Tight out → Chain lo (l.foldl pushT out) ∧ Tight (l.foldl pushT out) ∧ ∀ s, say (l.foldl pushT out) s = say (out ++ l) s
 | [], out, lo, h, ht => by simpa using ⟨by simpa using h, ht⟩
 | e :: l, out, lo, h, ht => by
  rw [List.foldl_cons]
  rcases snoc_cases out with rfl | ⟨r, k, rfl⟩
  ·rw [pushT_nil]
   exact fold_ok l [e] lo h trivial
  ·rw [pushT_snoc]
   have h' : Chain lo (r ++ k :: e :: l) := by simpa using h
   by_cases hq : TogP k e
   ·rw [if_pos hq]
    have hk := chain_mem h'
    have he : OneP e := chain_mem (r := r ++ [k]) (l := l) (lo := lo) h
    have := fold_ok l (r ++ [{ k with n := k.n + e.n }]) lo (by simpa using merge_chain hq h') (tight_swap (k := k) (k' := { k with n := k.n + e.n }) rfl rfl rfl ht)
    refine ⟨this.1, this.2.1, fun s => ?_⟩
    rw [this.2.2 s]
    have := merge_say (l := l) hk he hq s r
    simpa using this
   ·rw [if_neg hq]
    have := fold_ok l (r ++ [k, e]) lo (by simpa using h') (tight_snoc hq ht)
    refine ⟨this.1, this.2.1, fun s => ?_⟩
    rw [this.2.2 s]; simp
theorem tidy_ok {l : List Xt} {lo : Int} (h : Chain lo l) : Chain lo (tidyS l) ∧ Tight (tidyS l) ∧ ∀ s, say (tidyS l) s = say l s := fold_ok l [] lo h trivial
open Go.RowKit
theorem chain_append {m : Int} : ∀ {a b : List Xt} {lo : Int}, Chain lo a → (∀ e ∈ a, endE e ≤ m) → lo ≤ m → Chain m b → Chain lo (a ++ b)
 | [], _, _, _, _, h, hb => hb.mono h
 | e :: a, b, lo, ⟨h1, h2, h3⟩, hm, hl, hb => ⟨h1, h2, chain_append h3 (fun x hx => hm x (List.mem_cons_of_mem _ hx)) (hm e (by simp)) hb⟩
theorem chain_one : ∀ {l : List Xt} {lo : Int}, Chain lo l → ∀ e ∈ l, OneP e
 | _ :: _, _, ⟨h1, _, h3⟩, e, he => (List.mem_cons.1 he).elim (fun h => h ▸ h1) (chain_one h3 e)
theorem parts_ends {l : List Xt} {lo f t : Int} (h : Chain lo l) : ∀ e ∈ partsS l f t, endE e ≤ t := by
 intro p hp
 obtain ⟨e, he, h2⟩ := List.mem_filterMap.1 hp
 exact (part_some (chain_one h e he) h2).2.2.2.2.1
theorem say_append : ∀ (a b : List Xt) (s : Int), say (a ++ b) s = if say a s = (0, 0) ∧ (∀ e ∈ a, covers e s = false) then say b s else say a s
 | [], b, s => by simp [say]
 | e :: a, b, s => by
  rw [List.cons_append, say, say, say_append a b s]
  by_cases h : covers e s = true
  ·rw [if_pos h, if_pos h, if_neg]
   intro hh
   have := hh.2 e (by simp)
   rw [h] at this; cases this
  ·rw [if_neg h, if_neg h]
   simp only [Bool.not_eq_true] at h
   simp [h]
theorem say_none : ∀ {l : List Xt} {s : Int}, (∀ e ∈ l, covers e s = false) → say l s = (0, 0)
 | [], _, _ => rfl
 | e :: l, s, h => by
  rw [say, h e (by simp)]
  simpa using say_none fun x hx => h x (List.mem_cons_of_mem _ hx)
theorem say_some : ∀ {l : List Xt} {lo s : Int}, Chain lo l → say l s = (0, 0) → ∀ e ∈ l, covers e s = false
 | e :: l, lo, s, ⟨h1, _, h3⟩, h, x, hx => by
  by_cases hc : covers e s = true
  ·rw [say, if_pos hc] at h
   exact absurd h (tells_ne h1 s)
  ·rw [say, if_neg hc] at h
   rcases List.mem_cons.1 hx with rfl | hx
   ·simpa using hc
   ·exact say_some h3 h x hx
theorem say_app {a b : List Xt} {lo : Int} (h : Chain lo a) (s : Int) : say (a ++ b) s = if say a s = (0, 0) then say b s else say a s := by
 rw [say_append]
 by_cases h0 : say a s = (0, 0)
 ·rw [if_pos ⟨h0, say_some h h0⟩, if_pos h0]
 ·rw [if_neg (fun hh => h0 hh.1), if_neg h0]
theorem say_high : ∀ {l : List Xt} {lo s : Int}, Chain lo l → 16777216 ≤ s → say l s = (0, 0)
 | [], _, _, _, _ => rfl
 | e :: t, lo, s, ⟨h1, h2, h3⟩, hs => by
  rw [say_tail (by have := h1.2.2.2.1; omega)]
  exact say_high h3 hs
def cutS (l : List Xt) (f n : Int) : List Xt := tidyS (partsS l 0 f ++ partsS l (f + n) 16777216)
def overS (l : List Xt) (e : Xt) : List Xt := tidyS (partsS l 0 e.fr ++ ([e] ++ partsS l (endE e) 16777216))
def SpanP (f n : Int) : Prop := 0 ≤ f ∧ 0 ≤ n ∧ f ≤ 16777216 ∧ n ≤ 16777216 - f
theorem parts0 {l : List Xt} {f t : Int} (h : Chain 0 l) : Chain 0 (partsS l f t) := (parts_chain h).mono (by omega)
theorem cut_chain {l : List Xt} {f n : Int} (h : OkL l) (hs : SpanP f n) : Chain 0 (partsS l 0 f ++ partsS l (f + n) 16777216) :=
 chain_append (parts0 h.1) (parts_ends h.1) hs.1 ((parts_chain (f := f + n) h.1).mono (by have := hs.2.1; omega))
theorem cut_ok {l : List Xt} {f n : Int} (h : OkL l) (hs : SpanP f n) : OkL (cutS l f n) := ⟨(tidy_ok (cut_chain h hs)).1, (tidy_ok (cut_chain h hs)).2.1⟩
theorem cut_say {l : List Xt} {f n : Int} (h : OkL l) (hs : SpanP f n) (s : Int) : say (cutS l f n) s = if f ≤ s ∧ s < f + n then (0, 0) else say l s := by
 rw [cutS, (tidy_ok (cut_chain h hs)).2.2, say_app (parts0 h.1), parts_say s h.1, parts_say s h.1]
 obtain ⟨a, b, c, d⟩ := hs
 by_cases h1 : 0 ≤ s ∧ s < f
 ·rw [if_pos h1, if_neg (show ¬ (f + n ≤ s ∧ s < 16777216) by omega), if_neg (show ¬ (f ≤ s ∧ s < f + n) by omega)]
  split
  ·rename_i hh; rw [hh]
  ·rfl
 ·rw [if_neg h1, if_pos rfl]
  by_cases h2 : f + n ≤ s ∧ s < 16777216
  ·rw [if_pos h2, if_neg (by omega)]
  ·rw [if_neg h2]
   by_cases h3 : f ≤ s ∧ s < f + n
   ·rw [if_pos h3]
   ·rw [if_neg h3]
    by_cases h4 : s < 0
    ·rw [say_low h.1 h4]
    ·rw [say_high h.1 (by omega)]
theorem over_chain {l : List Xt} {e : Xt} (h : OkL l) (he : OneP e) : Chain 0 (partsS l 0 e.fr ++ ([e] ++ partsS l (endE e) 16777216)) :=
 chain_append (parts0 h.1) (parts_ends h.1) he.1 ⟨he, Int.le_refl _, (parts_chain (f := endE e) h.1).mono (by omega)⟩
theorem over_ok {l : List Xt} {e : Xt} (h : OkL l) (he : OneP e) : OkL (overS l e) := ⟨(tidy_ok (over_chain h he)).1, (tidy_ok (over_chain h he)).2.1⟩
theorem over_say {l : List Xt} {e : Xt} (h : OkL l) (he : OneP e) (s : Int) : say (overS l e) s = if e.fr ≤ s ∧ s < e.fr + e.n then tells e s else say l s := by
 rw [overS, (tidy_ok (over_chain h he)).2.2, say_app (parts0 h.1), parts_say s h.1]
 have h0 := he
 obtain ⟨a, b, c, d, _⟩ := he
 by_cases h1 : 0 ≤ s ∧ s < e.fr
 ·rw [if_pos h1, if_neg (by omega : ¬ (e.fr ≤ s ∧ s < e.fr + e.n))]
  split
  ·rename_i hh
   rw [hh, List.singleton_append, say_tail (by omega), parts_say s h.1, if_neg (by simp only [endE]; omega)]
  ·rfl
 ·rw [if_neg h1, if_pos rfl, List.singleton_append]
  by_cases h2 : e.fr ≤ s ∧ s < e.fr + e.n
  ·rw [if_pos h2, say_head h2.1 h2.2]
  ·rw [if_neg h2, say_tail h2, parts_say s h.1]
   have ee : endE e = e.fr + e.n := rfl
   by_cases h3 : endE e ≤ s ∧ s < 16777216
   ·rw [if_pos h3]
   ·rw [if_neg h3]
    by_cases h4 : s < 0
    ·rw [say_low h.1 h4]
    ·rw [say_high h.1 (by omega)]
theorem ok_same {l m : List Xt} (h : OkL l) (g : OkL m) (hs : ∀ s, say l s = say m s) : l = m := same_list h.1 h.2 g.1 g.2 hs
open Go.RowKit
def LinkP (a b : Xt) : Prop := endE a ≤ b.fr ∧ ¬ TogP a b
instance (a b : Xt) : Decidable (LinkP a b) := by unfold LinkP; infer_instance
def okF : Option Xt → List Xt → Bool
 | _, [] => true
 | none, e :: t => decide (OneP e) && okF (some e) t
 | some a, e :: t => decide (OneP e) && (decide (LinkP a e) && okF (some e) t)
def okB (l : List Xt) : Bool := okF none l
theorem okF_some : ∀ {l : List Xt} {a : Xt}, okF (some a) l = true ↔ (∀ i (h : i < l.length), OneP l[i]) ∧ (∀ h : 0 < l.length, LinkP a l[0]) ∧ ∀ i (h : i + 1 < l.length), LinkP l[i] l[i + 1]
 | [], a => by simp [okF]
 | e :: t, a => by
  simp only [okF, Bool.and_eq_true, decide_eq_true_eq, okF_some]
  constructor
  ·rintro ⟨h1, h2, h3, h4, h5⟩
   refine ⟨fun i h => ?_, fun _ => h2, fun i h => ?_⟩
   ·cases i with
    | zero => exact h1
    | succ i => exact h3 i (by simpa using h)
   ·cases i with
    | zero => exact h4 (by simpa using h)
    | succ i => exact h5 i (by simpa using h)
  ·rintro ⟨h1, h2, h3⟩
   exact ⟨h1 0 (by simp), h2 (by simp), fun i h => h1 (i + 1) (by simpa using h), fun h => h3 0 (by simpa using h), fun i h => h3 (i + 1) (by simpa using h)⟩
theorem okB_at {l : List Xt} : okB l = true ↔ (∀ i (h : i < l.length), OneP l[i]) ∧ ∀ i (h : i + 1 < l.length), LinkP l[i] l[i + 1] := by
 cases l with
 | nil => simp [okB, okF]
 | cons e t =>
  simp only [okB, okF, Bool.and_eq_true, decide_eq_true_eq, okF_some]
  constructor
  ·rintro ⟨h1, h3, h4, h5⟩
   refine ⟨fun i h => ?_, fun i h => ?_⟩
   ·cases i with
    | zero => exact h1
    | succ i => exact h3 i (by simpa using h)
   ·cases i with
    | zero => exact h4 (by simpa using h)
    | succ i => exact h5 i (by simpa using h)
  ·rintro ⟨h1, h3⟩
   exact ⟨h1 0 (by simp), fun i h => h1 (i + 1) (by simpa using h), fun h => h3 0 (by simpa using h), fun i h => h3 (i + 1) (by simpa using h)⟩
theorem okF_ok : ∀ {l : List Xt} {a : Xt}, okF (some a) l = true ↔ Chain (endE a) l ∧ Tight (a :: l)
 | [], a => by simp [okF, Chain, Tight]
 | e :: t, a => by
  simp only [okF, Bool.and_eq_true, decide_eq_true_eq, okF_ok, Chain, Tight]
  constructor
  ·rintro ⟨h1, ⟨h2, h3⟩, h4, h5⟩; exact ⟨⟨h1, h2, h4⟩, h3, h5⟩
  ·rintro ⟨⟨h1, h2, h4⟩, h3, h5⟩; exact ⟨h1, ⟨h2, h3⟩, h4, h5⟩
theorem okB_ok {l : List Xt} : okB l = true ↔ OkL l := by
 cases l with
 | nil => simp [okB, okF, OkL, Chain, Tight]
 | cons e t =>
  simp only [okB, okF, Bool.and_eq_true, decide_eq_true_eq, okF_ok, OkL, Chain]
  constructor
  ·rintro ⟨h1, h4, h5⟩; exact ⟨⟨h1, h1.1, h4⟩, h5⟩
  ·rintro ⟨⟨h1, _, h4⟩, h5⟩; exact ⟨h1, h4, h5⟩
theorem okB_one {l : List Xt} (h : okB l = true) : ∀ e ∈ l, OneP e := chain_one (okB_ok.1 h).1
theorem chain_len : ∀ {l : List Xt} {lo : Int}, Chain lo l → 0 ≤ lo → lo ≤ 16777216 → lo + l.length ≤ 16777216
 | [], lo, _, _, h => by simpa using h
 | e :: t, lo, ⟨h1, h2, h3⟩, h, _ => by
  have h4 : endE e ≤ 16777216 := by simp only [endE]; have := h1.2.2.2.1; omega
  have := chain_len h3 (by simp only [endE]; have := h1.1; have := h1.2.1; omega) h4
  have : e.fr < endE e := by simp only [endE]; have := h1.2.1; omega
  simp only [List.length_cons]; omega
theorem ok_len {l : List Xt} (h : OkL l) : l.length ≤ 16777216 := by
 have := chain_len h.1 (Int.le_refl _) (by decide); omega
theorem chain_len0 {l : List Xt} (h : Chain 0 l) : l.length ≤ 16777216 := by
 have := chain_len h (Int.le_refl _) (by decide); omega
theorem pushT_len (out : List Xt) (e : Xt) : (pushT out e).length ≤ out.length + 1 := by
 rcases snoc_cases out with rfl | ⟨r, k, rfl⟩
 ·simp [pushT]
 ·rw [pushT_snoc]; split <;> simp
theorem tidy_take (l : List Xt) (i : Nat) (h : i < l.length) : tidyS (l.take (i + 1)) = pushT (tidyS (l.take i)) l[i] := by
 rw [List.take_succ_eq_append_getElem h, tidyS, List.foldl_append]; rfl
theorem tidy_len (l : List Xt) : (tidyS l).length ≤ l.length := by
 have : ∀ (m out : List Xt), (m.foldl pushT out).length ≤ out.length + m.length := by
  intro m
  induction m with
  | nil => intro out; simp
  | cons e m ih => intro out; rw [List.foldl_cons]; have := ih (pushT out e); have := pushT_len out e; simp; omega
 simpa [tidyS] using this l []
theorem chain_take {i : Nat} : ∀ {l : List Xt} {lo : Int}, Chain lo l → Chain lo (l.take i) := by
 induction i with
 | zero => intros; exact trivial
 | succ i ih =>
  intro l lo h
  cases l with
  | nil => exact trivial
  | cons e t => exact ⟨h.1, h.2.1, ih h.2.2⟩
open Go.RowKit
abbrev pE (e : Xt) : PV := .agg (rowE e)
theorem span_spec (f n : Int) : PCall Tryz.prog 88 [.int .i64 f, .int .i64 n] (.bool (spanS f n)) := by
 refine pcall_go Tryz.func88 E88.h ?_
 by_cases h1 : 0 ≤ f
 ·have d1 := decide_eq_true h1
  by_cases h2 : 0 ≤ n
  ·have d2 := decide_eq_true h2
   by_cases h3 : f ≤ 16777216
   ·have d3 := decide_eq_true h3
    have e : IntKind.i64.wrap (16777216 - f) = 16777216 - f := wrapI (by omega) (by omega)
    simp only [U88, d1, d2, d3, e, seval, bA]
    simp [spanS, h1, h2, h3]
   ·have d3 := decide_eq_false h3
    simp only [U88, d1, d2, d3, seval, bA]
    simp [spanS, h1, h2, h3]
  ·have d2 := decide_eq_false h2
   simp only [U88, d1, d2, seval, bA]
   simp [spanS, h1, h2]
 ·have d1 := decide_eq_false h1
  simp only [U88, d1, seval, bA]
  simp [spanS, h1]
theorem spanS_iff {f n : Int} : spanS f n = true ↔ SpanP f n := by simp [spanS, SpanP]
theorem one_spec (e : Xt) : PCall Tryz.prog 52 [pE e] (.bool (decide (OneP e))) := by
 refine pcall_go Tryz.func52 E52.h ?_
 simp only [U52, rowE, seval, bA]
 refine callI (span_spec e.fr e.n) ?_
 by_cases hs : spanS e.fr e.n = true
 ·have hs' := spanS_iff.1 hs
  by_cases h1 : e.n < 1
  ·have d1 := decide_eq_true h1
   have hn : ¬ OneP e := fun h => by have := h.2.1; omega
   simp only [U52, rowE, hs, d1, seval, bA]
   simp [hn]
  ·have d1 := decide_eq_false h1
   by_cases h2 : e.kd = 1
   ·have d2 : (e.kd == 1) = true := beq_iff_eq.2 h2
    simp only [U52, rowE, hs, d1, d2, seval, bA]
    have : (e.at_ == 0) = decide (OneP e) := by
     rw [Bool.eq_iff_iff, beq_iff_eq, decide_eq_true_eq]; unfold OneP
     obtain ⟨a, b, c, d⟩ := hs'
     constructor
     ·intro h; exact ⟨a, by omega, c, d, .inl ⟨h2, h⟩⟩
     ·intro h; omega
    simp [this]
   ·have d2 : (e.kd == 1) = false := beq_eq_false_iff_ne.2 h2
    by_cases h3 : e.kd = 2
    ·have d3 : (e.kd == 2) = true := beq_iff_eq.2 h3
     by_cases h4 : 0 ≤ e.at_
     ·have d4 := decide_eq_true h4
      by_cases h5 : e.at_ ≤ 2048
      ·have d5 := decide_eq_true h5
       have e1 : IntKind.i64.wrap (2048 - e.at_) = 2048 - e.at_ := wrapI (by omega) (by omega)
       simp only [U52, rowE, hs, d1, d2, d3, d4, d5, e1, seval, bA]
       have : decide (e.n ≤ 2048 - e.at_) = decide (OneP e) := by
        rw [Bool.eq_iff_iff, decide_eq_true_eq, decide_eq_true_eq]; unfold OneP
        obtain ⟨a, b, c, d⟩ := hs'
        constructor
        ·intro h; exact ⟨a, by omega, c, d, .inr ⟨h3, h4, h5, h⟩⟩
        ·intro h; omega
       simp [this]
      ·have d5 := decide_eq_false h5
       have hn : ¬ OneP e := fun h => by have := h.2.2.2.2; omega
       simp only [U52, rowE, hs, d1, d2, d3, d4, d5, seval, bA]
       simp [hn]
     ·have d4 := decide_eq_false h4
      have hn : ¬ OneP e := fun h => by have := h.2.2.2.2; omega
      simp only [U52, rowE, hs, d1, d2, d3, d4, seval, bA]
      simp [hn]
    ·have d3 : (e.kd == 2) = false := beq_eq_false_iff_ne.2 h3
     have hn : ¬ OneP e := fun h => by have := h.2.2.2.2; omega
     simp only [U52, rowE, hs, d1, d2, d3, seval, bA]
     simp [hn]
 ·simp only [Bool.not_eq_true] at hs
  have hn : ¬ OneP e := fun h => by
   have : spanS e.fr e.n = true := spanS_iff.2 ⟨h.1, by have := h.2.1; omega, h.2.2.1, h.2.2.2.1⟩
   rw [hs] at this; cases this
  simp only [U52, rowE, hs, seval, bA]
  simp [hn]
theorem end_spec (e : Xt) (he : OneP e) : PCall Tryz.prog 93 [pE e] (.int .i64 (endE e)) := by
 refine pcall_go Tryz.func93 E93.h ?_
 obtain ⟨a, b, c, d, _⟩ := he
 have e1 : IntKind.i64.wrap (e.fr + e.n) = endE e := wrapI (by omega) (by omega)
 simp only [U93, rowE, e1, seval, bA]
theorem together_spec (a b : Xt) (ha : OneP a) : PCall Tryz.prog 107 [pE a, pE b] (.bool (decide (TogP a b))) := by
 refine pcall_go Tryz.func107 E107.h ?_
 simp only [U107, rowE, seval, bA]
 refine callI (end_spec a ha) ?_
 obtain ⟨h1, h2, h3, h4, h5⟩ := ha
 by_cases hk : a.kd = 2
 ·have d1 : (a.kd == 2) = true := beq_iff_eq.2 hk
  have e1 : IntKind.i64.wrap (a.at_ + a.n) = a.at_ + a.n := wrapI (by omega) (by omega)
  simp only [U107, rowE, d1, e1, seval, bA]
  congr 2
  rw [Bool.eq_iff_iff, decide_eq_true_eq]
  simp only [Bool.and_eq_true, beq_iff_eq, TogP, endE, hk, if_true]
  omega
 ·have d1 : (a.kd == 2) = false := beq_eq_false_iff_ne.2 hk
  simp only [U107, rowE, d1, seval, bA]
  congr 2
  rw [Bool.eq_iff_iff, decide_eq_true_eq]
  simp only [Bool.and_eq_true, beq_iff_eq, TogP, endE, hk, if_false]
  omega
theorem check_spec (l : List Xt) (hm : l.length ≤ 9223372036854775807) : PCall Tryz.prog 63 [.slc (l.map rowE)] (.bool (okB l)) := by
 refine pcall_go Tryz.func63 E63.h ?_
 simp only [U63, seval, bA]
 refine loopF (fun i : Nat => ⟨ofL [(0, .slc (l.map rowE)), (5, .slc (l.map rowE)), (6, .int .i64 l.length), (7, .int .i64 i)], []⟩)
  (fun i => i ≤ l.length ∧ (∀ j (h : j < l.length), j < i → OneP l[j]) ∧ ∀ j (h : j + 1 < l.length), j + 1 < i → LinkP l[j] l[j + 1]) (fun i => l.length - i) 0 ?_ ⟨Nat.zero_le _, fun j _ h => absurd h (by omega), fun j _ h => absurd h (by omega)⟩ ?_
 ·simp only [U63, seval, bA]
  all_goals rfl
 ·intro i ⟨hi, h1, h2⟩
  by_cases h : i < l.length
  ·have d : decide ((i : Int) < (l.length : Int)) = true := by simpa using h
   have e1 : IntKind.i64.wrap ((i : Int) + 1) = ((i + 1 : Nat) : Int) := by rw [wrapI (by omega) (by omega)]; omega
   simp only [U63, d, islV_map (g := rowE) h (rowE_len _), rowE, seval, bA]
   refine callI (one_spec l[i]) ?_
   by_cases ho : OneP l[i]
   ·have d1 := decide_eq_true ho
    have h1' : ∀ j (h : j < l.length), j < i + 1 → OneP l[j] := fun j hj hlt => by
     by_cases e : j = i
     ·subst e; exact ho
     ·exact h1 j hj (by omega)
    by_cases h0 : 0 < i
    ·have d2 : decide ((0 : Int) < (i : Int)) = true := by simpa using h0
     obtain ⟨k, rfl⟩ : ∃ k, i = k + 1 := ⟨i - 1, by omega⟩
     have hk : k < l.length := by omega
     have hok := h1 k hk (by omega)
     have e2 : IntKind.i64.wrap (((k + 1 : Nat) : Int) - 1) = (k : Int) := by rw [wrapI (by omega) (by omega)]; omega
     simp only [U63, d1, d2, e2, islV_map (g := rowE) hk (rowE_len _), rowE, seval, bA]
     refine callI (end_spec l[k] hok) ?_
     by_cases hl : endE l[k] ≤ l[k + 1].fr
     ·have d3 : decide (l[k + 1].fr < endE l[k]) = false := by simpa using hl
      simp only [U63, d3, e2, islV_map (g := rowE) hk (rowE_len _), rowE, seval, bA]
      refine callI (together_spec l[k] l[k + 1] hok) ?_
      by_cases ht : TogP l[k] l[k + 1]
      ·have d4 := decide_eq_true ht
       have hr : okB l = false := by
        cases hb : okB l with
        | false => rfl
        | true => exact absurd ht ((okB_at.1 hb).2 k h).2
       simp only [U63, d4, hr, seval, bA]
      ·have d4 := decide_eq_false ht
       simp only [U63, d4, e1, seval, bA]
       refine ⟨k + 1 + 1, rfl, ⟨by omega, h1', fun j hj hlt => ?_⟩, by omega⟩
       by_cases e : j = k
       ·subst e; exact ⟨hl, ht⟩
       ·exact h2 j hj (by omega)
     ·have d3 : decide (l[k + 1].fr < endE l[k]) = true := by simpa using hl
      have hr : okB l = false := by
       cases hb : okB l with
       | false => rfl
       | true => exact absurd ((okB_at.1 hb).2 k h).1 hl
      simp only [U63, d3, hr, seval, bA]
    ·have d2 : decide ((0 : Int) < (i : Int)) = false := by simpa using h0
     simp only [U63, d1, d2, e1, seval, bA]
     exact ⟨i + 1, rfl, ⟨by omega, h1', fun j hj hlt => absurd hlt (by omega)⟩, by omega⟩
   ·have d1 := decide_eq_false ho
    have hr : okB l = false := by
     cases hb : okB l with
     | false => rfl
     | true => exact absurd ((okB_at.1 hb).1 i h) ho
    simp only [U63, d1, hr, seval, bA]
  ·have d : decide ((i : Int) < (l.length : Int)) = false := by simpa using h
   have hr : okB l = true := okB_at.2 ⟨fun j hj => h1 j hj (by omega), fun j hj => h2 j hj (by omega)⟩
   simp only [U63, d, hr, seval, bA]
open Go.RowKit
theorem app_zeros {P : Program} (w : World) {t tn e : TypeId} (ty : TypeId) {i : TypeInfo} {z : Value} (k : IntKind) {kn : IntKind} (ht : P.underlying t = some (.slice e)) (htn : P.underlying tn = some (.int kn)) (hi : P.info? e = some i) (hz : i.zero = some z)
  (n : Nat) (h0 : 0 < n) (hn : n ≤ 16777216) (hs : 0 < i.size) (hb : n * i.bytes ≤ 281474976710656) :
  (Builtin.append_ #[t, tn] ty #[.slice none 0 0, .int k n]).run P w =
   .ok (.slice (some ⟨w.heap.size, 0, none⟩) n (grownCap w n 0 e)) (w.drew.alloc (.cells (Builtin.zeroCells z.cells n ++ Builtin.zeroCells z.cells (grownCap w n 0 e - n)) e)) := by
 have a1 : IntKind.i64.wrap (n : Int) = n := by rw [IntKind.wrap_i64]; omega
 have a2 : n ≠ 0 := by omega
 have a3 : ¬ ((n : Int) < 0) := by omega
 have a4 : ¬ (n * i.size = 0) := Nat.mul_ne_zero a2 (by omega)
 have a5 : ¬ (9223372036854775807 < (n : Int)) := by omega
 have a6 : ¬ (281474976710656 < Builtin.nextslicecap n 0 * i.bytes) := by rw [nextslicecap_zero h0]; omega
 have a7 : ¬ (281474976710656 < (n : Int) * (i.bytes : Int)) := by rw [← Int.natCast_mul]; omega
 simp [Builtin.append_, run_underlying ht, run_underlying htn, sizeOf, typeInfo, zeroValue, hi, hz, asInt, asIntOf, a1, a2, a3, a4, a5, a6, a7, Question.forced, run_firstCells_none, newRow, grownCap]
theorem wpl_append {P : Program} {w : World} {ops : Array Oper} {rest : List Oper} {o : Oper} {a : Act} {Q : Exit → Act → World → Prop} (hgd : o.guard = none) (s x : Operand) (t tn : TypeId)
  (ho : o.op = .call { callee := .builtin .append, args := #[s, x], argTypes := #[t, tn] }) {vs vx : Value} (hs : a.eval s = vs) (hx : a.eval x = vx) {v' : Value} {w' : World} (hr : (Builtin.append_ #[t, tn] o.type #[vs, vx]).run P w = .ok v' w')
  (h : wpList P ops Q rest (a.put o.dst v') w') : wpList P ops Q (o :: rest) a w :=
 wpList_plain hgd fun _ hK => by
  unfold Oper.wp execOp
  simp only [ho, resolve, invoke, builtin, Sem.run_bind, Sem.run_pure, Result.andThen_ok, List.map_toArray, List.map_cons, List.map_nil, hs, hx, hr]
  exact hK _ _ h
set_option maxHeartbeats 1000000 in
set_option maxRecDepth 100000 in
theorem grow_spec (n : Nat) (hn : n ≤ 16777216) : PCall Tryz.prog 126 [.nils, .int .i64 n] (.own 4 []) := by
 refine ⟨okFn_spec (by kernel_rfl), fun w F vs _ hF hvs => ?_⟩
 obtain ⟨v0, vs, rfl, h0, hvs⟩ := hvs.cons_inv
 obtain ⟨v1, vs, rfl, h1, hvs⟩ := hvs.cons_inv
 cases hvs.nil_inv
 cases h0
 cases h1
 obtain ⟨i, hi, hi2⟩ := Option.map_eq_some_iff.1 (show (Tryz.prog.info? 67).map (fun i => (i.zero, i.size, i.bytes)) = some (some (.agg #[.int .i64 0, .int .i64 0, .int .i64 0, .int .i64 0]), 4, 32) by kernel_rfl)
 simp only [Prod.mk.injEq] at hi2
 obtain ⟨hz, hs, hb⟩ := hi2
 rcases Nat.eq_zero_or_pos n with rfl | hpos
 ·go_enter Tryz.func126, Tryz.ntmps126
  go_wp2
  go_ret
  refine ⟨_, F, rfl, Below.refl _ _, fun _ h => h, fun _ h => .inl h, hF, ?_⟩
  exact ⟨⟨0, 0, 0, 0, 0, 4, true, false⟩, ⟨rfl, rfl, rfl, by simp, .inl ⟨rfl, rfl⟩⟩, .inl ⟨rfl, rfl, rfl, rfl⟩, fun h => nomatch h⟩
 ·have hrun := app_zeros w 70 .i64 Tryz.underlying70 Tryz.underlying3 hi hz n hpos hn (by omega) (by rw [hb]; omega)
  generalize hcap : grownCap w n 0 67 = cap at hrun
  have hge : n ≤ cap := by rw [← hcap]; exact grownCap_ge' _ _ _ _
  have hw1 : IntKind.i64.wrap ((n : Int) - IntKind.i64.wrap (0 - 0)) = (n : Int) := by rw [show IntKind.i64.wrap (0 - 0) = 0 by decide, wrapI (by omega) (by omega)]; omega
  have hn1 : ¬ ((n : Int) < 0) := by omega
  have hn2 : (0 : Int) < (n : Int) := by omega
  go_enter Tryz.func126, Tryz.ntmps126
  go_wp2_with (at_builtin; refine wpl_append rfl _ _ _ _ rfl rfl rfl hrun ?_)
  go_ret
  refine ⟨_, rfl, (below_drew_alloc : Below w.heap.size w (w.drew.alloc _)), F, fun _ h => h, fun _ h => .inl h, fun b hb => Nat.lt_trans (hF b hb) (lt_of_cells (drew_alloc_heap w _)), ?_⟩
  exact ⟨⟨w.heap.size, 0, 0, cap, 0, 4, false, false⟩, ⟨rfl, rfl, rfl, by simp, .inr ⟨rfl, Nat.le_refl _, Nat.zero_le _, _, _, _, [], drew_alloc_heap w _, free00 _, by
    show 0 + (cap - 0) * 4 ≤ _
    have : (#[Value.int IntKind.i64 0, Value.int IntKind.i64 0, Value.int IntKind.i64 0, Value.int IntKind.i64 0] : Array Value).size = 4 := rfl
    rw [Array.size_append, size_zeroCells, size_zeroCells, this]; omega, RL.nil, by simp, by simp⟩⟩, .inr ⟨rfl, Nat.le_refl _, _, rfl, fun _ => rfl⟩,
   fun _ => ⟨Nat.le_refl _, lt_of_cells (drew_alloc_heap w _), fun h => absurd (hF _ h) (Nat.lt_irrefl _)⟩⟩
open Go.RowKit
def partR (e : Xt) (f t : Int) : PV := match partS e f t with
 | none => .tup [pE ⟨0, 0, 0, 0⟩, .bool false]
 | some p => .tup [pE p, .bool true]
theorem part_spec (e : Xt) (f t : Int) (he : OneP e) : PCall Tryz.prog 127 [pE e, .int .i64 f, .int .i64 t] (partR e f t) := by
 refine pcall_go Tryz.func127 E127.h ?_
 simp only [U127, rowE, seval, bA]
 refine callI (end_spec e he) ?_
 obtain ⟨h1, h2, h3, h4, h5⟩ := he
 have ee : endE e = e.fr + e.n := rfl
 by_cases h : min (endE e) t ≤ max e.fr f
 ·have d1 := decide_eq_true h
  simp only [U127, rowE, d1, seval, bA]
  simp [partR, partS, h, rowE]
 ·have d1 := decide_eq_false h
  have e1 : IntKind.i64.wrap (min (endE e) t - max e.fr f) = min (endE e) t - max e.fr f := wrapI (by omega) (by omega)
  by_cases hk : e.kd = 2
  ·have d2 : (e.kd == 2) = true := beq_iff_eq.2 hk
   have e2 : IntKind.i64.wrap (e.at_ + max e.fr f) = e.at_ + max e.fr f := wrapI (by omega) (by omega)
   have e3 : IntKind.i64.wrap (e.at_ + max e.fr f - e.fr) = e.at_ + max e.fr f - e.fr := wrapI (by omega) (by omega)
   simp only [U127, rowE, d1, d2, e1, e2, e3, seval, bA]
   simp [partR, partS, h, rowE, hk]
  ·have d2 : (e.kd == 2) = false := beq_eq_false_iff_ne.2 hk
   simp only [U127, rowE, d1, d2, e1, seval, bA]
   simp [partR, partS, h, rowE, hk]
theorem parts_take (l : List Xt) (f t : Int) (i : Nat) (h : i < l.length) : partsS (l.take (i + 1)) f t = partsS (l.take i) f t ++ (partS l[i] f t).toList := by
 rw [List.take_succ_eq_append_getElem h, partsS, List.filterMap_append]; cases hp : partS l[i] f t <;> simp [partsS, hp]
theorem parts_len (l : List Xt) (f t : Int) : (partsS l f t).length ≤ l.length := List.length_filterMap_le _ _
theorem parts_spec (l : List Xt) (f t : Int) (hl : ∀ e ∈ l, OneP e) (hm : l.length ≤ 16777216) : PCall Tryz.prog 92 [.slc (l.map rowE), .int .i64 f, .int .i64 t] (.own 4 ((partsS l f t).map rowE)) := by
 refine pcall_go Tryz.func92 E92.h ?_
 simp only [U92, seval, bA]
 refine loopF (fun i : Nat => ⟨ofL [(1, .int .i64 f), (2, .int .i64 t), (7, .osl 0 0 (partsS (l.take i) f t).length), (12, .slc (l.map rowE)), (13, .int .i64 l.length), (14, .int .i64 i)], [.list 4 ((partsS (l.take i) f t).map rowE)]⟩) (fun i => i ≤ l.length) (fun i => l.length - i) 0 ?_ (Nat.zero_le _) ?_
 ·simp only [U92, seval, bA]
  all_goals rfl
 ·intro i hi
  by_cases h : i < l.length
  ·have d : decide ((i : Int) < (l.length : Int)) = true := by simpa using h
   have e1 : IntKind.i64.wrap ((i : Int) + 1) = ((i + 1 : Nat) : Int) := by rw [wrapI (by omega) (by omega)]; omega
   have ht := parts_take l f t i h
   have hlen := parts_len (l.take i) f t
   have hti : (l.take i).length = i := by simp; omega
   simp only [U92, d, islV_map (g := rowE) h (rowE_len _), rowE, seval, bA]
   refine callI (part_spec l[i] f t (hl _ (List.getElem_mem h))) ?_
   cases hp : partS l[i] f t with
   | none =>
    rw [hp, Option.toList_none, List.append_nil] at ht
    have hr : partR l[i] f t = .tup [pE ⟨0, 0, 0, 0⟩, .bool false] := by simp [partR, hp]
    rw [hr]
    simp only [U92, e1, rowE, seval, bA]
    refine ⟨i + 1, ?_, h, by omega⟩
    rw [ht]
   | some p =>
    rw [hp] at ht
    have hr : partR l[i] f t = .tup [pE p, .bool true] := by simp [partR, hp]
    rw [hr]
    have ha : appO [AObj.list 4 ((partsS (l.take i) f t).map rowE), AObj.box (rowE l[i]), AObj.box (rowE p)] [] none 4 (.osl 0 0 (partsS (l.take i) f t).length) (some [[.int .i64 p.fr, .int .i64 p.n, .int .i64 p.kd, .int .i64 p.at_]]) = some (.osl 0 0 ((partsS (l.take i) f t).length + 1), [AObj.list 4 ((partsS (l.take (i + 1)) f t).map rowE), AObj.box (rowE l[i]), AObj.box (rowE p)]) := by
     have := app_map (ob := [AObj.list 4 ((partsS (l.take i) f t).map rowE), AObj.box (rowE l[i]), AObj.box (rowE p)]) (fb := []) (nw := none) (o := 0) (e := 4) (g := rowE) (l := partsS (l.take i) f t) (m := [p]) rfl rfl rfl (by omega) (by simp) rowE_len
     rw [ht]
     exact this
    simp only [rowE] at ha
    simp only [U92, ha, e1, rowE, seval, bA]
    refine ⟨i + 1, ?_, h, by omega⟩
    rw [ht]; simp [rowE]
  ·have d : decide ((i : Int) < (l.length : Int)) = false := by simpa using h
   have : i = l.length := by omega
   subst this
   simp only [U92, d, List.take_length, retO_list (e := 4) (rows := (partsS l f t).map rowE) (n := (partsS l f t).length) (by simp), seval, bA]
end Go.Proofs.YtdgpiobmncohjaaGreatDoor.Aw
