/-
 slices.Insert of one, at both kinds of slices.; slices.Clone, Grow and Concat, at both kinds of slices.
-/
import Derived.Test.YtdgpiobmncohjaaGreatDoorKaq
set_option linter.all false
namespace Go.Proofs.YtdgpiobmncohjaaGreatDoor.Aw.Ar
open Go.RowKit
theorem ovlE {ob : List AObj} {o off n c q offq m cq : Nat} {csq cso : List PV} (hne : q ≠ o) (hq : ob[q]? = some (.box csq)) (ho : ob[o]? = some (.box cso)) (hcso : cso ≠ []) (hcq : 0 < cq) (hc : 0 < c) : ECall Tryz.prog 182 [.asl q offq m cq, .asl o off n c] ob fun r ob' => r = .bool false ∧ ob' = ob := by
 refine ⟨⟨_, _, rfl, rfl⟩, fun cx w F l vs R hv => ?_⟩
 obtain ⟨v1, vs, rfl, h1, hv⟩ := hv.cons_inv
 obtain ⟨v2, vs, rfl, h2, hv⟩ := hv.cons_inv
 obtain rfl := hv.nil_inv
 obtain ⟨L1, a1, g1, g2, g3, g4, rfl⟩ := h1.asl_inv
 obtain ⟨L2, a2, k1, k2, k3, k4, rfl⟩ := h2.asl_inv
 refine ⟨.bool false, .bool false, ob, w, F, l, ?_, R, Mono.refl _ _ _, .bool _, rfl, rfl⟩
 rw [run_callFunc_extern Tryz.func182 (by kernel_rfl) (by kernel_rfl) (by kernel_rfl) (e := Extern.SlicesOverlaps.overlaps #[70, 70] #[4]) (by kernel_rfl)]
 have hrun : (Extern.SlicesOverlaps.overlaps #[70, 70] #[4] [Value.slice (some a1) m cq, Value.slice (some a2) n c].toArray).run Tryz.prog w = .ok (.bool false) w := by
  have e1 := g4 hcq
  have e2 := k4 hc
  subst e1; subst e2
  rcases R.objs q _ hq with f1 | ⟨L', f1, f2⟩
  ·simp at f1
  rw [g1] at f1; cases f1
  rcases R.objs o _ ho with f3 | ⟨L'', f3, f4⟩
  ·simp at f3
  rw [k1] at f3; cases f3
  obtain ⟨_, n1, cv1, t1, p1, q1, _⟩ := f2
  obtain ⟨_, n2, cv2, t2, p2, q2, _⟩ := f4
  have hblk : L1.blk ≠ L2.blk := fun e => hne (R.inj q o L1 L2 g1 k1 n1 n2 e)
  exact ovl_apart (e := 67) (by kernel_rfl) (by kernel_rfl) hblk p1 p2 (by
   have := q2.1
   intro e
   exact hcso (List.eq_nil_of_length_eq_zero (by omega)))
 rw [hrun]; rfl
theorem insE {ob : List AObj} {o off n c q offq cq i : Nat} {xs row : List PV} (hA : Arr ob 4 o off n c xs) (hq : Arr ob 4 q offq 1 cq row) (hne : q ≠ o) (hi : i ≤ n) (hn : n < 16777216) (hc : c ≤ 9223372036854775807) :
  ICall Tryz.prog 164 [.asl o off n c, .int .i64 (i : Int), .asl q offq 1 cq] ob (ArrR ob 4 o (n + 1) (xs.take (i * 4) ++ (row ++ xs.drop (i * 4)))) := by
 refine icall_dr Tryz.func164 E164.h ?_
 obtain ⟨cs, hcs, hnc, hl, hx⟩ := hA
 have hA : Arr ob 4 o off n c xs := ⟨cs, hcs, hnc, hl, hx⟩
 have hxl := hA.len
 have hrl := hq.len
 have hm1 : i * 4 ≤ n * 4 := mul_le hi
 have hm2 : n * 4 ≤ c * 4 := mul_le hnc
 have s1 : aslB 4 o off n c (some (i : Int)) (some (n : Int)) (some (c : Int)) = some (.asl o (off + i * 4) (n - i) (c - i)) := aslB_n (by omega)
 have w1 : IntKind.i64.wrap ((n : Int) + 1) = ((n + 1 : Nat) : Int) := by rw [wrapI (by omega) (by omega)]; omega
 have w2 : IntKind.i64.wrap ((i : Int) + 1) = ((i + 1 : Nat) : Int) := by rw [wrapI (by omega) (by omega)]; omega
 by_cases hin : i = n
 ·subst hin
  have d1 : ((i : Int) == (i : Int)) = true := by simp
  simp only [U164, s1, d1, seval, bA]
  refine MS_app (m := 1) rfl (by omega) hq.src (fun hroom => ⟨cs, hcs, by have := mul_le (e := 4) hroom; omega, ?_⟩) fun hroom => ⟨xs, hA.src, by omega, by omega, fun c' hc1 hc2 => ?_⟩
  ·simp only [U164, seval, bA]
   refine ⟨_, rfl, o, off, c, rfl, ⟨_, List.getElem?_set_self (List.getElem?_eq_some_iff.1 hcs).1, hroom, by rw [setAt_len (by have := mul_le (e := 4) hroom; omega)]; exact hl, ?_⟩, .inl rfl, Same.set rfl, hc⟩
   rw [show (i + 1) * 4 = i * 4 + row.length by omega, cells_behind (by have := mul_le (e := 4) hroom; omega), hx, List.take_of_length_le (by omega), List.drop_eq_nil_of_le (by omega), List.append_nil]
  ·simp only [U164, seval, bA]
   refine ⟨_, rfl, ob.length, 0, c', rfl, ⟨_, by rw [List.getElem?_append_right (Nat.le_refl _), Nat.sub_self]; rfl, hc1, ?_, ?_⟩, .inr (Nat.le_refl _), Same.app _ _ _, hc2⟩
   ·have := mul_le (e := 4) hc1
    rw [List.length_append, List.length_append, flat_rep, Nat.sub_mul]
    simp only [List.length_cons, List.length_nil]; omega
   ·rw [List.drop_zero, ← List.append_assoc, List.take_left' (by rw [List.length_append]; omega), List.take_of_length_le (by omega), List.drop_eq_nil_of_le (by omega), List.append_nil]
 ·have d1 : ((i : Int) == (n : Int)) = false := by simpa using (by omega : ¬ (i : Int) = (n : Int))
  have hYl : (xs.drop (i * 4)).length = n * 4 - i * 4 := by rw [List.length_drop, hxl]
  by_cases hroom : c < n + 1
  ·have d2 : decide ((c : Int) < ((n + 1 : Nat) : Int)) = true := decide_eq_true (by omega)
   have w3 : IntKind.i64.wrap (((n + 1 : Nat) : Int) - (i : Int)) = ((n + 1 - i : Nat) : Int) := by rw [wrapI (by omega) (by omega)]; omega
   have s2 : aslB 4 o off n c (some 0) (some (i : Int)) (some (c : Int)) = some (.asl o off i c) := aslB_z (by omega)
   simp only [U164, s1, d1, w1, d2, w3, s2, seval, bA]
   have hsrc : arrSrc ob 4 (.asl o off i c) = some (xs.take (i * 4)) := by
    rw [arrSrc_asl hcs (by omega), ← hx, List.take_take, Nat.min_eq_left hm1]
   refine MS_apz rfl (by omega) (by omega) hsrc ⟨by omega, by omega, fun c' hc1 hc2 => ?_⟩
   rw [show i + (n + 1 - i) = n + 1 by omega] at *
   have s3 : aslB 4 ob.length 0 (n + 1) c' (some (i : Int)) (some ((n + 1 : Nat) : Int)) (some (c' : Int)) = some (.asl ob.length (0 + i * 4) (n + 1 - i) (c' - i)) := aslB_n (by omega)
   have s4 : aslB 4 ob.length 0 (n + 1) c' (some ((i + 1 : Nat) : Int)) (some ((n + 1 : Nat) : Int)) (some (c' : Int)) = some (.asl ob.length (0 + (i + 1) * 4) (n + 1 - (i + 1)) (c' - (i + 1))) := aslB_n (by omega)
   have hXl : (xs.take (i * 4)).length = i * 4 := by rw [List.length_take, hxl]; omega
   obtain ⟨cs0, hcs0⟩ : ∃ cs0, cs0 = xs.take (i * 4) ++ ((List.replicate (n + 1 - i) [.int .i64 0, .int .i64 0, .int .i64 0, .int .i64 0]).flatten ++ (List.replicate (c' - (n + 1)) [.int .i64 0, .int .i64 0, .int .i64 0, .int .i64 0]).flatten) := ⟨_, rfl⟩
   have hX0 : cs0.take (i * 4) = xs.take (i * 4) := by rw [hcs0, List.take_left' hXl]
   have hl0 : cs0.length = c' * 4 := by
    rw [hcs0, List.length_append, List.length_append, flat_rep, flat_rep, hXl]
    simp only [List.length_cons, List.length_nil]
    rw [← Nat.add_mul, ← Nat.add_mul]; congr 1; omega
   have hm3 : (n + 1) * 4 ≤ c' * 4 := mul_le hc1
   rw [← hcs0]
   have hg0 : (ob ++ [AObj.box cs0])[ob.length]? = some (.box cs0) := by rw [List.getElem?_append_right (Nat.le_refl _), Nat.sub_self]; rfl
   have hS : Same ob (ob ++ [AObj.box cs0]) (· = ob.length) := Same.app _ _ _
   generalize hob1 : ob ++ [AObj.box cs0] = ob1 at *
   simp only [U164, s1, d1, w1, d2, w3, s2, w2, s3, s4, seval, bA]
   have hlto : o ≠ ob.length := Nat.ne_of_lt hA.lt
   have hltq : q ≠ ob.length := Nat.ne_of_lt hq.lt
   have hq1 := (hS.arr hq hltq).src
   have hrt : row.take (1 * 4) = row := List.take_of_length_le (by omega)
   refine MS_cpy (k := 1) rfl (by simp only [arrLen]; omega) (by omega) hq1 hg0 (by rw [hrt, hl0]; omega) ?_
   rw [hrt]; (try rw [Nat.zero_add])
   have hg1 : (ob1.set ob.length (.box (setAt cs0 (i * 4) row)))[ob.length]? = some (.box (setAt cs0 (i * 4) row)) := List.getElem?_set_self (List.getElem?_eq_some_iff.1 hg0).1
   have hS1 : Same ob (ob1.set ob.length (.box (setAt cs0 (i * 4) row))) (· = ob.length) := hS.trans (Same.set rfl)
   generalize hob2 : ob1.set ob.length (.box (setAt cs0 (i * 4) row)) = ob2 at *
   simp only [U164, s1, d1, w1, d2, w3, s2, w2, s3, s4, seval, bA]
   have hcs2 : ob2[o]? = some (.box cs) := hS1.get hcs hlto
   have hsrc2 : arrSrc ob2 4 (.asl o (off + i * 4) (n - i) (c - i)) = some (xs.drop (i * 4)) := by
    rw [arrSrc_asl hcs2 (by rw [Nat.sub_mul]; omega), ← hx, ← List.drop_drop, List.drop_take, Nat.sub_mul]
   have hyt : (xs.drop (i * 4)).take ((n - i) * 4) = xs.drop (i * 4) := List.take_of_length_le (by rw [hYl, Nat.sub_mul]; omega)
   refine MS_cpy (k := n - i) rfl (by simp only [arrLen]; omega) (by omega) hsrc2 hg1 (by rw [hyt, hYl, setAt_len (by rw [hl0]; omega), hl0]; omega) ?_
   rw [hyt]
   simp only [U164, s1, d1, w1, d2, w3, s2, w2, s3, s4, seval, bA]
   refine ⟨_, rfl, ob.length, 0, c', rfl, ⟨_, List.getElem?_set_self (List.getElem?_eq_some_iff.1 hg1).1, hc1, by rw [setAt_len (by rw [setAt_len (by rw [hl0]; omega), hl0, hYl]; omega), setAt_len (by rw [hl0]; omega), hl0]; omega, ?_⟩, .inr (Nat.le_refl _), hS1.trans (Same.set rfl), hc2⟩
   (try rw [Nat.zero_add]); rw [show (i + 1) * 4 = i * 4 + 4 by omega, show (n + 1) * 4 = n * 4 + 4 by omega]
   exact cells_fresh hX0 (by omega) hm1 hYl (by rw [hl0]; omega)
  ·have d2 : decide ((c : Int) < ((n + 1 : Nat) : Int)) = false := decide_eq_false (by omega)
   have hm3 : (n + 1) * 4 ≤ c * 4 := mul_le (by omega)
   have s2 : aslB 4 o off n c (some 0) (some ((n + 1 : Nat) : Int)) (some (c : Int)) = some (.asl o off (n + 1) c) := aslB_z (by omega)
   have s3 : aslB 4 o off (n + 1) c (some (i : Int)) (some ((n + 1 : Nat) : Int)) (some (c : Int)) = some (.asl o (off + i * 4) (n + 1 - i) (c - i)) := aslB_n (by omega)
   have s4 : aslB 4 o off (n + 1) c (some ((i + 1 : Nat) : Int)) (some ((n + 1 : Nat) : Int)) (some (c : Int)) = some (.asl o (off + (i + 1) * 4) (n + 1 - (i + 1)) (c - (i + 1))) := aslB_n (by omega)
   simp only [U164, s1, d1, w1, d2, s2, w2, s3, s4, seval, bA]
   obtain ⟨rcs, hrcs, _, _, _⟩ := id hq
   refine ECall_mono ?_ (ovlE hne hrcs hcs (by intro e; rw [e] at hl; simp at hl; omega) (by obtain ⟨_, _, h, _⟩ := hq; omega) (by omega))
   rintro r ob' ⟨rfl, rfl⟩
   simp only [U164, s1, d1, w1, d2, s2, w2, s3, s4, seval, bA]
   have hsrc : arrSrc ob' 4 (.asl o (off + i * 4) (n + 1 - i) (c - i)) = some ((cs.drop (off + i * 4)).take ((n + 1 - i) * 4)) := arrSrc_asl hcs (by rw [Nat.sub_mul]; omega)
   have hyt : ((cs.drop (off + i * 4)).take ((n + 1 - i) * 4)).take ((n - i) * 4) = xs.drop (i * 4) := by
    rw [List.take_take, Nat.min_eq_left (mul_le (by omega)), ← hx, List.drop_take, List.drop_drop, Nat.sub_mul]
   refine MS_cpy (k := n - i) rfl (by simp only [arrLen]; omega) (by omega) hsrc hcs (by rw [hyt, hYl]; omega) ?_
   rw [hyt]
   have hg1 : (ob'.set o (.box (setAt cs (off + (i + 1) * 4) (xs.drop (i * 4)))))[o]? = some (.box (setAt cs (off + (i + 1) * 4) (xs.drop (i * 4)))) := List.getElem?_set_self (List.getElem?_eq_some_iff.1 hcs).1
   have hS1 : Same ob' (ob'.set o (.box (setAt cs (off + (i + 1) * 4) (xs.drop (i * 4))))) (· = o) := Same.set rfl
   generalize hob2 : ob'.set o (.box (setAt cs (off + (i + 1) * 4) (xs.drop (i * 4)))) = ob2 at *
   simp only [U164, s1, d1, w1, d2, s2, w2, s3, s4, seval, bA]
   have hrt : row.take (1 * 4) = row := List.take_of_length_le (by omega)
   refine MS_cpy (k := 1) rfl (by simp only [arrLen]; omega) (by omega) (hS1.arr hq hne).src hg1 (by rw [hrt, setAt_len (by rw [hYl]; omega)]; omega) ?_
   rw [hrt]
   simp only [U164, s1, d1, w1, d2, s2, w2, s3, s4, seval, bA]
   refine ⟨_, rfl, o, off, c, rfl, ⟨_, List.getElem?_set_self (List.getElem?_eq_some_iff.1 hg1).1, by omega, by rw [setAt_len (by rw [setAt_len (by rw [hYl]; omega)]; omega), setAt_len (by rw [hYl]; omega)]; exact hl, ?_⟩, .inl rfl, hS1.trans (Same.set rfl), hc⟩
   have := cells_shift (cs := cs) (row := row) (off := off) (a := i * 4) (b := n * 4) (e := 4) (by omega) hm1 (by omega)
   rw [hx] at this
   rw [show off + (i + 1) * 4 = off + i * 4 + 4 by omega, show (n + 1) * 4 = n * 4 + 4 by omega]
   exact this
theorem ovlN {ob : List AObj} {o off n c q offq m cq : Nat} {csq cso : List PV} (hne : q ≠ o) (hq : ob[q]? = some (.box csq)) (ho : ob[o]? = some (.box cso)) (hcso : cso ≠ []) (hcq : 0 < cq) (hc : 0 < c) : ECall Tryz.prog 185 [.asl q offq m cq, .asl o off n c] ob fun r ob' => r = .bool false ∧ ob' = ob := by
 refine ⟨⟨_, _, rfl, rfl⟩, fun cx w F l vs R hv => ?_⟩
 obtain ⟨v1, vs, rfl, h1, hv⟩ := hv.cons_inv
 obtain ⟨v2, vs, rfl, h2, hv⟩ := hv.cons_inv
 obtain rfl := hv.nil_inv
 obtain ⟨L1, a1, g1, g2, g3, g4, rfl⟩ := h1.asl_inv
 obtain ⟨L2, a2, k1, k2, k3, k4, rfl⟩ := h2.asl_inv
 refine ⟨.bool false, .bool false, ob, w, F, l, ?_, R, Mono.refl _ _ _, .bool _, rfl, rfl⟩
 rw [run_callFunc_extern Tryz.func185 (by kernel_rfl) (by kernel_rfl) (by kernel_rfl) (e := Extern.SlicesOverlaps.overlaps #[127, 127] #[4]) (by kernel_rfl)]
 have hrun : (Extern.SlicesOverlaps.overlaps #[127, 127] #[4] [Value.slice (some a1) m cq, Value.slice (some a2) n c].toArray).run Tryz.prog w = .ok (.bool false) w := by
  have e1 := g4 hcq
  have e2 := k4 hc
  subst e1; subst e2
  rcases R.objs q _ hq with f1 | ⟨L', f1, f2⟩
  ·simp at f1
  rw [g1] at f1; cases f1
  rcases R.objs o _ ho with f3 | ⟨L'', f3, f4⟩
  ·simp at f3
  rw [k1] at f3; cases f3
  obtain ⟨_, n1, cv1, t1, p1, q1, _⟩ := f2
  obtain ⟨_, n2, cv2, t2, p2, q2, _⟩ := f4
  have hblk : L1.blk ≠ L2.blk := fun e => hne (R.inj q o L1 L2 g1 k1 n1 n2 e)
  exact ovl_apart (e := 116) (by kernel_rfl) (by kernel_rfl) hblk p1 p2 (by
   have := q2.1
   intro e
   exact hcso (List.eq_nil_of_length_eq_zero (by omega)))
 rw [hrun]; rfl
theorem insN {ob : List AObj} {o off n c q offq cq i : Nat} {xs row : List PV} (hA : Arr ob 1 o off n c xs) (hq : Arr ob 1 q offq 1 cq row) (hne : q ≠ o) (hi : i ≤ n) (hn : n < 16777216) (hc : c ≤ 9223372036854775807) :
  ICall Tryz.prog 166 [.asl o off n c, .int .i64 (i : Int), .asl q offq 1 cq] ob (ArrR ob 1 o (n + 1) (xs.take (i * 1) ++ (row ++ xs.drop (i * 1)))) := by
 refine icall_dr Tryz.func166 E166.h ?_
 obtain ⟨cs, hcs, hnc, hl, hx⟩ := hA
 have hA : Arr ob 1 o off n c xs := ⟨cs, hcs, hnc, hl, hx⟩
 have hxl := hA.len
 have hrl := hq.len
 have hm1 : i * 1 ≤ n * 1 := mul_le hi
 have hm2 : n * 1 ≤ c * 1 := mul_le hnc
 have s1 : aslB 1 o off n c (some (i : Int)) (some (n : Int)) (some (c : Int)) = some (.asl o (off + i * 1) (n - i) (c - i)) := aslB_n (by omega)
 have w1 : IntKind.i64.wrap ((n : Int) + 1) = ((n + 1 : Nat) : Int) := by rw [wrapI (by omega) (by omega)]; omega
 have w2 : IntKind.i64.wrap ((i : Int) + 1) = ((i + 1 : Nat) : Int) := by rw [wrapI (by omega) (by omega)]; omega
 by_cases hin : i = n
 ·subst hin
  have d1 : ((i : Int) == (i : Int)) = true := by simp
  simp only [U166, s1, d1, seval, bA]
  refine MS_app (m := 1) rfl (by omega) hq.src (fun hroom => ⟨cs, hcs, by have := mul_le (e := 1) hroom; omega, ?_⟩) fun hroom => ⟨xs, hA.src, by omega, by omega, fun c' hc1 hc2 => ?_⟩
  ·simp only [U166, seval, bA]
   refine ⟨_, rfl, o, off, c, rfl, ⟨_, List.getElem?_set_self (List.getElem?_eq_some_iff.1 hcs).1, hroom, by rw [setAt_len (by have := mul_le (e := 1) hroom; omega)]; exact hl, ?_⟩, .inl rfl, Same.set rfl, hc⟩
   rw [show (i + 1) * 1 = i * 1 + row.length by omega, cells_behind (by have := mul_le (e := 1) hroom; omega), hx, List.take_of_length_le (by omega), List.drop_eq_nil_of_le (by omega), List.append_nil]
  ·simp only [U166, seval, bA]
   refine ⟨_, rfl, ob.length, 0, c', rfl, ⟨_, by rw [List.getElem?_append_right (Nat.le_refl _), Nat.sub_self]; rfl, hc1, ?_, ?_⟩, .inr (Nat.le_refl _), Same.app _ _ _, hc2⟩
   ·have := mul_le (e := 1) hc1
    rw [List.length_append, List.length_append, flat_rep, Nat.sub_mul]
    simp only [List.length_cons, List.length_nil]; omega
   ·rw [List.drop_zero, ← List.append_assoc, List.take_left' (by rw [List.length_append]; omega), List.take_of_length_le (by omega), List.drop_eq_nil_of_le (by omega), List.append_nil]
 ·have d1 : ((i : Int) == (n : Int)) = false := by simpa using (by omega : ¬ (i : Int) = (n : Int))
  have hYl : (xs.drop (i * 1)).length = n * 1 - i * 1 := by rw [List.length_drop, hxl]
  by_cases hroom : c < n + 1
  ·have d2 : decide ((c : Int) < ((n + 1 : Nat) : Int)) = true := decide_eq_true (by omega)
   have w3 : IntKind.i64.wrap (((n + 1 : Nat) : Int) - (i : Int)) = ((n + 1 - i : Nat) : Int) := by rw [wrapI (by omega) (by omega)]; omega
   have s2 : aslB 1 o off n c (some 0) (some (i : Int)) (some (c : Int)) = some (.asl o off i c) := aslB_z (by omega)
   simp only [U166, s1, d1, w1, d2, w3, s2, seval, bA]
   have hsrc : arrSrc ob 1 (.asl o off i c) = some (xs.take (i * 1)) := by
    rw [arrSrc_asl hcs (by omega), ← hx, List.take_take, Nat.min_eq_left hm1]
   refine MS_apz rfl (by omega) (by omega) hsrc ⟨by omega, by omega, fun c' hc1 hc2 => ?_⟩
   rw [show i + (n + 1 - i) = n + 1 by omega] at *
   have s3 : aslB 1 ob.length 0 (n + 1) c' (some (i : Int)) (some ((n + 1 : Nat) : Int)) (some (c' : Int)) = some (.asl ob.length (0 + i * 1) (n + 1 - i) (c' - i)) := aslB_n (by omega)
   have s4 : aslB 1 ob.length 0 (n + 1) c' (some ((i + 1 : Nat) : Int)) (some ((n + 1 : Nat) : Int)) (some (c' : Int)) = some (.asl ob.length (0 + (i + 1) * 1) (n + 1 - (i + 1)) (c' - (i + 1))) := aslB_n (by omega)
   have hXl : (xs.take (i * 1)).length = i * 1 := by rw [List.length_take, hxl]; omega
   obtain ⟨cs0, hcs0⟩ : ∃ cs0, cs0 = xs.take (i * 1) ++ ((List.replicate (n + 1 - i) [.nili]).flatten ++ (List.replicate (c' - (n + 1)) [.nili]).flatten) := ⟨_, rfl⟩
   have hX0 : cs0.take (i * 1) = xs.take (i * 1) := by rw [hcs0, List.take_left' hXl]
   have hl0 : cs0.length = c' * 1 := by
    rw [hcs0, List.length_append, List.length_append, flat_rep, flat_rep, hXl]
    simp only [List.length_cons, List.length_nil]
    rw [← Nat.add_mul, ← Nat.add_mul]; congr 1; omega
   have hm3 : (n + 1) * 1 ≤ c' * 1 := mul_le hc1
   rw [← hcs0]
   have hg0 : (ob ++ [AObj.box cs0])[ob.length]? = some (.box cs0) := by rw [List.getElem?_append_right (Nat.le_refl _), Nat.sub_self]; rfl
   have hS : Same ob (ob ++ [AObj.box cs0]) (· = ob.length) := Same.app _ _ _
   generalize hob1 : ob ++ [AObj.box cs0] = ob1 at *
   simp only [U166, s1, d1, w1, d2, w3, s2, w2, s3, s4, seval, bA]
   have hlto : o ≠ ob.length := Nat.ne_of_lt hA.lt
   have hltq : q ≠ ob.length := Nat.ne_of_lt hq.lt
   have hq1 := (hS.arr hq hltq).src
   have hrt : row.take (1 * 1) = row := List.take_of_length_le (by omega)
   refine MS_cpy (k := 1) rfl (by simp only [arrLen]; omega) (by omega) hq1 hg0 (by rw [hrt, hl0]; omega) ?_
   rw [hrt]; (try rw [Nat.zero_add])
   have hg1 : (ob1.set ob.length (.box (setAt cs0 (i * 1) row)))[ob.length]? = some (.box (setAt cs0 (i * 1) row)) := List.getElem?_set_self (List.getElem?_eq_some_iff.1 hg0).1
   have hS1 : Same ob (ob1.set ob.length (.box (setAt cs0 (i * 1) row))) (· = ob.length) := hS.trans (Same.set rfl)
   generalize hob2 : ob1.set ob.length (.box (setAt cs0 (i * 1) row)) = ob2 at *
   simp only [U166, s1, d1, w1, d2, w3, s2, w2, s3, s4, seval, bA]
   have hcs2 : ob2[o]? = some (.box cs) := hS1.get hcs hlto
   have hsrc2 : arrSrc ob2 1 (.asl o (off + i * 1) (n - i) (c - i)) = some (xs.drop (i * 1)) := by
    rw [arrSrc_asl hcs2 (by rw [Nat.sub_mul]; omega), ← hx, ← List.drop_drop, List.drop_take, Nat.sub_mul]
   have hyt : (xs.drop (i * 1)).take ((n - i) * 1) = xs.drop (i * 1) := List.take_of_length_le (by rw [hYl, Nat.sub_mul]; omega)
   refine MS_cpy (k := n - i) rfl (by simp only [arrLen]; omega) (by omega) hsrc2 hg1 (by rw [hyt, hYl, setAt_len (by rw [hl0]; omega), hl0]; omega) ?_
   rw [hyt]
   simp only [U166, s1, d1, w1, d2, w3, s2, w2, s3, s4, seval, bA]
   refine ⟨_, rfl, ob.length, 0, c', rfl, ⟨_, List.getElem?_set_self (List.getElem?_eq_some_iff.1 hg1).1, hc1, by rw [setAt_len (by rw [setAt_len (by rw [hl0]; omega), hl0, hYl]; omega), setAt_len (by rw [hl0]; omega), hl0]; omega, ?_⟩, .inr (Nat.le_refl _), hS1.trans (Same.set rfl), hc2⟩
   (try rw [Nat.zero_add]); rw [show (i + 1) * 1 = i * 1 + 1 by omega, show (n + 1) * 1 = n * 1 + 1 by omega]
   exact cells_fresh hX0 (by omega) hm1 hYl (by rw [hl0]; omega)
  ·have d2 : decide ((c : Int) < ((n + 1 : Nat) : Int)) = false := decide_eq_false (by omega)
   have hm3 : (n + 1) * 1 ≤ c * 1 := mul_le (by omega)
   have s2 : aslB 1 o off n c (some 0) (some ((n + 1 : Nat) : Int)) (some (c : Int)) = some (.asl o off (n + 1) c) := aslB_z (by omega)
   have s3 : aslB 1 o off (n + 1) c (some (i : Int)) (some ((n + 1 : Nat) : Int)) (some (c : Int)) = some (.asl o (off + i * 1) (n + 1 - i) (c - i)) := aslB_n (by omega)
   have s4 : aslB 1 o off (n + 1) c (some ((i + 1 : Nat) : Int)) (some ((n + 1 : Nat) : Int)) (some (c : Int)) = some (.asl o (off + (i + 1) * 1) (n + 1 - (i + 1)) (c - (i + 1))) := aslB_n (by omega)
   simp only [U166, s1, d1, w1, d2, s2, w2, s3, s4, seval, bA]
   obtain ⟨rcs, hrcs, _, _, _⟩ := id hq
   refine ECall_mono ?_ (ovlN hne hrcs hcs (by intro e; rw [e] at hl; simp at hl; omega) (by obtain ⟨_, _, h, _⟩ := hq; omega) (by omega))
   rintro r ob' ⟨rfl, rfl⟩
   simp only [U166, s1, d1, w1, d2, s2, w2, s3, s4, seval, bA]
   have hsrc : arrSrc ob' 1 (.asl o (off + i * 1) (n + 1 - i) (c - i)) = some ((cs.drop (off + i * 1)).take ((n + 1 - i) * 1)) := arrSrc_asl hcs (by rw [Nat.sub_mul]; omega)
   have hyt : ((cs.drop (off + i * 1)).take ((n + 1 - i) * 1)).take ((n - i) * 1) = xs.drop (i * 1) := by
    rw [List.take_take, Nat.min_eq_left (mul_le (by omega)), ← hx, List.drop_take, List.drop_drop, Nat.sub_mul]
   refine MS_cpy (k := n - i) rfl (by simp only [arrLen]; omega) (by omega) hsrc hcs (by rw [hyt, hYl]; omega) ?_
   rw [hyt]
   have hg1 : (ob'.set o (.box (setAt cs (off + (i + 1) * 1) (xs.drop (i * 1)))))[o]? = some (.box (setAt cs (off + (i + 1) * 1) (xs.drop (i * 1)))) := List.getElem?_set_self (List.getElem?_eq_some_iff.1 hcs).1
   have hS1 : Same ob' (ob'.set o (.box (setAt cs (off + (i + 1) * 1) (xs.drop (i * 1))))) (· = o) := Same.set rfl
   generalize hob2 : ob'.set o (.box (setAt cs (off + (i + 1) * 1) (xs.drop (i * 1)))) = ob2 at *
   simp only [U166, s1, d1, w1, d2, s2, w2, s3, s4, seval, bA]
   have hrt : row.take (1 * 1) = row := List.take_of_length_le (by omega)
   refine MS_cpy (k := 1) rfl (by simp only [arrLen]; omega) (by omega) (hS1.arr hq hne).src hg1 (by rw [hrt, setAt_len (by rw [hYl]; omega)]; omega) ?_
   rw [hrt]
   simp only [U166, s1, d1, w1, d2, s2, w2, s3, s4, seval, bA]
   refine ⟨_, rfl, o, off, c, rfl, ⟨_, List.getElem?_set_self (List.getElem?_eq_some_iff.1 hg1).1, by omega, by rw [setAt_len (by rw [setAt_len (by rw [hYl]; omega)]; omega), setAt_len (by rw [hYl]; omega)]; exact hl, ?_⟩, .inl rfl, hS1.trans (Same.set rfl), hc⟩
   have := cells_shift (cs := cs) (row := row) (off := off) (a := i * 1) (b := n * 1) (e := 1) (by omega) hm1 (by omega)
   rw [hx] at this
   rw [show off + (i + 1) * 1 = off + i * 1 + 1 by omega, show (n + 1) * 1 = n * 1 + 1 by omega]
   exact this
open Go.RowKit
theorem cloneE {ob : List AObj} {o off n c : Nat} {xs : List PV} (hA : Arr ob 4 o off n c xs) (hn : n ≤ 16777216) :
  ICall Tryz.prog 184 [.asl o off n c] ob fun r ob' => ∃ q c', r = .asl q 0 n c' ∧ Arr ob' 4 q 0 n c' xs ∧ ob.length ≤ q ∧ c' ≤ 9223372036854775807 ∧ Same ob ob' (fun _ => False) := by
 refine icall_dr Tryz.func184 E184.h ?_
 simp only [U184, List.replicate_zero, reduceIte, reduceCtorEq, Nat.reduceEqDiff, Nat.reduceAdd, Int.reduceLT, Int.reduceLE, Int.reduceNeg, Int.reduceEq, Nat.reduceLT, Nat.reduceSub, Nat.reduceMul, Nat.reduceBEq, Nat.reduceLeDiff, Int.reduceBEq, Int.reduceBNe, Int.reduceToNat, bA]
 have hS : Same ob (ob ++ [AObj.box []]) (fun _ => False) := Same.app _ _ _
 have hg : (ob ++ [AObj.box []])[ob.length]? = some (.box []) := by rw [List.getElem?_append_right (Nat.le_refl _), Nat.sub_self]; rfl
 have hl : (ob ++ [AObj.box []]).length = ob.length + 1 := by simp
 generalize ob ++ [AObj.box []] = ob1 at *
 have hA1 := hS.arr hA (fun h => h)
 have hxl := hA.len
 by_cases h0 : n = 0
 ·subst h0
  refine MS_app0 rfl hA1.src ?_
  simp only [U184, reduceIte, reduceCtorEq, Nat.reduceEqDiff, Nat.reduceAdd, Int.reduceLT, Int.reduceLE, Int.reduceNeg, Int.reduceEq, Nat.reduceLT, Nat.reduceSub, Nat.reduceMul, Nat.reduceBEq, Nat.reduceLeDiff, Int.reduceBEq, Int.reduceBNe, Int.reduceToNat, bA]
  refine ⟨_, rfl, ob.length, 0, rfl, ⟨[], hg, Nat.le_refl _, by simp, ?_⟩, Nat.le_refl _, by omega, hS⟩
  exact (List.eq_nil_of_length_eq_zero (by omega)).symm
 ·refine MS_app (m := n) rfl (by omega) hA1.src (fun h => by omega) fun _ => ⟨[], arrSrc_asl hg (by simp), by omega, by omega, fun c' h1 h2 => ?_⟩
  (try rw [Nat.zero_add]); (try rw [Nat.zero_add] at h1)
  simp only [U184, reduceIte, reduceCtorEq, Nat.reduceEqDiff, Nat.reduceAdd, Int.reduceLT, Int.reduceLE, Int.reduceNeg, Int.reduceEq, Nat.reduceLT, Nat.reduceSub, Nat.reduceMul, Nat.reduceBEq, Nat.reduceLeDiff, Int.reduceBEq, Int.reduceBNe, Int.reduceToNat, bA]
  refine ⟨_, rfl, ob1.length, c', by simp, ⟨_, by rw [List.getElem?_append_right (Nat.le_refl _), Nat.sub_self]; rfl, by omega, ?_, ?_⟩, by omega, h2, hS.trans (Same.app _ _ _)⟩
  ·have := mul_le (e := 4) (show n ≤ c' by omega)
   simp only [List.nil_append, List.length_append, flat_rep, Nat.sub_mul, List.length_cons, List.length_nil]; omega
  ·(try simp only [List.drop_zero, List.nil_append]); rw [List.take_left' (by omega)]
theorem growE {ob : List AObj} {k : Nat} (h0 : 0 < k) (hk : k ≤ 16777216) :
  ICall Tryz.prog 126 [.nils, .int .i64 (k : Int)] ob fun r ob' => ∃ c' cs, r = .asl ob.length 0 0 c' ∧ ob' = ob ++ [.box cs] ∧ k ≤ c' ∧ c' ≤ 9223372036854775807 ∧ cs.length = c' * 4 := by
 refine icall_dr Tryz.func126 E126.h ?_
 have d1 : decide ((k : Int) < 0) = false := decide_eq_false (by omega)
 have d2 : decide (0 < (k : Int)) = true := decide_eq_true (by omega)
 have w1 : IntKind.i64.wrap ((0 : Int) - 0) = 0 := by decide
 have w2 : IntKind.i64.wrap ((k : Int) - 0) = (k : Int) := by rw [wrapI (by omega) (by omega)]; omega
 simp only [U126, d1, d2, w1, w2, reduceIte, reduceCtorEq, Nat.reduceEqDiff, Nat.reduceAdd, Int.reduceLT, Int.reduceLE, Int.reduceNeg, Int.reduceEq, Nat.reduceLT, Nat.reduceSub, Nat.reduceMul, Nat.reduceBEq, Nat.reduceLeDiff, Int.reduceBEq, Int.reduceBNe, Int.reduceToNat, bA]
 refine MS_apz0 rfl h0 ⟨h0, by omega, fun c' h1 h2 => ?_⟩
 (try rw [Nat.zero_add]); (try rw [Nat.zero_add] at h1)
 have s1 : aslB 4 ob.length 0 k c' (some 0) (some 0) (some (c' : Int)) = some (.asl ob.length 0 0 c') := aslB_z (h := 0) (by omega)
 simp only [U126, d1, d2, w1, w2, s1, reduceIte, reduceCtorEq, Nat.reduceEqDiff, Nat.reduceAdd, Int.reduceLT, Int.reduceLE, Int.reduceNeg, Int.reduceEq, Nat.reduceLT, Nat.reduceSub, Nat.reduceMul, Nat.reduceBEq, Nat.reduceLeDiff, Int.reduceBEq, Int.reduceBNe, Int.reduceToNat, bA]
 refine ⟨_, rfl, c', _, rfl, rfl, by omega, h2, ?_⟩
 simp only [List.nil_append, List.length_append, flat_rep, List.length_cons, List.length_nil, ← Nat.add_mul]
 congr 1; omega
theorem concatE {ob : List AObj} {s o1 off1 n1 c1 o2 off2 n2 c2 : Nat} {xs ys : List PV} (hs : ob[s]? = some (.box [.asl o1 off1 n1 c1, .asl o2 off2 n2 c2])) (hA : Arr ob 4 o1 off1 n1 c1 xs) (hB : Arr ob 4 o2 off2 n2 c2 ys) (h0 : 0 < n1 + n2) (hn : n1 + n2 ≤ 16777216) :
  ICall Tryz.prog 91 [.asl s 0 2 2] ob fun r ob' => ∃ q c', r = .asl q 0 (n1 + n2) c' ∧ Arr ob' 4 q 0 (n1 + n2) c' (xs ++ ys) ∧ ob.length ≤ q ∧ c' ≤ 9223372036854775807 ∧ Same ob ob' (fun _ => False) := by
 refine icall_dr Tryz.func91 E91.h ?_
 have w1 : IntKind.i64.wrap ((0 : Int) + (n1 : Int)) = (n1 : Int) := by rw [wrapI (by omega) (by omega)]; omega
 have w2 : IntKind.i64.wrap ((n1 : Int) + (n2 : Int)) = ((n1 + n2 : Nat) : Int) := by rw [wrapI (by omega) (by omega)]; omega
 have w3 : IntKind.i64.wrap ((0 : Int) + 1) = 1 := by decide
 have w4 : IntKind.i64.wrap ((1 : Int) + 1) = 2 := by decide
 have d1 : decide ((n1 : Int) < 0) = false := decide_eq_false (by omega)
 have d2 : decide (((n1 + n2 : Nat) : Int) < 0) = false := decide_eq_false (by omega)
 have e0 : ixV 1 s 0 2 0 = some (.ref s 0) := by simp [ixV]
 have e1 : ixV 1 s 0 2 1 = some (.ref s 1) := by simp [ixV]
 simp only [U91, reduceIte, reduceCtorEq, Nat.reduceEqDiff, Nat.reduceAdd, Int.reduceLT, Int.reduceLE, Int.reduceNeg, Int.reduceEq, Nat.reduceLT, Nat.reduceSub, Nat.reduceMul, Nat.reduceBEq, Nat.reduceLeDiff, Int.reduceBEq, Int.reduceBNe, Int.reduceToNat, bA]
 refine loopF (fun i : Nat => ⟨ofL [(0, .asl s 0 2 2), (3, .int .i64 ((if i = 0 then 0 else if i = 1 then n1 else n1 + n2 : Nat) : Int)), (9, .asl s 0 2 2), (10, .int .i64 2), (11, .int .i64 (i : Int))], ob⟩) (fun i => i ≤ 2) (fun i => 2 - i) 0 ?_ (Nat.zero_le _) ?_
 ·simp only [U91, if_true, reduceIte, reduceCtorEq, Nat.reduceEqDiff, Nat.reduceAdd, Int.reduceLT, Int.reduceLE, Int.reduceNeg, Int.reduceEq, Nat.reduceLT, Nat.reduceSub, Nat.reduceMul, Nat.reduceBEq, Nat.reduceLeDiff, Int.reduceBEq, Int.reduceBNe, Int.reduceToNat, bA]
 intro i hi
 obtain rfl | rfl | rfl : i = 0 ∨ i = 1 ∨ i = 2 := by omega
 ·simp only [if_true]
  simp only [U91, w1, w3, d1, e0, hs, reduceIte, reduceCtorEq, Nat.reduceEqDiff, Nat.reduceAdd, Int.reduceLT, Int.reduceLE, Int.reduceNeg, Int.reduceEq, Nat.reduceLT, Nat.reduceSub, Nat.reduceMul, Nat.reduceBEq, Nat.reduceLeDiff, Int.reduceBEq, Int.reduceBNe, Int.reduceToNat, bA]
  refine ⟨1, ?_, by omega, by omega⟩
  simp
 ·simp only [if_true, Nat.one_ne_zero, if_false]
  simp only [U91, w2, w4, d2, e1, hs, reduceIte, reduceCtorEq, Nat.reduceEqDiff, Nat.reduceAdd, Int.reduceLT, Int.reduceLE, Int.reduceNeg, Int.reduceEq, Nat.reduceLT, Nat.reduceSub, Nat.reduceMul, Nat.reduceBEq, Nat.reduceLeDiff, Int.reduceBEq, Int.reduceBNe, Int.reduceToNat, bA]
  refine ⟨2, ?_, by omega, by omega⟩
  simp
 ·simp only [show ¬ (2 : Nat) = 0 by omega, show ¬ (2 : Nat) = 1 by omega, if_false]
  simp only [U91, reduceIte, reduceCtorEq, Nat.reduceEqDiff, Nat.reduceAdd, Int.reduceLT, Int.reduceLE, Int.reduceNeg, Int.reduceEq, Nat.reduceLT, Nat.reduceSub, Nat.reduceMul, Nat.reduceBEq, Nat.reduceLeDiff, Int.reduceBEq, Int.reduceBNe, Int.reduceToNat, bA]
  refine callM (growE h0 hn) ?_
  rintro r ob1 ⟨c', cs, rfl, hob1, hc1, hc2, hcl⟩
  have hS : Same ob ob1 (fun _ => False) := by rw [hob1]; exact Same.app _ _ _
  have hg : ob1[ob.length]? = some (.box cs) := by rw [hob1, List.getElem?_append_right (Nat.le_refl _), Nat.sub_self]; rfl
  clear hob1
  simp only [U91, reduceIte, reduceCtorEq, Nat.reduceEqDiff, Nat.reduceAdd, Int.reduceLT, Int.reduceLE, Int.reduceNeg, Int.reduceEq, Nat.reduceLT, Nat.reduceSub, Nat.reduceMul, Nat.reduceBEq, Nat.reduceLeDiff, Int.reduceBEq, Int.reduceBNe, Int.reduceToNat, bA]
  have hs1 := hS.get hs (fun h => h)
  have hA1 := hS.arr hA (fun h => h)
  have hB1 := hS.arr hB (fun h => h)
  refine loopF (fun x : Nat × List AObj × Nat => ⟨ofL [(6, .asl ob.length 0 x.2.2 c'), (25, .asl s 0 2 2), (26, .int .i64 2), (27, .int .i64 (x.1 : Int))], x.2.1⟩)
   (fun x => (x.1 = 0 ∧ ob1 = x.2.1 ∧ 0 = x.2.2) ∨ (x.1 = 1 ∧ n1 = x.2.2 ∧ Arr x.2.1 4 ob.length 0 n1 c' xs ∧ Same ob1 x.2.1 (· = ob.length)) ∨ (x.1 = 2 ∧ n1 + n2 = x.2.2 ∧ Arr x.2.1 4 ob.length 0 (n1 + n2) c' (xs ++ ys) ∧ Same ob1 x.2.1 (· = ob.length))) (fun x => 2 - x.1) (0, ob1, 0) ?_ (.inl ⟨rfl, rfl, rfl⟩) ?_
  ·simp only [U91, reduceIte, reduceCtorEq, Nat.reduceEqDiff, Nat.reduceAdd, Int.reduceLT, Int.reduceLE, Int.reduceNeg, Int.reduceEq, Nat.reduceLT, Nat.reduceSub, Nat.reduceMul, Nat.reduceBEq, Nat.reduceLeDiff, Int.reduceBEq, Int.reduceBNe, Int.reduceToNat, bA]
  have hnS : ∀ {o : Nat}, o < ob.length → o ≠ ob.length := fun h => Nat.ne_of_lt h
  rintro ⟨i, ob2, k⟩ (⟨rfl, rfl, rfl⟩ | ⟨rfl, rfl, hX, hT⟩ | ⟨rfl, rfl, hX, hT⟩)
  ·simp only [U91, e0, hs1, w3, reduceIte, reduceCtorEq, Nat.reduceEqDiff, Nat.reduceAdd, Int.reduceLT, Int.reduceLE, Int.reduceNeg, Int.reduceEq, Nat.reduceLT, Nat.reduceSub, Nat.reduceMul, Nat.reduceBEq, Nat.reduceLeDiff, Int.reduceBEq, Int.reduceBNe, Int.reduceToNat, bA]
   by_cases hz : n1 = 0
   ·subst hz
    have hx0 : xs = [] := List.eq_nil_of_length_eq_zero (by have := hA.len; omega)
    refine MS_app0 rfl hA1.src ?_
    simp only [U91, e0, hs1, w3, reduceIte, reduceCtorEq, Nat.reduceEqDiff, Nat.reduceAdd, Int.reduceLT, Int.reduceLE, Int.reduceNeg, Int.reduceEq, Nat.reduceLT, Nat.reduceSub, Nat.reduceMul, Nat.reduceBEq, Nat.reduceLeDiff, Int.reduceBEq, Int.reduceBNe, Int.reduceToNat, bA]
    refine ⟨(1, ob1, 0), by simp, .inr (.inl ⟨rfl, rfl, ⟨cs, hg, by omega, by omega, by rw [hx0]; simp⟩, Same.refl _ _⟩), by simp⟩
   ·refine MS_app (m := n1) rfl (by omega) hA1.src (fun hr => ⟨cs, hg, by have := hA.len; have := mul_le (e := 4) (show n1 ≤ c' by omega); omega, ?_⟩) (fun h => by omega)
    have hset := List.getElem?_set_self (a := AObj.box (setAt cs (0 + 0 * 4) xs)) (List.getElem?_eq_some_iff.1 hg).1
    have hS2 : Same ob1 (ob1.set ob.length (AObj.box (setAt cs (0 + 0 * 4) xs))) (· = ob.length) := Same.set rfl
    generalize ob1.set ob.length (AObj.box (setAt cs (0 + 0 * 4) xs)) = ob3 at *
    simp only [U91, e0, hs1, w3, reduceIte, reduceCtorEq, Nat.reduceEqDiff, Nat.reduceAdd, Int.reduceLT, Int.reduceLE, Int.reduceNeg, Int.reduceEq, Nat.reduceLT, Nat.reduceSub, Nat.reduceMul, Nat.reduceBEq, Nat.reduceLeDiff, Int.reduceBEq, Int.reduceBNe, Int.reduceToNat, bA]
    have hl1 : 0 + 0 + xs.length ≤ cs.length := by have := hA.len; have := mul_le (e := 4) (show n1 ≤ c' by omega); omega
    refine ⟨(1, ob3, n1), by simp, .inr (.inl ⟨rfl, rfl, ⟨_, hset, by omega, by rw [setAt_len (by omega)]; omega, ?_⟩, hS2⟩), by simp⟩
    have := cells_behind (cs := cs) (row := xs) (off := 0) (b := 0) hl1
    simp only [Nat.zero_mul, Nat.add_zero, Nat.zero_add, List.take_zero, List.nil_append] at this ⊢
    rw [← hA.len]; exact this
  ·have hs2 : ob2[s]? = some (.box [.asl o1 off1 n1 c1, .asl o2 off2 n2 c2]) := hT.get hs1 (hnS (List.getElem?_eq_some_iff.1 hs).1)
   have hB2 := hT.arr hB1 (hnS hB.lt)
   simp only [U91, e1, hs2, w4, reduceIte, reduceCtorEq, Nat.reduceEqDiff, Nat.reduceAdd, Int.reduceLT, Int.reduceLE, Int.reduceNeg, Int.reduceEq, Nat.reduceLT, Nat.reduceSub, Nat.reduceMul, Nat.reduceBEq, Nat.reduceLeDiff, Int.reduceBEq, Int.reduceBNe, Int.reduceToNat, bA]
   by_cases hz : n2 = 0
   ·subst hz
    have hx0 : ys = [] := List.eq_nil_of_length_eq_zero (by have := hB.len; omega)
    refine MS_app0 rfl hB2.src ?_
    simp only [U91, e1, hs2, w4, reduceIte, reduceCtorEq, Nat.reduceEqDiff, Nat.reduceAdd, Int.reduceLT, Int.reduceLE, Int.reduceNeg, Int.reduceEq, Nat.reduceLT, Nat.reduceSub, Nat.reduceMul, Nat.reduceBEq, Nat.reduceLeDiff, Int.reduceBEq, Int.reduceBNe, Int.reduceToNat, bA]
    refine ⟨(2, ob2, n1), by simp, .inr (.inr ⟨rfl, rfl, by rw [hx0, List.append_nil]; exact hX, hT⟩), by simp⟩
   ·obtain ⟨cs2, hg2, hc3, hl2, hx2⟩ := hX
    have hm := mul_le (e := 4) (show n1 + n2 ≤ c' by omega)
    have hBl := hB.len
    refine MS_app (m := n2) rfl (by omega) hB2.src (fun hr => ⟨cs2, hg2, by omega, ?_⟩) (fun h => by omega)
    have hset := List.getElem?_set_self (a := AObj.box (setAt cs2 (0 + n1 * 4) ys)) (List.getElem?_eq_some_iff.1 hg2).1
    have hS2 : Same ob1 (ob2.set ob.length (AObj.box (setAt cs2 (0 + n1 * 4) ys))) (· = ob.length) := hT.trans (Same.set rfl)
    generalize ob2.set ob.length (AObj.box (setAt cs2 (0 + n1 * 4) ys)) = ob3 at *
    simp only [U91, e1, hs2, w4, reduceIte, reduceCtorEq, Nat.reduceEqDiff, Nat.reduceAdd, Int.reduceLT, Int.reduceLE, Int.reduceNeg, Int.reduceEq, Nat.reduceLT, Nat.reduceSub, Nat.reduceMul, Nat.reduceBEq, Nat.reduceLeDiff, Int.reduceBEq, Int.reduceBNe, Int.reduceToNat, bA]
    refine ⟨(2, ob3, n1 + n2), by simp, .inr (.inr ⟨rfl, rfl, ⟨_, hset, by omega, by rw [setAt_len (by omega)]; omega, ?_⟩, hS2⟩), by simp⟩
    have := cells_behind (cs := cs2) (row := ys) (off := 0) (b := n1 * 4) (by omega)
    rw [hx2] at this
    rw [show (n1 + n2) * 4 = n1 * 4 + ys.length by omega]; exact this
  ·simp only [U91, reduceIte, reduceCtorEq, Nat.reduceEqDiff, Nat.reduceAdd, Int.reduceLT, Int.reduceLE, Int.reduceNeg, Int.reduceEq, Nat.reduceLT, Nat.reduceSub, Nat.reduceMul, Nat.reduceBEq, Nat.reduceLeDiff, Int.reduceBEq, Int.reduceBNe, Int.reduceToNat, bA]
   refine ⟨_, rfl, ob.length, c', rfl, hX, Nat.le_refl _, hc2, ?_⟩
   exact ⟨Nat.le_trans hS.1 hT.1, fun j hj _ => (hT.2 j (Nat.lt_of_lt_of_le hj hS.1) (hnS hj)).trans (hS.2 j hj (fun h => h))⟩
theorem cloneN {ob : List AObj} {o off n c : Nat} {xs : List PV} (hA : Arr ob 1 o off n c xs) (hn : n ≤ 16777216) :
  ICall Tryz.prog 187 [.asl o off n c] ob fun r ob' => ∃ q c', r = .asl q 0 n c' ∧ Arr ob' 1 q 0 n c' xs ∧ ob.length ≤ q ∧ c' ≤ 9223372036854775807 ∧ Same ob ob' (fun _ => False) := by
 refine icall_dr Tryz.func187 E187.h ?_
 simp only [U187, List.replicate_zero, reduceIte, reduceCtorEq, Nat.reduceEqDiff, Nat.reduceAdd, Int.reduceLT, Int.reduceLE, Int.reduceNeg, Int.reduceEq, Nat.reduceLT, Nat.reduceSub, Nat.reduceMul, Nat.reduceBEq, Nat.reduceLeDiff, Int.reduceBEq, Int.reduceBNe, Int.reduceToNat, bA]
 have hS : Same ob (ob ++ [AObj.box []]) (fun _ => False) := Same.app _ _ _
 have hg : (ob ++ [AObj.box []])[ob.length]? = some (.box []) := by rw [List.getElem?_append_right (Nat.le_refl _), Nat.sub_self]; rfl
 have hl : (ob ++ [AObj.box []]).length = ob.length + 1 := by simp
 generalize ob ++ [AObj.box []] = ob1 at *
 have hA1 := hS.arr hA (fun h => h)
 have hxl := hA.len
 by_cases h0 : n = 0
 ·subst h0
  refine MS_app0 rfl hA1.src ?_
  simp only [U187, reduceIte, reduceCtorEq, Nat.reduceEqDiff, Nat.reduceAdd, Int.reduceLT, Int.reduceLE, Int.reduceNeg, Int.reduceEq, Nat.reduceLT, Nat.reduceSub, Nat.reduceMul, Nat.reduceBEq, Nat.reduceLeDiff, Int.reduceBEq, Int.reduceBNe, Int.reduceToNat, bA]
  refine ⟨_, rfl, ob.length, 0, rfl, ⟨[], hg, Nat.le_refl _, by simp, ?_⟩, Nat.le_refl _, by omega, hS⟩
  exact (List.eq_nil_of_length_eq_zero (by omega)).symm
 ·refine MS_app (m := n) rfl (by omega) hA1.src (fun h => by omega) fun _ => ⟨[], arrSrc_asl hg (by simp), by omega, by omega, fun c' h1 h2 => ?_⟩
  (try rw [Nat.zero_add]); (try rw [Nat.zero_add] at h1)
  simp only [U187, reduceIte, reduceCtorEq, Nat.reduceEqDiff, Nat.reduceAdd, Int.reduceLT, Int.reduceLE, Int.reduceNeg, Int.reduceEq, Nat.reduceLT, Nat.reduceSub, Nat.reduceMul, Nat.reduceBEq, Nat.reduceLeDiff, Int.reduceBEq, Int.reduceBNe, Int.reduceToNat, bA]
  refine ⟨_, rfl, ob1.length, c', by simp, ⟨_, by rw [List.getElem?_append_right (Nat.le_refl _), Nat.sub_self]; rfl, by omega, ?_, ?_⟩, by omega, h2, hS.trans (Same.app _ _ _)⟩
  ·have := mul_le (e := 1) (show n ≤ c' by omega)
   simp only [List.nil_append, List.length_append, flat_rep, Nat.sub_mul, List.length_cons, List.length_nil]; omega
  ·(try simp only [List.drop_zero, List.nil_append]); rw [List.take_left' (by omega)]
theorem growN {ob : List AObj} {k : Nat} (h0 : 0 < k) (hk : k ≤ 16777216) :
  ICall Tryz.prog 199 [.nils, .int .i64 (k : Int)] ob fun r ob' => ∃ c' cs, r = .asl ob.length 0 0 c' ∧ ob' = ob ++ [.box cs] ∧ k ≤ c' ∧ c' ≤ 9223372036854775807 ∧ cs.length = c' * 1 := by
 refine icall_dr Tryz.func199 E199.h ?_
 have d1 : decide ((k : Int) < 0) = false := decide_eq_false (by omega)
 have d2 : decide (0 < (k : Int)) = true := decide_eq_true (by omega)
 have w1 : IntKind.i64.wrap ((0 : Int) - 0) = 0 := by decide
 have w2 : IntKind.i64.wrap ((k : Int) - 0) = (k : Int) := by rw [wrapI (by omega) (by omega)]; omega
 simp only [U199, d1, d2, w1, w2, reduceIte, reduceCtorEq, Nat.reduceEqDiff, Nat.reduceAdd, Int.reduceLT, Int.reduceLE, Int.reduceNeg, Int.reduceEq, Nat.reduceLT, Nat.reduceSub, Nat.reduceMul, Nat.reduceBEq, Nat.reduceLeDiff, Int.reduceBEq, Int.reduceBNe, Int.reduceToNat, bA]
 refine MS_apz0 rfl h0 ⟨h0, by omega, fun c' h1 h2 => ?_⟩
 (try rw [Nat.zero_add]); (try rw [Nat.zero_add] at h1)
 have s1 : aslB 1 ob.length 0 k c' (some 0) (some 0) (some (c' : Int)) = some (.asl ob.length 0 0 c') := aslB_z (h := 0) (by omega)
 simp only [U199, d1, d2, w1, w2, s1, reduceIte, reduceCtorEq, Nat.reduceEqDiff, Nat.reduceAdd, Int.reduceLT, Int.reduceLE, Int.reduceNeg, Int.reduceEq, Nat.reduceLT, Nat.reduceSub, Nat.reduceMul, Nat.reduceBEq, Nat.reduceLeDiff, Int.reduceBEq, Int.reduceBNe, Int.reduceToNat, bA]
 refine ⟨_, rfl, c', _, rfl, rfl, by omega, h2, ?_⟩
 simp only [List.nil_append, List.length_append, flat_rep, List.length_cons, List.length_nil, ← Nat.add_mul]
 congr 1; omega
theorem concatN {ob : List AObj} {s o1 off1 n1 c1 o2 off2 n2 c2 : Nat} {xs ys : List PV} (hs : ob[s]? = some (.box [.asl o1 off1 n1 c1, .asl o2 off2 n2 c2])) (hA : Arr ob 1 o1 off1 n1 c1 xs) (hB : Arr ob 1 o2 off2 n2 c2 ys) (h0 : 0 < n1 + n2) (hn : n1 + n2 ≤ 16777216) :
  ICall Tryz.prog 196 [.asl s 0 2 2] ob fun r ob' => ∃ q c', r = .asl q 0 (n1 + n2) c' ∧ Arr ob' 1 q 0 (n1 + n2) c' (xs ++ ys) ∧ ob.length ≤ q ∧ c' ≤ 9223372036854775807 ∧ Same ob ob' (fun _ => False) := by
 refine icall_dr Tryz.func196 E196.h ?_
 have w1 : IntKind.i64.wrap ((0 : Int) + (n1 : Int)) = (n1 : Int) := by rw [wrapI (by omega) (by omega)]; omega
 have w2 : IntKind.i64.wrap ((n1 : Int) + (n2 : Int)) = ((n1 + n2 : Nat) : Int) := by rw [wrapI (by omega) (by omega)]; omega
 have w3 : IntKind.i64.wrap ((0 : Int) + 1) = 1 := by decide
 have w4 : IntKind.i64.wrap ((1 : Int) + 1) = 2 := by decide
 have d1 : decide ((n1 : Int) < 0) = false := decide_eq_false (by omega)
 have d2 : decide (((n1 + n2 : Nat) : Int) < 0) = false := decide_eq_false (by omega)
 have e0 : ixV 1 s 0 2 0 = some (.ref s 0) := by simp [ixV]
 have e1 : ixV 1 s 0 2 1 = some (.ref s 1) := by simp [ixV]
 simp only [U196, reduceIte, reduceCtorEq, Nat.reduceEqDiff, Nat.reduceAdd, Int.reduceLT, Int.reduceLE, Int.reduceNeg, Int.reduceEq, Nat.reduceLT, Nat.reduceSub, Nat.reduceMul, Nat.reduceBEq, Nat.reduceLeDiff, Int.reduceBEq, Int.reduceBNe, Int.reduceToNat, bA]
 refine loopF (fun i : Nat => ⟨ofL [(0, .asl s 0 2 2), (3, .int .i64 ((if i = 0 then 0 else if i = 1 then n1 else n1 + n2 : Nat) : Int)), (9, .asl s 0 2 2), (10, .int .i64 2), (11, .int .i64 (i : Int))], ob⟩) (fun i => i ≤ 2) (fun i => 2 - i) 0 ?_ (Nat.zero_le _) ?_
 ·simp only [U196, if_true, reduceIte, reduceCtorEq, Nat.reduceEqDiff, Nat.reduceAdd, Int.reduceLT, Int.reduceLE, Int.reduceNeg, Int.reduceEq, Nat.reduceLT, Nat.reduceSub, Nat.reduceMul, Nat.reduceBEq, Nat.reduceLeDiff, Int.reduceBEq, Int.reduceBNe, Int.reduceToNat, bA]
 intro i hi
 obtain rfl | rfl | rfl : i = 0 ∨ i = 1 ∨ i = 2 := by omega
 ·simp only [if_true]
  simp only [U196, w1, w3, d1, e0, hs, reduceIte, reduceCtorEq, Nat.reduceEqDiff, Nat.reduceAdd, Int.reduceLT, Int.reduceLE, Int.reduceNeg, Int.reduceEq, Nat.reduceLT, Nat.reduceSub, Nat.reduceMul, Nat.reduceBEq, Nat.reduceLeDiff, Int.reduceBEq, Int.reduceBNe, Int.reduceToNat, bA]
  refine ⟨1, ?_, by omega, by omega⟩
  simp
 ·simp only [if_true, Nat.one_ne_zero, if_false]
  simp only [U196, w2, w4, d2, e1, hs, reduceIte, reduceCtorEq, Nat.reduceEqDiff, Nat.reduceAdd, Int.reduceLT, Int.reduceLE, Int.reduceNeg, Int.reduceEq, Nat.reduceLT, Nat.reduceSub, Nat.reduceMul, Nat.reduceBEq, Nat.reduceLeDiff, Int.reduceBEq, Int.reduceBNe, Int.reduceToNat, bA]
  refine ⟨2, ?_, by omega, by omega⟩
  simp
 ·simp only [show ¬ (2 : Nat) = 0 by omega, show ¬ (2 : Nat) = 1 by omega, if_false]
  simp only [U196, reduceIte, reduceCtorEq, Nat.reduceEqDiff, Nat.reduceAdd, Int.reduceLT, Int.reduceLE, Int.reduceNeg, Int.reduceEq, Nat.reduceLT, Nat.reduceSub, Nat.reduceMul, Nat.reduceBEq, Nat.reduceLeDiff, Int.reduceBEq, Int.reduceBNe, Int.reduceToNat, bA]
  refine callM (growN h0 hn) ?_
  rintro r ob1 ⟨c', cs, rfl, hob1, hc1, hc2, hcl⟩
  have hS : Same ob ob1 (fun _ => False) := by rw [hob1]; exact Same.app _ _ _
  have hg : ob1[ob.length]? = some (.box cs) := by rw [hob1, List.getElem?_append_right (Nat.le_refl _), Nat.sub_self]; rfl
  clear hob1
  simp only [U196, reduceIte, reduceCtorEq, Nat.reduceEqDiff, Nat.reduceAdd, Int.reduceLT, Int.reduceLE, Int.reduceNeg, Int.reduceEq, Nat.reduceLT, Nat.reduceSub, Nat.reduceMul, Nat.reduceBEq, Nat.reduceLeDiff, Int.reduceBEq, Int.reduceBNe, Int.reduceToNat, bA]
  have hs1 := hS.get hs (fun h => h)
  have hA1 := hS.arr hA (fun h => h)
  have hB1 := hS.arr hB (fun h => h)
  refine loopF (fun x : Nat × List AObj × Nat => ⟨ofL [(6, .asl ob.length 0 x.2.2 c'), (25, .asl s 0 2 2), (26, .int .i64 2), (27, .int .i64 (x.1 : Int))], x.2.1⟩)
   (fun x => (x.1 = 0 ∧ ob1 = x.2.1 ∧ 0 = x.2.2) ∨ (x.1 = 1 ∧ n1 = x.2.2 ∧ Arr x.2.1 1 ob.length 0 n1 c' xs ∧ Same ob1 x.2.1 (· = ob.length)) ∨ (x.1 = 2 ∧ n1 + n2 = x.2.2 ∧ Arr x.2.1 1 ob.length 0 (n1 + n2) c' (xs ++ ys) ∧ Same ob1 x.2.1 (· = ob.length))) (fun x => 2 - x.1) (0, ob1, 0) ?_ (.inl ⟨rfl, rfl, rfl⟩) ?_
  ·simp only [U196, reduceIte, reduceCtorEq, Nat.reduceEqDiff, Nat.reduceAdd, Int.reduceLT, Int.reduceLE, Int.reduceNeg, Int.reduceEq, Nat.reduceLT, Nat.reduceSub, Nat.reduceMul, Nat.reduceBEq, Nat.reduceLeDiff, Int.reduceBEq, Int.reduceBNe, Int.reduceToNat, bA]
  have hnS : ∀ {o : Nat}, o < ob.length → o ≠ ob.length := fun h => Nat.ne_of_lt h
  rintro ⟨i, ob2, k⟩ (⟨rfl, rfl, rfl⟩ | ⟨rfl, rfl, hX, hT⟩ | ⟨rfl, rfl, hX, hT⟩)
  ·simp only [U196, e0, hs1, w3, reduceIte, reduceCtorEq, Nat.reduceEqDiff, Nat.reduceAdd, Int.reduceLT, Int.reduceLE, Int.reduceNeg, Int.reduceEq, Nat.reduceLT, Nat.reduceSub, Nat.reduceMul, Nat.reduceBEq, Nat.reduceLeDiff, Int.reduceBEq, Int.reduceBNe, Int.reduceToNat, bA]
   by_cases hz : n1 = 0
   ·subst hz
    have hx0 : xs = [] := List.eq_nil_of_length_eq_zero (by have := hA.len; omega)
    refine MS_app0 rfl hA1.src ?_
    simp only [U196, e0, hs1, w3, reduceIte, reduceCtorEq, Nat.reduceEqDiff, Nat.reduceAdd, Int.reduceLT, Int.reduceLE, Int.reduceNeg, Int.reduceEq, Nat.reduceLT, Nat.reduceSub, Nat.reduceMul, Nat.reduceBEq, Nat.reduceLeDiff, Int.reduceBEq, Int.reduceBNe, Int.reduceToNat, bA]
    refine ⟨(1, ob1, 0), by simp, .inr (.inl ⟨rfl, rfl, ⟨cs, hg, by omega, by omega, by rw [hx0]; simp⟩, Same.refl _ _⟩), by simp⟩
   ·refine MS_app (m := n1) rfl (by omega) hA1.src (fun hr => ⟨cs, hg, by have := hA.len; have := mul_le (e := 1) (show n1 ≤ c' by omega); omega, ?_⟩) (fun h => by omega)
    have hset := List.getElem?_set_self (a := AObj.box (setAt cs (0 + 0 * 1) xs)) (List.getElem?_eq_some_iff.1 hg).1
    have hS2 : Same ob1 (ob1.set ob.length (AObj.box (setAt cs (0 + 0 * 1) xs))) (· = ob.length) := Same.set rfl
    generalize ob1.set ob.length (AObj.box (setAt cs (0 + 0 * 1) xs)) = ob3 at *
    simp only [U196, e0, hs1, w3, reduceIte, reduceCtorEq, Nat.reduceEqDiff, Nat.reduceAdd, Int.reduceLT, Int.reduceLE, Int.reduceNeg, Int.reduceEq, Nat.reduceLT, Nat.reduceSub, Nat.reduceMul, Nat.reduceBEq, Nat.reduceLeDiff, Int.reduceBEq, Int.reduceBNe, Int.reduceToNat, bA]
    have hl1 : 0 + 0 + xs.length ≤ cs.length := by have := hA.len; have := mul_le (e := 1) (show n1 ≤ c' by omega); omega
    refine ⟨(1, ob3, n1), by simp, .inr (.inl ⟨rfl, rfl, ⟨_, hset, by omega, by rw [setAt_len (by omega)]; omega, ?_⟩, hS2⟩), by simp⟩
    have := cells_behind (cs := cs) (row := xs) (off := 0) (b := 0) hl1
    simp only [Nat.zero_mul, Nat.add_zero, Nat.zero_add, List.take_zero, List.nil_append] at this ⊢
    rw [← hA.len]; exact this
  ·have hs2 : ob2[s]? = some (.box [.asl o1 off1 n1 c1, .asl o2 off2 n2 c2]) := hT.get hs1 (hnS (List.getElem?_eq_some_iff.1 hs).1)
   have hB2 := hT.arr hB1 (hnS hB.lt)
   simp only [U196, e1, hs2, w4, reduceIte, reduceCtorEq, Nat.reduceEqDiff, Nat.reduceAdd, Int.reduceLT, Int.reduceLE, Int.reduceNeg, Int.reduceEq, Nat.reduceLT, Nat.reduceSub, Nat.reduceMul, Nat.reduceBEq, Nat.reduceLeDiff, Int.reduceBEq, Int.reduceBNe, Int.reduceToNat, bA]
   by_cases hz : n2 = 0
   ·subst hz
    have hx0 : ys = [] := List.eq_nil_of_length_eq_zero (by have := hB.len; omega)
    refine MS_app0 rfl hB2.src ?_
    simp only [U196, e1, hs2, w4, reduceIte, reduceCtorEq, Nat.reduceEqDiff, Nat.reduceAdd, Int.reduceLT, Int.reduceLE, Int.reduceNeg, Int.reduceEq, Nat.reduceLT, Nat.reduceSub, Nat.reduceMul, Nat.reduceBEq, Nat.reduceLeDiff, Int.reduceBEq, Int.reduceBNe, Int.reduceToNat, bA]
    refine ⟨(2, ob2, n1), by simp, .inr (.inr ⟨rfl, rfl, by rw [hx0, List.append_nil]; exact hX, hT⟩), by simp⟩
   ·obtain ⟨cs2, hg2, hc3, hl2, hx2⟩ := hX
    have hm := mul_le (e := 1) (show n1 + n2 ≤ c' by omega)
    have hBl := hB.len
    refine MS_app (m := n2) rfl (by omega) hB2.src (fun hr => ⟨cs2, hg2, by omega, ?_⟩) (fun h => by omega)
    have hset := List.getElem?_set_self (a := AObj.box (setAt cs2 (0 + n1 * 1) ys)) (List.getElem?_eq_some_iff.1 hg2).1
    have hS2 : Same ob1 (ob2.set ob.length (AObj.box (setAt cs2 (0 + n1 * 1) ys))) (· = ob.length) := hT.trans (Same.set rfl)
    generalize ob2.set ob.length (AObj.box (setAt cs2 (0 + n1 * 1) ys)) = ob3 at *
    simp only [U196, e1, hs2, w4, reduceIte, reduceCtorEq, Nat.reduceEqDiff, Nat.reduceAdd, Int.reduceLT, Int.reduceLE, Int.reduceNeg, Int.reduceEq, Nat.reduceLT, Nat.reduceSub, Nat.reduceMul, Nat.reduceBEq, Nat.reduceLeDiff, Int.reduceBEq, Int.reduceBNe, Int.reduceToNat, bA]
    refine ⟨(2, ob3, n1 + n2), by simp, .inr (.inr ⟨rfl, rfl, ⟨_, hset, by omega, by rw [setAt_len (by omega)]; omega, ?_⟩, hS2⟩), by simp⟩
    have := cells_behind (cs := cs2) (row := ys) (off := 0) (b := n1 * 1) (by omega)
    rw [hx2] at this
    rw [show (n1 + n2) * 1 = n1 * 1 + ys.length by omega]; exact this
  ·simp only [U196, reduceIte, reduceCtorEq, Nat.reduceEqDiff, Nat.reduceAdd, Int.reduceLT, Int.reduceLE, Int.reduceNeg, Int.reduceEq, Nat.reduceLT, Nat.reduceSub, Nat.reduceMul, Nat.reduceBEq, Nat.reduceLeDiff, Int.reduceBEq, Int.reduceBNe, Int.reduceToNat, bA]
   refine ⟨_, rfl, ob.length, c', rfl, hX, Nat.le_refl _, hc2, ?_⟩
   exact ⟨Nat.le_trans hS.1 hT.1, fun j hj _ => (hT.2 j (Nat.lt_of_lt_of_le hj hS.1) (hnS hj)).trans (hS.2 j hj (fun h => h))⟩
end Go.Proofs.YtdgpiobmncohjaaGreatDoor.Aw.Ar
