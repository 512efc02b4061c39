/-
 The tree's nodes, as they lie; their methods; under which kid a sector stands.; A list split, and two lists cut anew, at both kinds.; An extent put below a node.; An extent put below an inner node.
-/
import Derived.Test.YtdgpiobmncohjaaGreatDoorQa
import Derived.Test.YtdgpiobmncohjaaGreatDoorQb
import Derived.Test.YtdgpiobmncohjaaGreatDoorKar
import Derived.Test.YtdgpiobmncohjaaGreatDoorKas
set_option linter.all false
set_option maxRecDepth 100000
namespace Go.Proofs.YtdgpiobmncohjaaGreatDoor.Aw
open Go.RowKit Ar
class Fr where
 W : Int → Nat → List Xt → Nat → Prop
 fresh : ∀ h l n, W (-1) h l n
structure Kd where
 p : Nat
 l : List Xt
 s : Nat
 fp : List Nat
def tyN : Nat → Nat
 | 0 => 180
 | _ + 1 => 125
def nodeV (h : Nat) (k : Kd) : PV := .ifc (tyN h) (.ref k.p 0)
theorem nodeV_0 (k : Kd) : nodeV 0 k = .ifc 180 (.ref k.p 0) := rfl
theorem nodeV_s (h : Nat) (k : Kd) : nodeV (h + 1) k = .ifc 125 (.ref k.p 0) := rfl
structure LeafAt [Fr] (ob : List AObj) (k : Kd) (q off c : Nat) : Prop where
 fp : k.fp = [k.p, q]
 nd : k.fp.Nodup
 sz : k.s = k.l.length
 bx : ∃ at_ : Int, ob[k.p]? = some (.box [.int .i64 at_, .asl q off k.s c]) ∧ Fr.W at_ 0 k.l k.s
 ar : Arr ob 4 q off k.s c (XL k.l)
 cb : c ≤ 9223372036854775807
structure InnerAt [Fr] (ob : List AObj) (h : Nat) (k : Kd) (q off c : Nat) (ks : List Kd) : Prop where
 fp : k.fp = k.p :: q :: ks.flatMap (·.fp)
 nd : k.fp.Nodup
 sz : k.s = ks.length
 fl : k.l = ks.flatMap (·.l)
 bx : ∃ at_ : Int, ob[k.p]? = some (.box [.int .i64 at_, .asl q off k.s c]) ∧ Fr.W at_ (h + 1) k.l k.s
 ar : Arr ob 1 q off k.s c (ks.map (nodeV h))
 cb : c ≤ 9223372036854775807
def Node [Fr] (ob : List AObj) : Nat → Kd → Prop
 | 0, k => ∃ q off c, LeafAt ob k q off c
 | h + 1, k => ∃ q off c ks, InnerAt ob h k q off c ks ∧ ∀ x ∈ ks, Node ob h x ∧ 4 ≤ x.s ∧ x.s ≤ 8
theorem Node.nd [Fr] {ob : List AObj} {h : Nat} {k : Kd} (hN : Node ob h k) : k.fp.Nodup := by
 cases h with
 | zero => obtain ⟨q, off, c, h⟩ := hN; exact h.nd
 | succ h => obtain ⟨q, off, c, ks, h, _⟩ := hN; exact h.nd
theorem Node.frame [Fr] {ob ob' : List AObj} : ∀ {h : Nat} {k : Kd}, Node ob h k → (∀ i ∈ k.fp, ob'[i]? = ob[i]?) → Node ob' h k
 | 0, k, ⟨q, off, c, h⟩, hf => by
  have hp : k.p ∈ k.fp := by rw [h.fp]; simp
  have hq : q ∈ k.fp := by rw [h.fp]; simp
  obtain ⟨a, hb, whb⟩ := h.bx
  exact ⟨q, off, c, ⟨h.fp, h.nd, h.sz, ⟨a, (hf _ hp).trans hb, whb⟩, h.ar.keep (hf _ hq), h.cb⟩⟩
 | h + 1, k, ⟨q, off, c, ks, hI, hk⟩, hf => by
  have hp : k.p ∈ k.fp := by rw [hI.fp]; simp
  have hq : q ∈ k.fp := by rw [hI.fp]; simp
  obtain ⟨a, hb, whb⟩ := hI.bx
  refine ⟨q, off, c, ks, ⟨hI.fp, hI.nd, hI.sz, hI.fl, ⟨a, (hf _ hp).trans hb, whb⟩, hI.ar.keep (hf _ hq), hI.cb⟩, fun x hx => ?_⟩
  refine ⟨(hk x hx).1.frame fun i hi => hf i ?_, (hk x hx).2⟩
  rw [hI.fp]
  simp only [List.mem_cons, List.mem_flatMap]
  exact .inr (.inr ⟨x, hx, hi⟩)
theorem Node.lt [Fr] {ob : List AObj} : ∀ {h : Nat} {k : Kd}, Node ob h k → ∀ i ∈ k.fp, i < ob.length
 | 0, k, ⟨q, off, c, h⟩, i, hi => by
  obtain ⟨a, hb, whb⟩ := h.bx
  rw [h.fp] at hi
  simp only [List.mem_cons, List.not_mem_nil, or_false] at hi
  rcases hi with rfl | rfl
  ·exact (List.getElem?_eq_some_iff.1 hb).1
  ·exact h.ar.lt
 | h + 1, k, ⟨q, off, c, ks, hI, hk⟩, i, hi => by
  obtain ⟨a, hb, whb⟩ := hI.bx
  rw [hI.fp] at hi
  simp only [List.mem_cons, List.mem_flatMap] at hi
  rcases hi with rfl | rfl | ⟨x, hx, hi⟩
  ·exact (List.getElem?_eq_some_iff.1 hb).1
  ·exact hI.ar.lt
  ·exact (hk x hx).1.lt i hi
theorem Node.ne [Fr] {ob : List AObj} : ∀ {h : Nat} {k : Kd}, Node ob h k → 1 ≤ k.s → k.l ≠ []
 | 0, k, ⟨q, off, c, h⟩, hs, e => by have := h.sz; rw [e] at this; simp at this; omega
 | h + 1, k, ⟨q, off, c, ks, hI, hk⟩, hs, e => by
  have := hI.sz
  match ks, hI, hk with
  | [], hI, hk => simp at this; omega
  | x :: r, hI, hk =>
   rw [hI.fl] at e
   simp only [List.flatMap_cons, List.append_eq_nil_iff] at e
   exact (hk x (by simp)).1.ne (by have := (hk x (by simp)).2.1; omega) e.1
def IsR (r : PV) (ob : List AObj) (r' : PV) (ob' : List AObj) : Prop := r' = r ∧ ob' = ob
theorem isR {r r' : PV} {ob : List AObj} (h : r' = r) : IsR r ob r' ob := ⟨h, rfl⟩
theorem RCall.ofR {P : Program} {f : Nat} {ps : List PV} {ob : List AObj} {r : PV} (h : ICall P f ps ob (IsR r ob)) (hf : r.flat = true) : RCall P f ps ob r :=
 RCall.of h (fun r' ob' h => ⟨h.1, [], by rw [h.2, List.append_nil]⟩) hf
def keyX (l : List Xt) : Int := match l with | [] => 0 | e :: _ => e.fr
theorem keyX_app {a b : List Xt} (h : a ≠ []) : keyX (a ++ b) = keyX a := by
 cases a with
 | nil => exact absurd rfl h
 | cons e a => rfl
def fF : Nat → Nat
 | 0 => 225
 | _ + 1 => 219
def zF : Nat → Nat
 | 0 => 226
 | _ + 1 => 220
def wF : Nat → Nat
 | 0 => 227
 | _ + 1 => 221
theorem mF (h : Nat) : MethOk Tryz.prog (tyN h) "scoria/tree.first" (fF h) := by
 cases h with
 | zero => exact fun v w => by kernel_rfl
 | succ h => exact fun v w => by kernel_rfl
theorem mZ (h : Nat) : MethOk Tryz.prog (tyN h) "scoria/tree.size" (zF h) := by
 cases h with
 | zero => exact fun v w => by kernel_rfl
 | succ h => exact fun v w => by kernel_rfl
theorem mW (h : Nat) : MethOk Tryz.prog (tyN h) "scoria/tree.where" (wF h) := by
 cases h with
 | zero => exact fun v w => by kernel_rfl
 | succ h => exact fun v w => by kernel_rfl
theorem ldB1 {at_ : Int} {x : PV} : ldB (some (.box [.int .i64 at_, x])) 1 1 = some [x] := by simp [ldB]
theorem ldK {ob : List AObj} {q off n c : Nat} {xs : List PV} (h : Arr ob 1 q off n c xs) {i : Nat} {x : PV} (hi : xs[i]? = some x) : ldB ob[q]? (off + i * 1) 1 = some [x] := by
 have hlen := h.len
 have hlt := (List.getElem?_eq_some_iff.1 hi).1
 obtain ⟨cs, h1, h2, h3, h4⟩ := h
 have : off + i * 1 + 1 ≤ cs.length := by omega
 rw [h1, ldB_box this]
 have e : ((cs.drop (off + i * 1)).take 1) = (xs.drop i).take 1 := by rw [← h4, List.drop_take, List.drop_drop, List.take_take, Nat.mul_one, Nat.min_eq_left (by omega)]
 rw [e, List.drop_eq_getElem_cons hlt]
 have := (List.getElem?_eq_some_iff.1 hi).2
 simp [this]
theorem first_r [Fr] : ∀ (h : Nat) {ob : List AObj} {k : Kd}, Node ob h k → 1 ≤ k.s → RCall Tryz.prog (fF h) [.ref k.p 0] ob (.int .i64 (keyX k.l))
 | 0, ob, k, ⟨q, off, c, hL⟩, hs => by
  obtain ⟨a, hb, whb⟩ := hL.bx
  have hA := hL.ar
  have hsz := hL.sz
  rw [hsz] at hA hb
  have hlen : 0 < k.l.length := by omega
  have d : decide (0 < k.l.length) = true := decide_eq_true hlen
  have hld := ldX hA hlen
  obtain ⟨cs, h1, h2, h3, h4⟩ := id hA
  have hk : keyX k.l = k.l[0].fr := by
   match hl : k.l, hlen with
   | e :: r, _ => rfl
  have hld1 : ldB ob[q]? off 1 = some [.int .i64 k.l[0].fr] := by
   have e1 : off + 0 * 4 + 4 ≤ cs.length := by omega
   have e2 : off + 1 ≤ cs.length := by omega
   rw [h1, ldB_box e1] at hld
   rw [h1, ldB_box e2]
   have := congrArg (Option.map (List.take 1)) hld
   simp only [Option.map_some, List.take_take, Nat.zero_mul] at this
   simpa [rowE] using this
  refine RCall.ofR ?_ rfl
  show ICall Tryz.prog 225 _ _ _
  refine icall_dr Tryz.func225 E225.h ?_
  simp only [U225, hb, d, hld1, ldB1, seval, bA]
  exact ⟨_, rfl, isR (by rw [hk])⟩
 | h + 1, ob, k, ⟨q, off, c, ks, hI, hkk⟩, hs => by
  obtain ⟨a, hb, whb⟩ := hI.bx
  have hA := hI.ar
  have hsz := hI.sz
  rw [hsz] at hA hb
  have hlen : 0 < ks.length := by omega
  have d : decide (0 < ks.length) = true := decide_eq_true hlen
  have hx0 := hkk ks[0] (List.getElem_mem hlen)
  have hld := ldK hA (i := 0) (x := nodeV h ks[0]) (by simp [hlen])
  simp only [Nat.zero_mul, Nat.add_zero] at hld
  have hk : keyX k.l = keyX ks[0].l := by
   rw [hI.fl]
   match hks : ks, hlen with
   | x :: r, _ =>
    simp only [List.flatMap_cons, List.getElem_cons_zero]
    exact keyX_app ((hkk x (by simp)).1.ne (by have := (hkk x (by simp)).2.1; omega))
  refine RCall.ofR ?_ rfl
  show ICall Tryz.prog 219 _ _ _
  refine icall_dr Tryz.func219 E219.h ?_
  simp only [U219, hb, d, hld, ldB1, nodeV, seval, bA]
  refine callJ (mF h) (first_r h hx0.1 (by have := hx0.2.1; omega)) ?_
  exact ⟨_, rfl, isR (by rw [hk])⟩
theorem size_r [Fr] (h : Nat) {ob : List AObj} {k : Kd} (hN : Node ob h k) : RCall Tryz.prog (zF h) [.ref k.p 0] ob (.int .i64 (k.s : Int)) := by
 have hbx : ∃ (q off c : Nat) (at_ : Int), ob[k.p]? = some (.box [.int .i64 at_, .asl q off k.s c]) := by
  cases h with
  | zero => obtain ⟨q, off, c, hL⟩ := hN; obtain ⟨a, hb, whb⟩ := hL.bx; exact ⟨q, off, c, a, hb⟩
  | succ h => obtain ⟨q, off, c, ks, hL, _⟩ := hN; obtain ⟨a, hb, whb⟩ := hL.bx; exact ⟨q, off, c, a, hb⟩
 obtain ⟨q, off, c, a, hb⟩ := hbx
 refine RCall.ofR ?_ rfl
 cases h with
 | zero =>
  show ICall Tryz.prog 226 _ _ _
  refine icall_dr Tryz.func226 E226.h ?_
  simp only [U226, hb, ldB1, seval, bA]
  exact ⟨_, rfl, isR rfl⟩
 | succ h =>
  show ICall Tryz.prog 220 _ _ _
  refine icall_dr Tryz.func220 E220.h ?_
  simp only [U220, hb, ldB1, seval, bA]
  exact ⟨_, rfl, isR rfl⟩
theorem where_i (h : Nat) {ob : List AObj} (p : Nat) : ICall Tryz.prog (wF h) [.ref p 0] ob (IsR (.ref p 0) ob) := by
 cases h with
 | zero =>
  show ICall Tryz.prog 227 _ _ _
  refine icall_dr Tryz.func227 E227.h ?_
  simp only [U227, seval, bA]
  exact ⟨_, rfl, isR rfl⟩
 | succ h =>
  show ICall Tryz.prog 221 _ _ _
  refine icall_dr Tryz.func221 E221.h ?_
  simp only [U221, seval, bA]
  exact ⟨_, rfl, isR rfl⟩
def undF (key : Nat → Int) (x : Int) : Nat → Nat
 | 0 => 0
 | i + 1 => if x < key (i + 1) then undF key x i else i + 1
theorem undF_le (key : Nat → Int) (x : Int) : ∀ n, undF key x n ≤ n
 | 0 => Nat.le_refl _
 | n + 1 => by
  rw [undF]
  split
  ·exact Nat.le_succ_of_le (undF_le key x n)
  ·exact Nat.le_refl _
theorem undF_at (key : Nat → Int) (x : Int) : ∀ n, undF key x n = 0 ∨ key (undF key x n) ≤ x
 | 0 => .inl rfl
 | n + 1 => by
  rw [undF]
  split
  ·exact undF_at key x n
  ·exact .inr (by omega)
theorem undF_gt (key : Nat → Int) (x : Int) : ∀ n j, undF key x n < j → j ≤ n → x < key j
 | 0, j, h1, h2 => by omega
 | n + 1, j, h1, h2 => by
  rw [undF] at h1
  split at h1
  ·rename_i h
   by_cases e : j = n + 1
   ·subst e; exact h
   ·exact undF_gt key x n j h1 (by omega)
  ·omega
def keyK (ks : List Kd) (i : Nat) : Int := match ks[i]? with | some k => keyX k.l | none => 0
theorem keyK_at {ks : List Kd} {i : Nat} (h : i < ks.length) : keyK ks i = keyX ks[i].l := by simp [keyK, h]
theorem under_r [Fr] {ob : List AObj} {h : Nat} {k : Kd} {q off c : Nat} {ks : List Kd} (hI : InnerAt ob h k q off c ks) (hk : ∀ x ∈ ks, Node ob h x ∧ 1 ≤ x.s) (h0 : 0 < ks.length) (hm : ks.length ≤ 1000) (x : Int) :
  RCall Tryz.prog 131 [.ref k.p 0, .int .i64 x] ob (.int .i64 (undF (keyK ks) x (ks.length - 1) : Int)) := by
 obtain ⟨a, hb, whb⟩ := hI.bx
 have hA := hI.ar
 rw [hI.sz] at hA hb
 refine RCall.ofR ?_ rfl
 refine icall_dr Tryz.func131 E131.h ?_
 have w0 : IntKind.i64.wrap ((ks.length : Int) - 1) = ((ks.length - 1 : Nat) : Int) := by rw [wrapI (by omega) (by omega)]; omega
 simp only [U131, hb, ldB1, w0, seval, bA]
 refine loopF (fun i : Nat => ⟨ofL [(0, .ref k.p 0), (1, .int .i64 x), (5, .int .i64 (i : Int))], ob⟩) (fun i => i < ks.length ∧ undF (keyK ks) x i = undF (keyK ks) x (ks.length - 1)) (fun i => i) (ks.length - 1) ?_ ⟨by omega, rfl⟩ ?_
 ·simp only [U131, seval, bA]
 rintro i ⟨hi, hu⟩
 cases i with
 | zero =>
  have d : decide ((0 : Int) < ((0 : Nat) : Int)) = false := by decide
  simp only [U131, d, seval, bA]
  exact ⟨_, rfl, isR (by rw [← hu]; rfl)⟩
 | succ i =>
  have d : decide ((0 : Int) < ((i + 1 : Nat) : Int)) = true := decide_eq_true (by omega)
  have d' : decide (i + 1 < ks.length) = true := decide_eq_true hi
  have hld := ldK hA (i := i + 1) (x := nodeV h ks[i + 1]) (by simp [hi])
  have hx := hk ks[i + 1] (List.getElem_mem hi)
  have w1 : IntKind.i64.wrap (((i + 1 : Nat) : Int) - 1) = (i : Int) := by rw [wrapI (by omega) (by omega)]; omega
  simp only [U131, d, d', hb, ldB1, hld, nodeV, seval, bA]
  refine callJ (mF h) (first_r h hx.1 hx.2) ?_
  rw [undF, keyK_at hi] at hu
  by_cases hc : x < keyX ks[i + 1].l
  ·have dc : decide (x < keyX ks[i + 1].l) = true := decide_eq_true hc
   simp only [U131, d, d', hb, ldB1, hld, nodeV, dc, w1, seval, bA]
   rw [if_pos hc] at hu
   exact ⟨i, rfl, ⟨by omega, hu⟩, by omega⟩
  ·have dc : decide (x < keyX ks[i + 1].l) = false := decide_eq_false hc
   simp only [U131, d, d', hb, ldB1, hld, nodeV, dc, w1, seval, bA]
   rw [if_neg hc] at hu
   exact ⟨_, rfl, isR (by rw [← hu])⟩
end Go.Proofs.YtdgpiobmncohjaaGreatDoor.Aw
namespace Go.Proofs.YtdgpiobmncohjaaGreatDoor.Aw.Ar
open Go.RowKit
theorem quo2E (n : Nat) : binI .quo .i64 (n : Int) 2 = some (.int .i64 ((n / 2 : Nat) : Int)) ∨ 9223372036854775807 < n := by
 by_cases h : n ≤ 9223372036854775807
 ·refine .inl ?_
  have e : (n : Int).tdiv 2 = ((n / 2 : Nat) : Int) := by rw [Int.tdiv_eq_ediv_of_nonneg (by omega)]; omega
  simp only [binI, e]
  rw [if_neg (by omega), wrapI (by omega) (by omega)]
 ·exact .inr (by omega)
theorem splitE {ob : List AObj} {o off n c : Nat} {xs : List PV} (hA : Arr ob 4 o off n c xs) (h2 : 2 ≤ n) (hn : n ≤ 16777216) (hc : c ≤ 9223372036854775807) :
  ICall Tryz.prog 165 [.asl o off n c] ob fun r ob' => ∃ q c', r = .tup [.asl o off (n / 2) (n / 2), .asl q 0 (n - n / 2) c'] ∧ Arr ob' 4 o off (n / 2) (n / 2) (xs.take (n / 2 * 4)) ∧ Arr ob' 4 q 0 (n - n / 2) c' (xs.drop (n / 2 * 4)) ∧ ob.length ≤ q ∧ c' ≤ 9223372036854775807 ∧ Same ob ob' (fun _ => False) := by
 refine icall_dr Tryz.func165 E165.h ?_
 have hq := (quo2E n).resolve_right (by omega)
 have hnc : n ≤ c := by obtain ⟨_, _, h, _⟩ := hA; exact h
 generalize hk : n / 2 = k at *
 have s1 : aslB 4 o off n c (some 0) (some (k : Int)) (some (k : Int)) = some (.asl o off k k) := aslB_z (by omega)
 have s2 : aslB 4 o off n c (some (k : Int)) (some (n : Int)) (some (c : Int)) = some (.asl o (off + k * 4) (n - k) (c - k)) := aslB_n (by omega)
 simp only [U165, hq, s1, s2, seval, bA]
 have hl := hA.slice (a := 0) (b := k) (m := k) (by omega) (by omega) (Nat.le_refl _) (by omega)
 have hr := hA.slice (a := k) (b := n) (m := c) (by omega) (Nat.le_refl _) (by omega) (Nat.le_refl _)
 refine callM (cloneE hr (by omega)) ?_
 rintro r ob' ⟨q, c', rfl, hX, hq1, hc1, hS⟩
 simp only [U165, hq, s1, s2, seval, bA]
 refine ⟨_, rfl, q, c', rfl, ?_, ?_, hq1, hc1, hS⟩
 ·have := hS.arr hl (fun h => h)
  simpa using this
 ·rw [List.take_of_length_le (by rw [hA.len]; omega)] at hX; exact hX
theorem cutE {ob : List AObj} {o1 off1 n1 c1 o2 off2 n2 c2 k : Nat} {xs ys : List PV} (hA : Arr ob 4 o1 off1 n1 c1 xs) (hB : Arr ob 4 o2 off2 n2 c2 ys) (h0 : 0 < n1 + n2) (hk : k ≤ n1 + n2) (hn : n1 + n2 ≤ 16777216) :
  ICall Tryz.prog 191 [.asl o1 off1 n1 c1, .asl o2 off2 n2 c2, .int .i64 (k : Int)] ob fun r ob' => ∃ q1 d1 q2 d2, r = .tup [.asl q1 0 k d1, .asl q2 0 (n1 + n2 - k) d2] ∧ Arr ob' 4 q1 0 k d1 ((xs ++ ys).take (k * 4)) ∧ Arr ob' 4 q2 0 (n1 + n2 - k) d2 ((xs ++ ys).drop (k * 4)) ∧
   ob.length ≤ q1 ∧ ob.length ≤ q2 ∧ q1 ≠ q2 ∧ d1 ≤ 9223372036854775807 ∧ d2 ≤ 9223372036854775807 ∧ Same ob ob' (fun _ => False) := by
 refine icall_dr Tryz.func191 E191.h ?_
 simp only [U191, List.replicate_succ, List.replicate_zero, List.set_cons_zero, List.set_cons_succ, seval, bA]
 have hS0 : Same ob (ob ++ [AObj.box [.asl o1 off1 n1 c1, .asl o2 off2 n2 c2]]) (fun _ => False) := Same.app _ _ _
 have hg : (ob ++ [AObj.box [.asl o1 off1 n1 c1, .asl o2 off2 n2 c2]])[ob.length]? = some (.box [.asl o1 off1 n1 c1, .asl o2 off2 n2 c2]) := by rw [List.getElem?_append_right (Nat.le_refl _), Nat.sub_self]; rfl
 generalize ob ++ [AObj.box [.asl o1 off1 n1 c1, .asl o2 off2 n2 c2]] = ob1 at *
 refine callM (concatE hg (hS0.arr hA (fun h => h)) (hS0.arr hB (fun h => h)) h0 hn) ?_
 rintro r ob2 ⟨q, cc, rfl, hX, hq1, hc1, hS1⟩
 have hnc : n1 + n2 ≤ cc := by obtain ⟨_, _, h, _⟩ := hX; exact h
 have s1 : aslB 4 q 0 (n1 + n2) cc (some 0) (some (k : Int)) (some (cc : Int)) = some (.asl q 0 k cc) := aslB_z (by omega)
 have s2 : aslB 4 q 0 (n1 + n2) cc (some (k : Int)) (some ((n1 + n2 : Nat) : Int)) (some (cc : Int)) = some (.asl q (0 + k * 4) (n1 + n2 - k) (cc - k)) := aslB_n (by omega)
 simp only [U191, s1, s2, seval, bA]
 have hl := hX.slice (a := 0) (b := k) (m := cc) (by omega) hk (by omega) (Nat.le_refl _)
 have hr := hX.slice (a := k) (b := n1 + n2) (m := cc) hk (Nat.le_refl _) (by omega) (Nat.le_refl _)
 simp only [Nat.zero_mul, Nat.add_zero, Nat.sub_zero, List.drop_zero] at hl
 refine callM (cloneE hl (by omega)) ?_
 rintro r ob3 ⟨q1, d1, rfl, hY, hq2, hd1, hS2⟩
 simp only [U191, s1, s2, seval, bA]
 (try rw [Nat.zero_add]); (try rw [Nat.zero_add] at hr)
 refine callM (cloneE (hS2.arr hr (fun h => h)) (by omega)) ?_
 rintro r ob4 ⟨q2, d2, rfl, hZ, hq3, hd2, hS3⟩
 simp only [U191, s1, s2, seval, bA]
 have hlt := hY.lt
 have l1 := hS0.1
 have l2 := hS1.1
 have l3 := hS2.1
 refine ⟨_, rfl, q1, d1, q2, d2, rfl, hS3.arr hY (fun h => h), ?_, by omega, by omega, by omega, hd1, hd2, ((hS0.trans hS1).trans hS2).trans hS3⟩
 rw [List.take_of_length_le (by rw [hX.len]; exact Nat.le_refl _)] at hZ
 exact hZ
theorem quo2N (n : Nat) : binI .quo .i64 (n : Int) 2 = some (.int .i64 ((n / 2 : Nat) : Int)) ∨ 9223372036854775807 < n := by
 by_cases h : n ≤ 9223372036854775807
 ·refine .inl ?_
  have e : (n : Int).tdiv 2 = ((n / 2 : Nat) : Int) := by rw [Int.tdiv_eq_ediv_of_nonneg (by omega)]; omega
  simp only [binI, e]
  rw [if_neg (by omega), wrapI (by omega) (by omega)]
 ·exact .inr (by omega)
theorem splitN {ob : List AObj} {o off n c : Nat} {xs : List PV} (hA : Arr ob 1 o off n c xs) (h2 : 2 ≤ n) (hn : n ≤ 16777216) (hc : c ≤ 9223372036854775807) :
  ICall Tryz.prog 167 [.asl o off n c] ob fun r ob' => ∃ q c', r = .tup [.asl o off (n / 2) (n / 2), .asl q 0 (n - n / 2) c'] ∧ Arr ob' 1 o off (n / 2) (n / 2) (xs.take (n / 2 * 1)) ∧ Arr ob' 1 q 0 (n - n / 2) c' (xs.drop (n / 2 * 1)) ∧ ob.length ≤ q ∧ c' ≤ 9223372036854775807 ∧ Same ob ob' (fun _ => False) := by
 refine icall_dr Tryz.func167 E167.h ?_
 have hq := (quo2N n).resolve_right (by omega)
 have hnc : n ≤ c := by obtain ⟨_, _, h, _⟩ := hA; exact h
 generalize hk : n / 2 = k at *
 have s1 : aslB 1 o off n c (some 0) (some (k : Int)) (some (k : Int)) = some (.asl o off k k) := aslB_z (by omega)
 have s2 : aslB 1 o off n c (some (k : Int)) (some (n : Int)) (some (c : Int)) = some (.asl o (off + k * 1) (n - k) (c - k)) := aslB_n (by omega)
 simp only [U167, hq, s1, s2, seval, bA]
 have hl := hA.slice (a := 0) (b := k) (m := k) (by omega) (by omega) (Nat.le_refl _) (by omega)
 have hr := hA.slice (a := k) (b := n) (m := c) (by omega) (Nat.le_refl _) (by omega) (Nat.le_refl _)
 refine callM (cloneN hr (by omega)) ?_
 rintro r ob' ⟨q, c', rfl, hX, hq1, hc1, hS⟩
 simp only [U167, hq, s1, s2, seval, bA]
 refine ⟨_, rfl, q, c', rfl, ?_, ?_, hq1, hc1, hS⟩
 ·have := hS.arr hl (fun h => h)
  simpa using this
 ·rw [List.take_of_length_le (by rw [hA.len]; omega)] at hX; exact hX
theorem cutN {ob : List AObj} {o1 off1 n1 c1 o2 off2 n2 c2 k : Nat} {xs ys : List PV} (hA : Arr ob 1 o1 off1 n1 c1 xs) (hB : Arr ob 1 o2 off2 n2 c2 ys) (h0 : 0 < n1 + n2) (hk : k ≤ n1 + n2) (hn : n1 + n2 ≤ 16777216) :
  ICall Tryz.prog 192 [.asl o1 off1 n1 c1, .asl o2 off2 n2 c2, .int .i64 (k : Int)] ob fun r ob' => ∃ q1 d1 q2 d2, r = .tup [.asl q1 0 k d1, .asl q2 0 (n1 + n2 - k) d2] ∧ Arr ob' 1 q1 0 k d1 ((xs ++ ys).take (k * 1)) ∧ Arr ob' 1 q2 0 (n1 + n2 - k) d2 ((xs ++ ys).drop (k * 1)) ∧
   ob.length ≤ q1 ∧ ob.length ≤ q2 ∧ q1 ≠ q2 ∧ d1 ≤ 9223372036854775807 ∧ d2 ≤ 9223372036854775807 ∧ Same ob ob' (fun _ => False) := by
 refine icall_dr Tryz.func192 E192.h ?_
 simp only [U192, List.replicate_succ, List.replicate_zero, List.set_cons_zero, List.set_cons_succ, seval, bA]
 have hS0 : Same ob (ob ++ [AObj.box [.asl o1 off1 n1 c1, .asl o2 off2 n2 c2]]) (fun _ => False) := Same.app _ _ _
 have hg : (ob ++ [AObj.box [.asl o1 off1 n1 c1, .asl o2 off2 n2 c2]])[ob.length]? = some (.box [.asl o1 off1 n1 c1, .asl o2 off2 n2 c2]) := by rw [List.getElem?_append_right (Nat.le_refl _), Nat.sub_self]; rfl
 generalize ob ++ [AObj.box [.asl o1 off1 n1 c1, .asl o2 off2 n2 c2]] = ob1 at *
 refine callM (concatN hg (hS0.arr hA (fun h => h)) (hS0.arr hB (fun h => h)) h0 hn) ?_
 rintro r ob2 ⟨q, cc, rfl, hX, hq1, hc1, hS1⟩
 have hnc : n1 + n2 ≤ cc := by obtain ⟨_, _, h, _⟩ := hX; exact h
 have s1 : aslB 1 q 0 (n1 + n2) cc (some 0) (some (k : Int)) (some (cc : Int)) = some (.asl q 0 k cc) := aslB_z (by omega)
 have s2 : aslB 1 q 0 (n1 + n2) cc (some (k : Int)) (some ((n1 + n2 : Nat) : Int)) (some (cc : Int)) = some (.asl q (0 + k * 1) (n1 + n2 - k) (cc - k)) := aslB_n (by omega)
 simp only [U192, s1, s2, seval, bA]
 have hl := hX.slice (a := 0) (b := k) (m := cc) (by omega) hk (by omega) (Nat.le_refl _)
 have hr := hX.slice (a := k) (b := n1 + n2) (m := cc) hk (Nat.le_refl _) (by omega) (Nat.le_refl _)
 simp only [Nat.zero_mul, Nat.add_zero, Nat.sub_zero, List.drop_zero] at hl
 refine callM (cloneN hl (by omega)) ?_
 rintro r ob3 ⟨q1, d1, rfl, hY, hq2, hd1, hS2⟩
 simp only [U192, s1, s2, seval, bA]
 (try rw [Nat.zero_add]); (try rw [Nat.zero_add] at hr)
 refine callM (cloneN (hS2.arr hr (fun h => h)) (by omega)) ?_
 rintro r ob4 ⟨q2, d2, rfl, hZ, hq3, hd2, hS3⟩
 simp only [U192, s1, s2, seval, bA]
 have hlt := hY.lt
 have l1 := hS0.1
 have l2 := hS1.1
 have l3 := hS2.1
 refine ⟨_, rfl, q1, d1, q2, d2, rfl, hS3.arr hY (fun h => h), ?_, by omega, by omega, by omega, hd1, hd2, ((hS0.trans hS1).trans hS2).trans hS3⟩
 rw [List.take_of_length_le (by rw [hX.len]; exact Nat.le_refl _)] at hZ
 exact hZ
end Go.Proofs.YtdgpiobmncohjaaGreatDoor.Aw.Ar
namespace Go.Proofs.YtdgpiobmncohjaaGreatDoor.Aw
open Go.RowKit Ar
def insX (e : Xt) (l : List Xt) : List Xt := l.take (posX e.fr l) ++ e :: l.drop (posX e.fr l)
theorem posX_le (k : Int) : ∀ (l : List Xt), posX k l ≤ l.length
 | [] => Nat.le_refl _
 | e :: l => by
  have := posX_le k l
  simp only [posX, List.takeWhile_cons] at this ⊢
  split
  ·simp only [List.length_cons]; omega
  ·simp
theorem insX_len (e : Xt) (l : List Xt) : (insX e l).length = l.length + 1 := by
 have := posX_le e.fr l
 simp only [insX, List.length_append, List.length_cons, List.length_take, List.length_drop]; omega
def Sub (ob : List AObj) (fp fp' : List Nat) : Prop := ∀ i ∈ fp', i ∈ fp ∨ ob.length ≤ i
structure InsR [Fr] (ob : List AObj) (h : Nat) (k : Kd) (e : Xt) (r : PV) (ob' : List AObj) : Prop where
 ex : ∃ k', Node ob' h k' ∧ k'.p = k.p ∧ Same ob ob' (· ∈ k.fp) ∧
  ((r = .nili ∧ k'.l = insX e k.l ∧ k.s ≤ k'.s ∧ k'.s ≤ 8 ∧ Sub ob k.fp k'.fp) ∨
   ∃ k2, r = nodeV h k2 ∧ Node ob' h k2 ∧ k'.l ++ k2.l = insX e k.l ∧ k'.s = 4 ∧ k2.s = 5 ∧ Sub ob k.fp (k'.fp ++ k2.fp) ∧ (k'.fp ++ k2.fp).Nodup)
theorem XL_ins (e : Xt) (l : List Xt) (i : Nat) : (XL l).take (i * 4) ++ (rowE e ++ (XL l).drop (i * 4)) = XL (l.take i ++ e :: l.drop i) := by
 rw [XL_take, XL_drop, XL_app, show e :: l.drop i = [e] ++ l.drop i from rfl, XL_app, XL_one]
theorem setS {ob : List AObj} {p : Nat} (h : p < ob.length) (x : AObj) : (ob.set p x)[p]? = some x := List.getElem?_set_self h
theorem setO {ob : List AObj} {p q : Nat} {x y : AObj} (h : p ≠ q) (hq : ob[q]? = some y) : (ob.set p x)[q]? = some y := by rw [List.getElem?_set_ne h]; exact hq
theorem app0 (ob : List AObj) (x : AObj) : (ob ++ [x])[ob.length]? = some x := by rw [List.getElem?_append_right (Nat.le_refl _), Nat.sub_self]; rfl
theorem app1 {ob : List AObj} {q : Nat} {y : AObj} (hq : ob[q]? = some y) (l : List AObj) : (ob ++ l)[q]? = some y := by rw [List.getElem?_append_left (List.getElem?_eq_some_iff.1 hq).1]; exact hq
theorem setA (ob : List AObj) (x y : AObj) : (ob ++ [x]).set ob.length y = ob ++ [y] := by rw [List.set_append_right _ _ (Nat.le_refl _), Nat.sub_self]; rfl
theorem insert_leaf [Fr] {ob : List AObj} {k : Kd} {e : Xt} (hN : Node ob 0 k) (h8 : k.s ≤ 8) (hs : SortX k.l) (hb : BdX k.l) (he : 0 ≤ e.fr ∧ e.fr ≤ 16777216) :
  ICall Tryz.prog 130 [nodeV 0 k, pE e] ob (InsR ob 0 k e) := by
 obtain ⟨q, off, c, hL⟩ := hN
 obtain ⟨a, hbx, whbx⟩ := hL.bx
 have hA := hL.ar
 have hsz := hL.sz
 have hnd := hL.nd
 rw [hL.fp] at hnd
 have hpq : k.p ≠ q := by simpa using hnd
 have hp := (List.getElem?_eq_some_iff.1 hbx).1
 have hq := hA.lt
 rw [nodeV_0]
 refine icall_dr Tryz.func130 E130.h ?_
 simp only [U130, rowE, seval, bA]
 refine callX (mW 0) (callM (where_i 0 k.p) ?_)
 rintro r ob' ⟨rfl, rfl⟩
 have f0 := app1 hbx [AObj.box (rowE e)]
 have f1 := app0 ob (AObj.box (rowE e))
 have hS0 : Same ob (ob ++ [AObj.box (rowE e)]) (· ∈ k.fp) := Same.app _ _ _
 have hA0 := (Same.app ob [AObj.box (rowE e)] (fun _ => False)).arr hA (fun h => h)
 have hl0 : (ob ++ [AObj.box (rowE e)]).length = ob.length + 1 := by simp
 simp only [rowE] at f0 f1 hS0 hA0 hl0
 generalize ob ++ [AObj.box [.int .i64 e.fr, .int .i64 e.n, .int .i64 e.kd, .int .i64 e.at_]] = ob1 at *
 have g1 := setS (ob := ob1) (p := k.p) (by omega)
 have g2 : ∀ x, (ob1.set k.p x)[ob.length]? = _ := fun x => setO (x := x) (by omega) f1
 simp only [U130, rowE, f0, g1, g2, ldB1, seval, bA]
 have hS1 : Same ob (ob1.set k.p (AObj.box [.int .i64 (-1), .asl q off k.s c])) (· ∈ k.fp) := hS0.trans (Same.set (by rw [hL.fp]; simp))
 have hA1 := (Same.set (ob := ob1) (a := AObj.box [.int .i64 (-1), .asl q off k.s c]) (T := (· = k.p)) rfl).arr hA0 (Ne.symm hpq)
 have f2 := g1 (AObj.box [.int .i64 (-1), .asl q off k.s c])
 have f3 := g2 (AObj.box [.int .i64 (-1), .asl q off k.s c])
 have hl1 : (ob1.set k.p (AObj.box [.int .i64 (-1), .asl q off k.s c])).length = ob.length + 1 := by rw [List.length_set, hl0]
 generalize ob1.set k.p (AObj.box [.int .i64 (-1), .asl q off k.s c]) = ob2 at *
 rw [hsz] at hA1
 obtain ⟨t, hbs⟩ := bsA hA1 hs hb he (by omega)
 rw [← hsz] at hbs
 refine callR hbs ?_
 have g3 : ∀ x, (ob2 ++ [x])[k.p]? = _ := fun x => app1 f2 [x]
 have g4 : ∀ x, (ob2 ++ [x])[ob.length]? = _ := fun x => app1 f3 [x]
 have g5 := setA ob2
 have g6 := app0 ob2
 have hl2 : ob2.length = ob.length + 1 := hl1
 have n1 : (k.p == ob2.length) = false := by simp; omega
 have n2 : (ob.length == ob2.length) = false := by simp; omega
 have n3 : (ob2 ++ [AObj.none]).length = ob2.length + 1 := by simp
 simp only [U130, rowE, f2, f3, g3, g4, g5, g6, ldB1, n1, n2, List.replicate_succ, List.replicate_zero, List.set_cons_zero, seval, bA]
 have hS2 : Same ob (ob2 ++ [AObj.box (rowE e)]) (· ∈ k.fp) := hS1.trans (Same.app _ _ _)
 have hA2 := (Same.app ob2 [AObj.box (rowE e)] (fun _ => False)).arr hA1 (fun h => h)
 have hq2 : Arr (ob2 ++ [AObj.box (rowE e)]) 4 ob2.length 0 1 1 (rowE e) := ⟨rowE e, app0 _ _, Nat.le_refl _, by rw [rowE_len]; omega, by rw [List.drop_zero, List.take_of_length_le (by rw [rowE_len]; omega)]⟩
 have f4 := app1 f2 [AObj.box (rowE e)]
 have hl3 : (ob2 ++ [AObj.box (rowE e)]).length = ob.length + 2 := by rw [List.length_append, hl1]; rfl
 rw [hl1] at hq2
 rw [hl1]
 simp only [rowE] at hS2 hA2 hq2 f4 hl3
 generalize ob2 ++ [AObj.box [.int .i64 e.fr, .int .i64 e.n, .int .i64 e.kd, .int .i64 e.at_]] = ob3 at *
 have hpl : posX e.fr k.l ≤ k.s := by rw [hsz]; exact posX_le _ _
 refine callM (insE (by rw [← hsz] at hA2; exact hA2) hq2 (by omega) hpl (by omega) hL.cb) ?_
 rintro r ob4 ⟨q', off', c', rfl, hX, hq', hS3, hcb⟩
 have hX' : Arr ob4 4 q' off' (k.s + 1) c' (XL (insX e k.l)) := by
  have := XL_ins e k.l (posX e.fr k.l)
  simp only [rowE] at this hX
  rw [this] at hX; exact hX
 have hpq' : k.p ≠ q' := by rcases hq' with rfl | h <;> omega
 have f5 : ob4[k.p]? = _ := hS3.get f4 hpq'
 have hp4 : k.p < ob4.length := (List.getElem?_eq_some_iff.1 f5).1
 have hS4 : Same ob ob4 (· ∈ k.fp) := by
  have l3 := hS2.1
  refine ⟨Nat.le_trans l3 hS3.1, fun j hj hT => ?_⟩
  refine (hS3.2 j (by omega) ?_).trans (hS2.2 j hj hT)
  rintro rfl
  rcases hq' with rfl | h
  ·exact hT (by rw [hL.fp]; simp)
  ·omega
 have hs4 : Sub ob k.fp [q'] := by
  intro j hj
  simp only [List.mem_singleton] at hj
  subst hj
  rcases hq' with rfl | h
  ·exact .inl (by rw [hL.fp]; simp)
  ·exact .inr (by omega)
 have hs5 : Sub ob k.fp [k.p] := by intro j hj; simp only [List.mem_singleton] at hj; subst hj; exact .inl (by rw [hL.fp]; simp)
 have g7 := setS hp4
 have hX5 := (Same.set (ob := ob4) (a := AObj.box [.int .i64 (-1), .asl q' off' (k.s + 1) c']) (T := (· = k.p)) rfl).arr hX' (Ne.symm hpq')
 have hS5 : Same ob (ob4.set k.p (AObj.box [.int .i64 (-1), .asl q' off' (k.s + 1) c'])) (· ∈ k.fp) := hS4.trans (Same.set (by rw [hL.fp]; simp))
 by_cases h9 : 8 < k.s + 1
 ·have d9 : decide ((8 : Int) < ((k.s + 1 : Nat) : Int)) = true := decide_eq_true (by omega)
  have h88 : k.s = 8 := by omega
  simp only [U130, f5, g7, ldB1, d9, seval, bA]
  have f6 := g7 (AObj.box [.int .i64 (-1), .asl q' off' (k.s + 1) c'])
  have hl5 : (ob4.set k.p (AObj.box [.int .i64 (-1), .asl q' off' (k.s + 1) c'])).length = ob4.length := by rw [List.length_set]
  generalize ob4.set k.p (AObj.box [.int .i64 (-1), .asl q' off' (k.s + 1) c']) = ob5 at *
  have f7 := app0 ob5
  have g8 : ∀ x, (ob5 ++ [x])[k.p]? = _ := fun x => app1 f6 [x]
  simp only [U130, f7, g8, ldB1, seval, bA]
  have hX6 := (Same.app ob5 [AObj.box [.int .i64 (-1), .slc []]] (fun _ => False)).arr hX5 (fun h => h)
  have hS6 : Same ob (ob5 ++ [AObj.box [.int .i64 (-1), .slc []]]) (· ∈ k.fp) := hS5.trans (Same.app _ _ _)
  have f8 := f7 (AObj.box [.int .i64 (-1), .slc []])
  rw [hl5] at f8
  have f9 := g8 (AObj.box [.int .i64 (-1), .slc []])
  generalize ob5 ++ [AObj.box [.int .i64 (-1), .slc []]] = ob6 at *
  refine callM (splitE hX6 (by omega) (by omega) hcb) ?_
  rintro r ob7 ⟨q2, c2, rfl, hY, hZ, hq2, hc2, hS7⟩
  have e1 : (k.s + 1) / 2 = 4 := by omega
  have e2 : k.s + 1 - 4 = 5 := by omega
  rw [e1] at hY hZ
  rw [e2] at hZ
  have hS7' : Same ob ob7 (· ∈ k.fp) := hS6.trans (hS7.mono fun j h => h.elim)
  have f10 := hS7.get f9 (fun h => h)
  have f11 := hS7.get f8 (fun h => h)
  have l6 := hS7.1
  have l5 : ob4.length < ob6.length := (List.getElem?_eq_some_iff.1 f8).1
  have hp7 : k.p < ob7.length := (List.getElem?_eq_some_iff.1 f10).1
  have g9 := setS hp7
  have hne : k.p ≠ ob4.length := by omega
  have g10 : ∀ x, (ob7.set k.p x)[ob4.length]? = _ := fun x => setO (x := x) hne f11
  simp only [U130, f10, f11, g9, g10, ldB1, e1, e2, seval, bA]
  have hY1 := (Same.set (ob := ob7) (a := AObj.box [.int .i64 (-1), .asl q' off' 4 4]) (T := (· = k.p)) rfl).arr hY (Ne.symm hpq')
  have hpq2 : k.p ≠ q2 := by omega
  have hZ1 := (Same.set (ob := ob7) (a := AObj.box [.int .i64 (-1), .asl q' off' 4 4]) (T := (· = k.p)) rfl).arr hZ (Ne.symm hpq2)
  have hS8 : Same ob (ob7.set k.p (AObj.box [.int .i64 (-1), .asl q' off' 4 4])) (· ∈ k.fp) := hS7'.trans (Same.set (by rw [hL.fp]; simp))
  have f12 := g9 (AObj.box [.int .i64 (-1), .asl q' off' 4 4])
  have hl8 : (ob7.set k.p (AObj.box [.int .i64 (-1), .asl q' off' 4 4])).length = ob7.length := by rw [List.length_set]
  generalize ob7.set k.p (AObj.box [.int .i64 (-1), .asl q' off' 4 4]) = ob8 at *
  have hq'5 : q' ≠ ob4.length := by have := hX5.lt; omega
  have hq25 : q2 ≠ ob4.length := by omega
  have hr8 : ob4.length < ob8.length := by omega
  have g11 := setS hr8 (AObj.box [.int .i64 (-1), .asl q2 0 5 c2])
  have f13 := setO (x := AObj.box [.int .i64 (-1), .asl q2 0 5 c2]) (Ne.symm hne) f12
  have hY2 := (Same.set (ob := ob8) (a := AObj.box [.int .i64 (-1), .asl q2 0 5 c2]) (T := (· = ob4.length)) rfl).arr hY1 hq'5
  have hZ2 := (Same.set (ob := ob8) (a := AObj.box [.int .i64 (-1), .asl q2 0 5 c2]) (T := (· = ob4.length)) rfl).arr hZ1 hq25
  have l3 := hS3.1
  have hlen5 : ob.length ≤ ob4.length := by omega
  have hS9 : Same ob (ob8.set ob4.length (AObj.box [.int .i64 (-1), .asl q2 0 5 c2])) (· ∈ k.fp) :=
   ⟨by rw [List.length_set]; omega, fun j hj hT => by rw [List.getElem?_set_ne (by omega)]; exact hS8.2 j hj hT⟩
  have hil : (insX e k.l).length = 9 := by rw [insX_len]; omega
  rw [XL_take] at hY2
  rw [XL_drop] at hZ2
  refine ⟨_, rfl, ⟨⟨k.p, (insX e k.l).take 4, 4, [k.p, q']⟩, ?_, rfl, hS9, .inr ⟨⟨ob4.length, (insX e k.l).drop 4, 5, [ob4.length, q2]⟩, rfl, ?_, List.take_append_drop _ _, rfl, rfl, ?_, ?_⟩⟩⟩
  ·exact ⟨q', off', 4, ⟨rfl, by simpa using hpq', by simp only [List.length_take, hil]; omega, ⟨-1, f13, Fr.fresh _ _ _⟩, hY2, by omega⟩⟩
  ·exact ⟨q2, 0, c2, ⟨rfl, by simpa using Ne.symm hq25, by simp only [List.length_drop, hil], ⟨-1, g11, Fr.fresh _ _ _⟩, hZ2, hc2⟩⟩
  ·intro j hj
   simp only [List.mem_append, List.mem_cons, List.not_mem_nil, or_false] at hj
   rcases hj with (rfl | rfl) | (rfl | rfl)
   ·exact hs5 _ (by simp)
   ·exact hs4 _ (by simp)
   ·exact .inr hlen5
   ·exact .inr (by omega)
  ·have hq'2 : q' ≠ q2 := by have := hX6.lt; omega
   simp only [List.cons_append, List.nil_append, List.nodup_cons, List.mem_cons, List.not_mem_nil, or_false, not_or, List.nodup_nil, and_true, not_false_eq_true]
   exact ⟨⟨hpq', hne, hpq2⟩, ⟨hq'5, hq'2⟩, Ne.symm hq25⟩
 ·have d9 : decide ((8 : Int) < ((k.s + 1 : Nat) : Int)) = false := decide_eq_false (by omega)
  simp only [U130, f5, g7, ldB1, d9, seval, bA]
  refine ⟨_, rfl, ⟨⟨k.p, insX e k.l, k.s + 1, [k.p, q']⟩, ?_, rfl, hS5, .inl ⟨rfl, rfl, by simp, by simp; omega, ?_⟩⟩⟩
  ·refine ⟨q', off', c', ⟨rfl, by simpa using hpq', by simp only [insX_len]; omega, ⟨-1, g7 _, Fr.fresh _ _ _⟩, hX5, hcb⟩⟩
  ·intro j hj
   rcases List.mem_cons.1 hj with rfl | hj
   ·exact hs5 _ (by simp)
   ·exact hs4 j hj
open Go.RowKit Ar
theorem posX_front {k : Int} : ∀ {A : List Xt} {L : List Xt}, (∀ x ∈ A, x.fr < k) → posX k (A ++ L) = A.length + posX k L
 | [], L, _ => by simp
 | a :: A, L, h => by
  have ha := h a (by simp)
  have ih := posX_front (A := A) (L := L) fun x hx => h x (by simp [hx])
  simp only [posX] at ih ⊢
  simp only [List.cons_append, List.takeWhile_cons, decide_eq_true ha, if_true, List.length_cons, ih]
  omega
theorem posX_back {k : Int} : ∀ {B : List Xt} {C : List Xt}, (∀ x ∈ C, k ≤ x.fr) → posX k (B ++ C) = posX k B
 | [], C, h => by
  cases C with
  | nil => rfl
  | cons c C =>
   have := h c (by simp)
   have hd : decide (c.fr < k) = false := decide_eq_false (by omega)
   simp [posX, List.takeWhile_cons, hd]
 | b :: B, C, h => by
  have ih := posX_back (B := B) (C := C) h
  simp only [posX] at ih ⊢
  simp only [List.cons_append, List.takeWhile_cons]
  split
  ·simp only [List.length_cons, ih]
  ·rfl
theorem insX_mid {e : Xt} {A B C : List Xt} (hA : ∀ x ∈ A, x.fr < e.fr) (hC : ∀ x ∈ C, e.fr ≤ x.fr) : insX e (A ++ (B ++ C)) = A ++ (insX e B ++ C) := by
 have hp : posX e.fr (A ++ (B ++ C)) = A.length + posX e.fr B := by rw [posX_front hA, posX_back hC]
 have hle := posX_le e.fr B
 unfold insX
 rw [hp, List.take_length_add_append, List.drop_length_add_append, List.take_append_of_le_length hle, List.drop_append_of_le_length hle]
 simp
theorem nodup_swap {P X X' Q : List Nat} {n : Nat} (h : (P ++ (X ++ Q)).Nodup) (hlt : ∀ i ∈ P ++ (X ++ Q), i < n) (hX : X'.Nodup) (hs : ∀ i ∈ X', i ∈ X ∨ n ≤ i) : (P ++ (X' ++ Q)).Nodup := by
 rw [List.nodup_append, List.nodup_append] at h ⊢
 obtain ⟨h1, ⟨h2, h3, h4⟩, h5⟩ := h
 refine ⟨h1, ⟨hX, h3, fun a ha b hb => ?_⟩, fun a ha b hb => ?_⟩
 ·rcases hs a ha with h | h
  ·exact h4 a h b hb
  ·have := hlt b (by simp [hb]); omega
 ·rcases List.mem_append.1 hb with hb | hb
  ·rcases hs b hb with h | h
   ·exact h5 a ha b (by simp [h])
   ·have := hlt a (by simp [ha]); omega
  ·exact h5 a ha b (by simp [hb])
structure About (ks : List Kd) (v : Int) (i : Nat) (A : List Kd) (x : Kd) (B : List Kd) : Prop where
 eq : ks = A ++ x :: B
 len : A.length = i
 lo : ∀ y ∈ A.flatMap (·.l), y.fr < v
 hi : ∀ y ∈ B.flatMap (·.l), v < y.fr
theorem keyX_le {l : List Xt} (hs : SortX l) : ∀ y ∈ l, keyX l ≤ y.fr := by
 intro y hy
 cases l with
 | nil => cases hy
 | cons a l =>
  rcases List.mem_cons.1 hy with rfl | hy
  ·exact Int.le_refl _
  ·exact Int.le_of_lt ((List.pairwise_cons.1 hs).1 y hy)
theorem keyX_mem {l : List Xt} (h : l ≠ []) : ∃ y ∈ l, y.fr = keyX l := by
 cases l with
 | nil => exact absurd rfl h
 | cons a l => exact ⟨a, by simp, rfl⟩
theorem about {ks : List Kd} (hs : SortX (ks.flatMap (·.l))) (hne : ∀ x ∈ ks, x.l ≠ []) (h0 : 0 < ks.length) (v : Int) :
  ∃ A x B, About ks v (undF (keyK ks) v (ks.length - 1)) A x B := by
 have hle := undF_le (keyK ks) v (ks.length - 1)
 have hat := undF_at (keyK ks) v (ks.length - 1)
 have hgt := undF_gt (keyK ks) v (ks.length - 1)
 generalize undF (keyK ks) v (ks.length - 1) = i at *
 have hi : i < ks.length := by omega
 have he : ks = ks.take i ++ ks[i] :: ks.drop (i + 1) := by rw [← List.drop_eq_getElem_cons hi, List.take_append_drop]
 have hs' := hs
 rw [he, List.flatMap_append, List.flatMap_cons] at hs'
 obtain ⟨s1, s2, s3⟩ := List.pairwise_append.1 hs'
 obtain ⟨s4, s5, s6⟩ := List.pairwise_append.1 s2
 refine ⟨ks.take i, ks[i], ks.drop (i + 1), he, by rw [List.length_take]; omega, fun y hy => ?_, fun y hy => ?_⟩
 ·rcases hat with h | h
  ·rw [h] at hy; simp at hy
  ·rw [keyK_at hi] at h
   obtain ⟨z, hz, hzk⟩ := keyX_mem (hne ks[i] (List.getElem_mem hi))
   have := s3 y hy z (by simp [hz])
   omega
 ·by_cases hi1 : i + 1 < ks.length
  ·have h := hgt (i + 1) (by omega) (by omega)
   rw [keyK_at hi1] at h
   rw [List.drop_eq_getElem_cons hi1, List.flatMap_cons] at hy s5
   obtain ⟨s7, s8, s9⟩ := List.pairwise_append.1 s5
   rcases List.mem_append.1 hy with hy | hy
   ·have := keyX_le s7 y hy; omega
   ·obtain ⟨z, hz, hzk⟩ := keyX_mem (hne ks[i + 1] (List.getElem_mem hi1))
    have := s9 z hz y hy
    omega
  ·rw [List.drop_eq_nil_of_le (by omega)] at hy
   simp at hy
theorem About.sort {ks : List Kd} {v : Int} {i : Nat} {A B : List Kd} {x : Kd} (h : About ks v i A x B) (hs : SortX (ks.flatMap (·.l))) : SortX x.l := by
 rw [h.eq, List.flatMap_append, List.flatMap_cons] at hs
 exact (List.pairwise_append.1 (List.pairwise_append.1 hs).2.1).1
theorem About.at {ks : List Kd} {v : Int} {i : Nat} {A B : List Kd} {x : Kd} (h : About ks v i A x B) : ks[i]? = some x := by
 rw [h.eq, List.getElem?_append_right (by rw [h.len]; exact Nat.le_refl _), h.len, Nat.sub_self]; rfl
theorem mkInner [Fr] {ob : List AObj} {h p q off c : Nat} {ks : List Kd} (hbx : ∃ at_ : Int, ob[p]? = some (.box [.int .i64 at_, .asl q off ks.length c]) ∧ Fr.W at_ (h + 1) (ks.flatMap (·.l)) ks.length) (har : Arr ob 1 q off ks.length c (ks.map (nodeV h))) (hc : c ≤ 9223372036854775807) (hnd : (p :: q :: ks.flatMap (·.fp)).Nodup) (hk : ∀ x ∈ ks, Node ob h x ∧ 4 ≤ x.s ∧ x.s ≤ 8) :
  Node ob (h + 1) ⟨p, ks.flatMap (·.l), ks.length, p :: q :: ks.flatMap (·.fp)⟩ := ⟨q, off, c, ks, ⟨rfl, hnd, rfl, rfl, hbx, har, hc⟩, hk⟩
structure Kids [Fr] (ob : List AObj) (h : Nat) (k : Kd) (q off c : Nat) (A : List Kd) (x : Kd) (B : List Kd) : Prop where
 fp : k.fp = k.p :: q :: (A.flatMap (·.fp) ++ (x.fp ++ B.flatMap (·.fp)))
 nd : k.fp.Nodup
 lt : ∀ i ∈ k.fp, i < ob.length
 pq : k.p ≠ q
 px : k.p ∉ x.fp
 qx : q ∉ x.fp
 oth : ∀ y, y ∈ A ∨ y ∈ B → Node ob h y ∧ 4 ≤ y.s ∧ y.s ≤ 8 ∧ ∀ i ∈ y.fp, i ∉ x.fp ∧ i ≠ k.p ∧ i ≠ q
 me : Node ob h x ∧ 4 ≤ x.s ∧ x.s ≤ 8
theorem kids_of [Fr] {ob : List AObj} {h : Nat} {k : Kd} {q off c : Nat} {ks A B : List Kd} {x : Kd} (hI : InnerAt ob h k q off c ks) (hk : ∀ x ∈ ks, Node ob h x ∧ 4 ≤ x.s ∧ x.s ≤ 8) (he : ks = A ++ x :: B) : Kids ob h k q off c A x B := by
 have hN : Node ob (h + 1) k := ⟨q, off, c, ks, hI, hk⟩
 have hfp : k.fp = k.p :: q :: (A.flatMap (·.fp) ++ (x.fp ++ B.flatMap (·.fp))) := by rw [hI.fp, he, List.flatMap_append, List.flatMap_cons]
 have hnd := hI.nd
 have hnd' := hnd
 rw [hfp] at hnd'
 simp only [List.nodup_cons, List.mem_cons, List.mem_append, not_or] at hnd'
 obtain ⟨⟨n1, n2, n3, n4⟩, ⟨n5, n6, n7⟩, n8⟩ := hnd'
 rw [List.nodup_append, List.nodup_append] at n8
 obtain ⟨m1, ⟨m2, m3, m4⟩, m5⟩ := n8
 refine ⟨hfp, hnd, hN.lt, n1, n3, n6, fun y hy => ?_, hk x (by rw [he]; simp)⟩
 have hyk : y ∈ ks := by rw [he]; rcases hy with h | h <;> simp [h]
 refine ⟨(hk y hyk).1, (hk y hyk).2.1, (hk y hyk).2.2, fun i hi => ?_⟩
 rcases hy with hy | hy
 ·have hm : i ∈ A.flatMap (·.fp) := List.mem_flatMap.2 ⟨y, hy, hi⟩
  exact ⟨fun hx => m5 i hm i (by simp [hx]) rfl, fun e => n2 (e ▸ hm), fun e => n5 (e ▸ hm)⟩
 ·have hm : i ∈ B.flatMap (·.fp) := List.mem_flatMap.2 ⟨y, hy, hi⟩
  exact ⟨fun hx => m4 i hx i hm rfl, fun e => n4 (e ▸ hm), fun e => n7 (e ▸ hm)⟩
end Go.Proofs.YtdgpiobmncohjaaGreatDoor.Aw
