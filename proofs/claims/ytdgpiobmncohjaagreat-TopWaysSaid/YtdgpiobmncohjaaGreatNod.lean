/-
  The tree's nodes, as they lie; their methods; under which kid a sector stands.; An extent put below a node.; An extent put below an inner node.; An extent put below an inner node: the walk.
-/
import Derived.Test.YtdgpiobmncohjaaGreatKdb
import Derived.Test.YtdgpiobmncohjaaGreatArs
import Derived.Test.YtdgpiobmncohjaaGreatArr
set_option linter.unusedSimpArgs false
set_option linter.unusedVariables false
set_option maxRecDepth 100000
namespace Go.Proofs.YtdgpiobmncohjaaGreat.Aw
open Go.RowKit Ar

/-- A node: where it lies, its extents, how many it holds itself, all that is its own. -/
structure Kd where
  p : Nat
  l : List Xt
  s : Nat
  fp : List Nat
def tyN : Nat → Nat
  | 0 => 135
  | _ + 1 => 138
def nodeV (h : Nat) (k : Kd) : PV := .ifc (tyN h) (.ref k.p 0)
theorem nodeV_0 (k : Kd) : nodeV 0 k = .ifc 135 (.ref k.p 0) := rfl
theorem nodeV_s (h : Nat) (k : Kd) : nodeV (h + 1) k = .ifc 138 (.ref k.p 0) := rfl

structure LeafAt (ob : List AObj) (k : Kd) (q off c : Nat) : Prop where
  fp : k.fp = [k.p, q]
  nd : k.fp.Nodup
  sz : k.s = k.l.length
  bx : ∃ at_ : Int, ob[k.p]? = some (.box [.int .i64 at_, .asl q off k.s c])
  ar : Arr ob 4 q off k.s c (XL k.l)
  cb : c ≤ 9223372036854775807
structure InnerAt (ob : List AObj) (h : Nat) (k : Kd) (q off c : Nat) (ks : List Kd) : Prop where
  fp : k.fp = k.p :: q :: ks.flatMap (·.fp)
  nd : k.fp.Nodup
  sz : k.s = ks.length
  fl : k.l = ks.flatMap (·.l)
  bx : ∃ at_ : Int, ob[k.p]? = some (.box [.int .i64 at_, .asl q off k.s c])
  ar : Arr ob 1 q off k.s c (ks.map (nodeV h))
  cb : c ≤ 9223372036854775807
/-- A node of a height. -/
def Node (ob : List AObj) : Nat → Kd → Prop
  | 0, k => ∃ q off c, LeafAt ob k q off c
  | h + 1, k => ∃ q off c ks, InnerAt ob h k q off c ks ∧ ∀ x ∈ ks, Node ob h x ∧ 4 ≤ x.s ∧ x.s ≤ 8

theorem Node.nd {ob : List AObj} {h : Nat} {k : Kd} (hN : Node ob h k) : k.fp.Nodup := by
  cases h with
  | zero => obtain ⟨q, off, c, h⟩ := hN; exact h.nd
  | succ h => obtain ⟨q, off, c, ks, h, _⟩ := hN; exact h.nd
theorem Node.frame {ob ob' : List AObj} : ∀ {h : Nat} {k : Kd}, Node ob h k → (∀ i ∈ k.fp, ob'[i]? = ob[i]?) → Node ob' h k
  | 0, k, ⟨q, off, c, h⟩, hf => by
    have hp : k.p ∈ k.fp := by rw [h.fp]; simp
    have hq : q ∈ k.fp := by rw [h.fp]; simp
    obtain ⟨a, hb⟩ := h.bx
    exact ⟨q, off, c, ⟨h.fp, h.nd, h.sz, ⟨a, (hf _ hp).trans hb⟩, h.ar.keep (hf _ hq), h.cb⟩⟩
  | h + 1, k, ⟨q, off, c, ks, hI, hk⟩, hf => by
    have hp : k.p ∈ k.fp := by rw [hI.fp]; simp
    have hq : q ∈ k.fp := by rw [hI.fp]; simp
    obtain ⟨a, hb⟩ := hI.bx
    refine ⟨q, off, c, ks, ⟨hI.fp, hI.nd, hI.sz, hI.fl, ⟨a, (hf _ hp).trans hb⟩, hI.ar.keep (hf _ hq), hI.cb⟩, fun x hx => ?_⟩
    refine ⟨(hk x hx).1.frame fun i hi => hf i ?_, (hk x hx).2⟩
    rw [hI.fp]
    simp only [List.mem_cons, List.mem_flatMap]
    exact .inr (.inr ⟨x, hx, hi⟩)
theorem Node.lt {ob : List AObj} : ∀ {h : Nat} {k : Kd}, Node ob h k → ∀ i ∈ k.fp, i < ob.length
  | 0, k, ⟨q, off, c, h⟩, i, hi => by
    obtain ⟨a, hb⟩ := h.bx
    rw [h.fp] at hi
    simp only [List.mem_cons, List.not_mem_nil, or_false] at hi
    rcases hi with rfl | rfl
    · exact (List.getElem?_eq_some_iff.1 hb).1
    · exact h.ar.lt
  | h + 1, k, ⟨q, off, c, ks, hI, hk⟩, i, hi => by
    obtain ⟨a, hb⟩ := hI.bx
    rw [hI.fp] at hi
    simp only [List.mem_cons, List.mem_flatMap] at hi
    rcases hi with rfl | rfl | ⟨x, hx, hi⟩
    · exact (List.getElem?_eq_some_iff.1 hb).1
    · exact hI.ar.lt
    · exact (hk x hx).1.lt i hi
theorem Node.ne {ob : List AObj} : ∀ {h : Nat} {k : Kd}, Node ob h k → 1 ≤ k.s → k.l ≠ []
  | 0, k, ⟨q, off, c, h⟩, hs, e => by have := h.sz; rw [e] at this; simp at this; omega
  | h + 1, k, ⟨q, off, c, ks, hI, hk⟩, hs, e => by
    have := hI.sz
    match ks, hI, hk with
    | [], hI, hk => simp at this; omega
    | x :: r, hI, hk =>
      rw [hI.fl] at e
      simp only [List.flatMap_cons, List.append_eq_nil_iff] at e
      exact (hk x (by simp)).1.ne (by have := (hk x (by simp)).2.1; omega) e.1

/-- A call's end where nothing has changed. -/
def IsR (r : PV) (ob : List AObj) (r' : PV) (ob' : List AObj) : Prop := r' = r ∧ ob' = ob
theorem isR {r r' : PV} {ob : List AObj} (h : r' = r) : IsR r ob r' ob := ⟨h, rfl⟩
theorem RCall.ofR {P : Program} {f : Nat} {ps : List PV} {ob : List AObj} {r : PV} (h : ICall P f ps ob (IsR r ob)) (hf : r.flat = true) : RCall P f ps ob r :=
  RCall.of h (fun r' ob' h => ⟨h.1, [], by rw [h.2, List.append_nil]⟩) hf
/-- Where a list begins. -/
def keyX (l : List Xt) : Int := match l with | [] => 0 | e :: _ => e.fr
theorem keyX_app {a b : List Xt} (h : a ≠ []) : keyX (a ++ b) = keyX a := by
  cases a with
  | nil => exact absurd rfl h
  | cons e a => rfl

def fF : Nat → Nat
  | 0 => 127
  | _ + 1 => 130
def zF : Nat → Nat
  | 0 => 128
  | _ + 1 => 131
def wF : Nat → Nat
  | 0 => 129
  | _ + 1 => 132
theorem mF (h : Nat) : MethOk Tryz.prog (tyN h) "scoria/tree.first" (fF h) := by
  cases h with
  | zero => exact fun v w => by kernel_rfl
  | succ h => exact fun v w => by kernel_rfl
theorem mZ (h : Nat) : MethOk Tryz.prog (tyN h) "scoria/tree.size" (zF h) := by
  cases h with
  | zero => exact fun v w => by kernel_rfl
  | succ h => exact fun v w => by kernel_rfl
theorem mW (h : Nat) : MethOk Tryz.prog (tyN h) "scoria/tree.where" (wF h) := by
  cases h with
  | zero => exact fun v w => by kernel_rfl
  | succ h => exact fun v w => by kernel_rfl

theorem ldB1 {at_ : Int} {x : PV} : ldB (some (.box [.int .i64 at_, x])) 1 1 = some [x] := by simp [ldB]
/-- A kid as it lies. -/
theorem ldK {ob : List AObj} {q off n c : Nat} {xs : List PV} (h : Arr ob 1 q off n c xs) {i : Nat} {x : PV} (hi : xs[i]? = some x) : ldB ob[q]? (off + i * 1) 1 = some [x] := by
  have hlen := h.len
  have hlt := (List.getElem?_eq_some_iff.1 hi).1
  obtain ⟨cs, h1, h2, h3, h4⟩ := h
  have : off + i * 1 + 1 ≤ cs.length := by omega
  rw [h1, ldB_box this]
  have e : ((cs.drop (off + i * 1)).take 1) = (xs.drop i).take 1 := by rw [← h4, List.drop_take, List.drop_drop, List.take_take, Nat.mul_one, Nat.min_eq_left (by omega)]
  rw [e, List.drop_eq_getElem_cons hlt]
  have := (List.getElem?_eq_some_iff.1 hi).2
  simp [this]
theorem first_r : ∀ (h : Nat) {ob : List AObj} {k : Kd}, Node ob h k → 1 ≤ k.s → RCall Tryz.prog (fF h) [.ref k.p 0] ob (.int .i64 (keyX k.l))
  | 0, ob, k, ⟨q, off, c, hL⟩, hs => by
    obtain ⟨a, hb⟩ := hL.bx
    have hA := hL.ar
    have hsz := hL.sz
    rw [hsz] at hA hb
    have hlen : 0 < k.l.length := by omega
    have d : decide (0 < k.l.length) = true := decide_eq_true hlen
    have hld := ldX hA hlen
    obtain ⟨cs, h1, h2, h3, h4⟩ := id hA
    have hk : keyX k.l = k.l[0].fr := by
      match hl : k.l, hlen with
      | e :: r, _ => rfl
    have hld1 : ldB ob[q]? off 1 = some [.int .i64 k.l[0].fr] := by
      have e1 : off + 0 * 4 + 4 ≤ cs.length := by omega
      have e2 : off + 1 ≤ cs.length := by omega
      rw [h1, ldB_box e1] at hld
      rw [h1, ldB_box e2]
      have := congrArg (Option.map (List.take 1)) hld
      simp only [Option.map_some, List.take_take, Nat.zero_mul] at this
      simpa [rowE] using this
    refine RCall.ofR ?_ rfl
    show ICall Tryz.prog 127 _ _ _
    refine icall_dr Tryz.func127 cm88 ?_
    simp only [U88, hb, d, hld1, ldB1, seval, bA]
    exact ⟨_, rfl, isR (by rw [hk])⟩
  | h + 1, ob, k, ⟨q, off, c, ks, hI, hkk⟩, hs => by
    obtain ⟨a, hb⟩ := hI.bx
    have hA := hI.ar
    have hsz := hI.sz
    rw [hsz] at hA hb
    have hlen : 0 < ks.length := by omega
    have d : decide (0 < ks.length) = true := decide_eq_true hlen
    have hx0 := hkk ks[0] (List.getElem_mem hlen)
    have hld := ldK hA (i := 0) (x := nodeV h ks[0]) (by simp [hlen])
    simp only [Nat.zero_mul, Nat.add_zero] at hld
    have hk : keyX k.l = keyX ks[0].l := by
      rw [hI.fl]
      match hks : ks, hlen with
      | x :: r, _ =>
        simp only [List.flatMap_cons, List.getElem_cons_zero]
        exact keyX_app ((hkk x (by simp)).1.ne (by have := (hkk x (by simp)).2.1; omega))
    refine RCall.ofR ?_ rfl
    show ICall Tryz.prog 130 _ _ _
    refine icall_dr Tryz.func130 cm80 ?_
    simp only [U80, hb, d, hld, ldB1, nodeV, seval, bA]
    refine callJ (mF h) (first_r h hx0.1 (by have := hx0.2.1; omega)) ?_
    exact ⟨_, rfl, isR (by rw [hk])⟩
theorem size_r (h : Nat) {ob : List AObj} {k : Kd} (hN : Node ob h k) : RCall Tryz.prog (zF h) [.ref k.p 0] ob (.int .i64 (k.s : Int)) := by
  have hbx : ∃ (q off c : Nat) (at_ : Int), ob[k.p]? = some (.box [.int .i64 at_, .asl q off k.s c]) := by
    cases h with
    | zero => obtain ⟨q, off, c, hL⟩ := hN; obtain ⟨a, hb⟩ := hL.bx; exact ⟨q, off, c, a, hb⟩
    | succ h => obtain ⟨q, off, c, ks, hL, _⟩ := hN; obtain ⟨a, hb⟩ := hL.bx; exact ⟨q, off, c, a, hb⟩
  obtain ⟨q, off, c, a, hb⟩ := hbx
  refine RCall.ofR ?_ rfl
  cases h with
  | zero =>
    show ICall Tryz.prog 128 _ _ _
    refine icall_dr Tryz.func128 cm89 ?_
    simp only [U89, hb, ldB1, seval, bA]
    exact ⟨_, rfl, isR rfl⟩
  | succ h =>
    show ICall Tryz.prog 131 _ _ _
    refine icall_dr Tryz.func131 cm83 ?_
    simp only [U83, hb, ldB1, seval, bA]
    exact ⟨_, rfl, isR rfl⟩
theorem where_i (h : Nat) {ob : List AObj} (p : Nat) : ICall Tryz.prog (wF h) [.ref p 0] ob (IsR (.ref p 0) ob) := by
  cases h with
  | zero =>
    show ICall Tryz.prog 129 _ _ _
    refine icall_dr Tryz.func129 cm90 ?_
    simp only [U90, seval, bA]
    exact ⟨_, rfl, isR rfl⟩
  | succ h =>
    show ICall Tryz.prog 132 _ _ _
    refine icall_dr Tryz.func132 cm85 ?_
    simp only [U85, seval, bA]
    exact ⟨_, rfl, isR rfl⟩

/-- Under which kid a sector stands. -/
def undF (key : Nat → Int) (x : Int) : Nat → Nat
  | 0 => 0
  | i + 1 => if x < key (i + 1) then undF key x i else i + 1
theorem undF_le (key : Nat → Int) (x : Int) : ∀ n, undF key x n ≤ n
  | 0 => Nat.le_refl _
  | n + 1 => by
    rw [undF]
    split
    · exact Nat.le_succ_of_le (undF_le key x n)
    · exact Nat.le_refl _
theorem undF_at (key : Nat → Int) (x : Int) : ∀ n, undF key x n = 0 ∨ key (undF key x n) ≤ x
  | 0 => .inl rfl
  | n + 1 => by
    rw [undF]
    split
    · exact undF_at key x n
    · exact .inr (by omega)
theorem undF_gt (key : Nat → Int) (x : Int) : ∀ n j, undF key x n < j → j ≤ n → x < key j
  | 0, j, h1, h2 => by omega
  | n + 1, j, h1, h2 => by
    rw [undF] at h1
    split at h1
    · rename_i h
      by_cases e : j = n + 1
      · subst e; exact h
      · exact undF_gt key x n j h1 (by omega)
    · omega
def keyK (ks : List Kd) (i : Nat) : Int := match ks[i]? with | some k => keyX k.l | none => 0
theorem keyK_at {ks : List Kd} {i : Nat} (h : i < ks.length) : keyK ks i = keyX ks[i].l := by simp [keyK, h]

theorem under_r {ob : List AObj} {h : Nat} {k : Kd} {q off c : Nat} {ks : List Kd} (hI : InnerAt ob h k q off c ks) (hk : ∀ x ∈ ks, Node ob h x ∧ 1 ≤ x.s) (h0 : 0 < ks.length) (hm : ks.length ≤ 1000) (x : Int) :
    RCall Tryz.prog 73 [.ref k.p 0, .int .i64 x] ob (.int .i64 (undF (keyK ks) x (ks.length - 1) : Int)) := by
  obtain ⟨a, hb⟩ := hI.bx
  have hA := hI.ar
  rw [hI.sz] at hA hb
  refine RCall.ofR ?_ rfl
  refine icall_dr Tryz.func73 cm84 ?_
  have w0 : IntKind.i64.wrap ((ks.length : Int) - 1) = ((ks.length - 1 : Nat) : Int) := by rw [wrapI (by omega) (by omega)]; omega
  simp only [U84, hb, ldB1, w0, seval, bA]
  refine loopF (fun i : Nat => ⟨ofL [(0, .ref k.p 0), (1, .int .i64 x), (5, .int .i64 (i : Int))], ob⟩) (fun i => i < ks.length ∧ undF (keyK ks) x i = undF (keyK ks) x (ks.length - 1)) (fun i => i) (ks.length - 1) ?_ ⟨by omega, rfl⟩ ?_
  · simp only [U84, seval, bA]
  rintro i ⟨hi, hu⟩
  cases i with
  | zero =>
    have d : decide ((0 : Int) < ((0 : Nat) : Int)) = false := by decide
    simp only [U84, d, seval, bA]
    exact ⟨_, rfl, isR (by rw [← hu]; rfl)⟩
  | succ i =>
    have d : decide ((0 : Int) < ((i + 1 : Nat) : Int)) = true := decide_eq_true (by omega)
    have d' : decide (i + 1 < ks.length) = true := decide_eq_true hi
    have hld := ldK hA (i := i + 1) (x := nodeV h ks[i + 1]) (by simp [hi])
    have hx := hk ks[i + 1] (List.getElem_mem hi)
    have w1 : IntKind.i64.wrap (((i + 1 : Nat) : Int) - 1) = (i : Int) := by rw [wrapI (by omega) (by omega)]; omega
    simp only [U84, d, d', hb, ldB1, hld, nodeV, seval, bA]
    refine callJ (mF h) (first_r h hx.1 hx.2) ?_
    rw [undF, keyK_at hi] at hu
    by_cases hc : x < keyX ks[i + 1].l
    · have dc : decide (x < keyX ks[i + 1].l) = true := decide_eq_true hc
      simp only [U84, d, d', hb, ldB1, hld, nodeV, dc, w1, seval, bA]
      rw [if_pos hc] at hu
      exact ⟨i, rfl, ⟨by omega, hu⟩, by omega⟩
    · have dc : decide (x < keyX ks[i + 1].l) = false := decide_eq_false hc
      simp only [U84, d, d', hb, ldB1, hld, nodeV, dc, w1, seval, bA]
      rw [if_neg hc] at hu
      exact ⟨_, rfl, isR (by rw [← hu])⟩

end Go.Proofs.YtdgpiobmncohjaaGreat.Aw
namespace Go.Proofs.YtdgpiobmncohjaaGreat.Aw
open Go.RowKit Ar

def insX (e : Xt) (l : List Xt) : List Xt := l.take (posX e.fr l) ++ e :: l.drop (posX e.fr l)
theorem posX_le (k : Int) : ∀ (l : List Xt), posX k l ≤ l.length
  | [] => Nat.le_refl _
  | e :: l => by
    have := posX_le k l
    simp only [posX, List.takeWhile_cons] at this ⊢
    split
    · simp only [List.length_cons]; omega
    · simp
theorem insX_len (e : Xt) (l : List Xt) : (insX e l).length = l.length + 1 := by
  have := posX_le e.fr l
  simp only [insX, List.length_append, List.length_cons, List.length_take, List.length_drop]; omega
/-- What is its own then was so, or is new. -/
def Sub (ob : List AObj) (fp fp' : List Nat) : Prop := ∀ i ∈ fp', i ∈ fp ∨ ob.length ≤ i
structure InsR (ob : List AObj) (h : Nat) (k : Kd) (e : Xt) (r : PV) (ob' : List AObj) : Prop where
  ex : ∃ k', Node ob' h k' ∧ k'.p = k.p ∧ Same ob ob' (· ∈ k.fp) ∧
    ((r = .nili ∧ k'.l = insX e k.l ∧ k.s ≤ k'.s ∧ k'.s ≤ 8 ∧ Sub ob k.fp k'.fp) ∨
     ∃ k2, r = nodeV h k2 ∧ Node ob' h k2 ∧ k'.l ++ k2.l = insX e k.l ∧ k'.s = 4 ∧ k2.s = 5 ∧ Sub ob k.fp (k'.fp ++ k2.fp) ∧ (k'.fp ++ k2.fp).Nodup)

theorem XL_ins (e : Xt) (l : List Xt) (i : Nat) : (XL l).take (i * 4) ++ (rowE e ++ (XL l).drop (i * 4)) = XL (l.take i ++ e :: l.drop i) := by
  rw [XL_take, XL_drop, XL_app, show e :: l.drop i = [e] ++ l.drop i from rfl, XL_app, XL_one]
theorem setS {ob : List AObj} {p : Nat} (h : p < ob.length) (x : AObj) : (ob.set p x)[p]? = some x := List.getElem?_set_self h
theorem setO {ob : List AObj} {p q : Nat} {x y : AObj} (h : p ≠ q) (hq : ob[q]? = some y) : (ob.set p x)[q]? = some y := by rw [List.getElem?_set_ne h]; exact hq
theorem app0 (ob : List AObj) (x : AObj) : (ob ++ [x])[ob.length]? = some x := by rw [List.getElem?_append_right (Nat.le_refl _), Nat.sub_self]; rfl
theorem app1 {ob : List AObj} {q : Nat} {y : AObj} (hq : ob[q]? = some y) (l : List AObj) : (ob ++ l)[q]? = some y := by rw [List.getElem?_append_left (List.getElem?_eq_some_iff.1 hq).1]; exact hq
theorem setA (ob : List AObj) (x y : AObj) : (ob ++ [x]).set ob.length y = ob ++ [y] := by rw [List.set_append_right _ _ (Nat.le_refl _), Nat.sub_self]; rfl

theorem insert_leaf {ob : List AObj} {k : Kd} {e : Xt} (hN : Node ob 0 k) (h8 : k.s ≤ 8) (hs : SortX k.l) (hb : BdX k.l) (he : 0 ≤ e.fr ∧ e.fr ≤ 16777216) :
    ICall Tryz.prog 72 [nodeV 0 k, pE e] ob (InsR ob 0 k e) := by
  obtain ⟨q, off, c, hL⟩ := hN
  obtain ⟨a, hbx⟩ := hL.bx
  have hA := hL.ar
  have hsz := hL.sz
  have hnd := hL.nd
  rw [hL.fp] at hnd
  have hpq : k.p ≠ q := by simpa using hnd
  have hp := (List.getElem?_eq_some_iff.1 hbx).1
  have hq := hA.lt
  rw [nodeV_0]
  refine icall_dr Tryz.func72 cm86 ?_
  simp only [U86, rowE, seval, bA]
  refine callX (mW 0) (callM (where_i 0 k.p) ?_)
  rintro r ob' ⟨rfl, rfl⟩
  have f0 := app1 hbx [AObj.box (rowE e)]
  have f1 := app0 ob (AObj.box (rowE e))
  have hS0 : Same ob (ob ++ [AObj.box (rowE e)]) (· ∈ k.fp) := Same.app _ _ _
  have hA0 := (Same.app ob [AObj.box (rowE e)] (fun _ => False)).arr hA (fun h => h)
  have hl0 : (ob ++ [AObj.box (rowE e)]).length = ob.length + 1 := by simp
  simp only [rowE] at f0 f1 hS0 hA0 hl0
  generalize ob ++ [AObj.box [.int .i64 e.fr, .int .i64 e.n, .int .i64 e.kd, .int .i64 e.at_]] = ob1 at *
  have g1 := setS (ob := ob1) (p := k.p) (by omega)
  have g2 : ∀ x, (ob1.set k.p x)[ob.length]? = _ := fun x => setO (x := x) (by omega) f1
  simp only [U86, rowE, f0, g1, g2, ldB1, seval, bA]
  have hS1 : Same ob (ob1.set k.p (AObj.box [.int .i64 (-1), .asl q off k.s c])) (· ∈ k.fp) := hS0.trans (Same.set (by rw [hL.fp]; simp))
  have hA1 := (Same.set (ob := ob1) (a := AObj.box [.int .i64 (-1), .asl q off k.s c]) (T := (· = k.p)) rfl).arr hA0 (Ne.symm hpq)
  have f2 := g1 (AObj.box [.int .i64 (-1), .asl q off k.s c])
  have f3 := g2 (AObj.box [.int .i64 (-1), .asl q off k.s c])
  have hl1 : (ob1.set k.p (AObj.box [.int .i64 (-1), .asl q off k.s c])).length = ob.length + 1 := by rw [List.length_set, hl0]
  generalize ob1.set k.p (AObj.box [.int .i64 (-1), .asl q off k.s c]) = ob2 at *
  rw [hsz] at hA1
  obtain ⟨t, hbs⟩ := bsA hA1 hs hb he (by omega)
  rw [← hsz] at hbs
  refine callR hbs ?_
  have g3 : ∀ x, (ob2 ++ [x])[k.p]? = _ := fun x => app1 f2 [x]
  have g4 : ∀ x, (ob2 ++ [x])[ob.length]? = _ := fun x => app1 f3 [x]
  have g5 := setA ob2
  have g6 := app0 ob2
  have hl2 : ob2.length = ob.length + 1 := hl1
  have n1 : (k.p == ob2.length) = false := by simp; omega
  have n2 : (ob.length == ob2.length) = false := by simp; omega
  have n3 : (ob2 ++ [AObj.none]).length = ob2.length + 1 := by simp
  simp only [U86, rowE, f2, f3, g3, g4, g5, g6, ldB1, n1, n2, List.replicate_succ, List.replicate_zero, List.set_cons_zero, seval, bA]
  have hS2 : Same ob (ob2 ++ [AObj.box (rowE e)]) (· ∈ k.fp) := hS1.trans (Same.app _ _ _)
  have hA2 := (Same.app ob2 [AObj.box (rowE e)] (fun _ => False)).arr hA1 (fun h => h)
  have hq2 : Arr (ob2 ++ [AObj.box (rowE e)]) 4 ob2.length 0 1 1 (rowE e) := ⟨rowE e, app0 _ _, Nat.le_refl _, by rw [rowE_len]; omega, by rw [List.drop_zero, List.take_of_length_le (by rw [rowE_len]; omega)]⟩
  have f4 := app1 f2 [AObj.box (rowE e)]
  have hl3 : (ob2 ++ [AObj.box (rowE e)]).length = ob.length + 2 := by rw [List.length_append, hl1]; rfl
  rw [hl1] at hq2
  rw [hl1]
  simp only [rowE] at hS2 hA2 hq2 f4 hl3
  generalize ob2 ++ [AObj.box [.int .i64 e.fr, .int .i64 e.n, .int .i64 e.kd, .int .i64 e.at_]] = ob3 at *
  have hpl : posX e.fr k.l ≤ k.s := by rw [hsz]; exact posX_le _ _
  refine callM (insE (by rw [← hsz] at hA2; exact hA2) hq2 (by omega) hpl (by omega) hL.cb) ?_
  rintro r ob4 ⟨q', off', c', rfl, hX, hq', hS3, hcb⟩
  have hX' : Arr ob4 4 q' off' (k.s + 1) c' (XL (insX e k.l)) := by
    have := XL_ins e k.l (posX e.fr k.l)
    simp only [rowE] at this hX
    rw [this] at hX; exact hX
  have hpq' : k.p ≠ q' := by rcases hq' with rfl | h <;> omega
  have f5 : ob4[k.p]? = _ := hS3.get f4 hpq'
  have hp4 : k.p < ob4.length := (List.getElem?_eq_some_iff.1 f5).1
  have hS4 : Same ob ob4 (· ∈ k.fp) := by
    have l3 := hS2.1
    refine ⟨Nat.le_trans l3 hS3.1, fun j hj hT => ?_⟩
    refine (hS3.2 j (by omega) ?_).trans (hS2.2 j hj hT)
    rintro rfl
    rcases hq' with rfl | h
    · exact hT (by rw [hL.fp]; simp)
    · omega
  have hs4 : Sub ob k.fp [q'] := by
    intro j hj
    simp only [List.mem_singleton] at hj
    subst hj
    rcases hq' with rfl | h
    · exact .inl (by rw [hL.fp]; simp)
    · exact .inr (by omega)
  have hs5 : Sub ob k.fp [k.p] := by intro j hj; simp only [List.mem_singleton] at hj; subst hj; exact .inl (by rw [hL.fp]; simp)
  have g7 := setS hp4
  have hX5 := (Same.set (ob := ob4) (a := AObj.box [.int .i64 (-1), .asl q' off' (k.s + 1) c']) (T := (· = k.p)) rfl).arr hX' (Ne.symm hpq')
  have hS5 : Same ob (ob4.set k.p (AObj.box [.int .i64 (-1), .asl q' off' (k.s + 1) c'])) (· ∈ k.fp) := hS4.trans (Same.set (by rw [hL.fp]; simp))
  by_cases h9 : 8 < k.s + 1
  · have d9 : decide ((8 : Int) < ((k.s + 1 : Nat) : Int)) = true := decide_eq_true (by omega)
    have h88 : k.s = 8 := by omega
    simp only [U86, f5, g7, ldB1, d9, seval, bA]
    have f6 := g7 (AObj.box [.int .i64 (-1), .asl q' off' (k.s + 1) c'])
    have hl5 : (ob4.set k.p (AObj.box [.int .i64 (-1), .asl q' off' (k.s + 1) c'])).length = ob4.length := by rw [List.length_set]
    generalize ob4.set k.p (AObj.box [.int .i64 (-1), .asl q' off' (k.s + 1) c']) = ob5 at *
    have f7 := app0 ob5
    have g8 : ∀ x, (ob5 ++ [x])[k.p]? = _ := fun x => app1 f6 [x]
    simp only [U86, f7, g8, ldB1, seval, bA]
    have hX6 := (Same.app ob5 [AObj.box [.int .i64 (-1), .slc []]] (fun _ => False)).arr hX5 (fun h => h)
    have hS6 : Same ob (ob5 ++ [AObj.box [.int .i64 (-1), .slc []]]) (· ∈ k.fp) := hS5.trans (Same.app _ _ _)
    have f8 := f7 (AObj.box [.int .i64 (-1), .slc []])
    rw [hl5] at f8
    have f9 := g8 (AObj.box [.int .i64 (-1), .slc []])
    generalize ob5 ++ [AObj.box [.int .i64 (-1), .slc []]] = ob6 at *
    refine callM (splitE hX6 (by omega) (by omega) hcb) ?_
    rintro r ob7 ⟨q2, c2, rfl, hY, hZ, hq2, hc2, hS7⟩
    have e1 : (k.s + 1) / 2 = 4 := by omega
    have e2 : k.s + 1 - 4 = 5 := by omega
    rw [e1] at hY hZ
    rw [e2] at hZ
    have hS7' : Same ob ob7 (· ∈ k.fp) := hS6.trans (hS7.mono fun j h => h.elim)
    have f10 := hS7.get f9 (fun h => h)
    have f11 := hS7.get f8 (fun h => h)
    have l6 := hS7.1
    have l5 : ob4.length < ob6.length := (List.getElem?_eq_some_iff.1 f8).1
    have hp7 : k.p < ob7.length := (List.getElem?_eq_some_iff.1 f10).1
    have g9 := setS hp7
    have hne : k.p ≠ ob4.length := by omega
    have g10 : ∀ x, (ob7.set k.p x)[ob4.length]? = _ := fun x => setO (x := x) hne f11
    simp only [U86, f10, f11, g9, g10, ldB1, e1, e2, seval, bA]
    have hY1 := (Same.set (ob := ob7) (a := AObj.box [.int .i64 (-1), .asl q' off' 4 4]) (T := (· = k.p)) rfl).arr hY (Ne.symm hpq')
    have hpq2 : k.p ≠ q2 := by omega
    have hZ1 := (Same.set (ob := ob7) (a := AObj.box [.int .i64 (-1), .asl q' off' 4 4]) (T := (· = k.p)) rfl).arr hZ (Ne.symm hpq2)
    have hS8 : Same ob (ob7.set k.p (AObj.box [.int .i64 (-1), .asl q' off' 4 4])) (· ∈ k.fp) := hS7'.trans (Same.set (by rw [hL.fp]; simp))
    have f12 := g9 (AObj.box [.int .i64 (-1), .asl q' off' 4 4])
    have hl8 : (ob7.set k.p (AObj.box [.int .i64 (-1), .asl q' off' 4 4])).length = ob7.length := by rw [List.length_set]
    generalize ob7.set k.p (AObj.box [.int .i64 (-1), .asl q' off' 4 4]) = ob8 at *
    have hq'5 : q' ≠ ob4.length := by have := hX5.lt; omega
    have hq25 : q2 ≠ ob4.length := by omega
    have hr8 : ob4.length < ob8.length := by omega
    have g11 := setS hr8 (AObj.box [.int .i64 (-1), .asl q2 0 5 c2])
    have f13 := setO (x := AObj.box [.int .i64 (-1), .asl q2 0 5 c2]) (Ne.symm hne) f12
    have hY2 := (Same.set (ob := ob8) (a := AObj.box [.int .i64 (-1), .asl q2 0 5 c2]) (T := (· = ob4.length)) rfl).arr hY1 hq'5
    have hZ2 := (Same.set (ob := ob8) (a := AObj.box [.int .i64 (-1), .asl q2 0 5 c2]) (T := (· = ob4.length)) rfl).arr hZ1 hq25
    have l3 := hS3.1
    have hlen5 : ob.length ≤ ob4.length := by omega
    have hS9 : Same ob (ob8.set ob4.length (AObj.box [.int .i64 (-1), .asl q2 0 5 c2])) (· ∈ k.fp) :=
      ⟨by rw [List.length_set]; omega, fun j hj hT => by rw [List.getElem?_set_ne (by omega)]; exact hS8.2 j hj hT⟩
    have hil : (insX e k.l).length = 9 := by rw [insX_len]; omega
    rw [XL_take] at hY2
    rw [XL_drop] at hZ2
    refine ⟨_, rfl, ⟨⟨k.p, (insX e k.l).take 4, 4, [k.p, q']⟩, ?_, rfl, hS9, .inr ⟨⟨ob4.length, (insX e k.l).drop 4, 5, [ob4.length, q2]⟩, rfl, ?_, List.take_append_drop _ _, rfl, rfl, ?_, ?_⟩⟩⟩
    · exact ⟨q', off', 4, ⟨rfl, by simpa using hpq', by simp only [List.length_take, hil]; omega, ⟨-1, f13⟩, hY2, by omega⟩⟩
    · exact ⟨q2, 0, c2, ⟨rfl, by simpa using Ne.symm hq25, by simp only [List.length_drop, hil], ⟨-1, g11⟩, hZ2, hc2⟩⟩
    · intro j hj
      simp only [List.mem_append, List.mem_cons, List.not_mem_nil, or_false] at hj
      rcases hj with (rfl | rfl) | (rfl | rfl)
      · exact hs5 _ (by simp)
      · exact hs4 _ (by simp)
      · exact .inr hlen5
      · exact .inr (by omega)
    · have hq'2 : q' ≠ q2 := by have := hX6.lt; omega
      simp only [List.cons_append, List.nil_append, List.nodup_cons, List.mem_cons, List.not_mem_nil, or_false, not_or, List.nodup_nil, and_true, not_false_eq_true]
      exact ⟨⟨hpq', hne, hpq2⟩, ⟨hq'5, hq'2⟩, Ne.symm hq25⟩
  · have d9 : decide ((8 : Int) < ((k.s + 1 : Nat) : Int)) = false := decide_eq_false (by omega)
    simp only [U86, f5, g7, ldB1, d9, seval, bA]
    refine ⟨_, rfl, ⟨⟨k.p, insX e k.l, k.s + 1, [k.p, q']⟩, ?_, rfl, hS5, .inl ⟨rfl, rfl, by simp, by simp; omega, ?_⟩⟩⟩
    · refine ⟨q', off', c', ⟨rfl, by simpa using hpq', by simp only [insX_len]; omega, ⟨-1, g7 _⟩, hX5, hcb⟩⟩
    · intro j hj
      rcases List.mem_cons.1 hj with rfl | hj
      · exact hs5 _ (by simp)
      · exact hs4 j hj

end Go.Proofs.YtdgpiobmncohjaaGreat.Aw
namespace Go.Proofs.YtdgpiobmncohjaaGreat.Aw
open Go.RowKit Ar

theorem posX_front {k : Int} : ∀ {A : List Xt} {L : List Xt}, (∀ x ∈ A, x.fr < k) → posX k (A ++ L) = A.length + posX k L
  | [], L, _ => by simp
  | a :: A, L, h => by
    have ha := h a (by simp)
    have ih := posX_front (A := A) (L := L) fun x hx => h x (by simp [hx])
    simp only [posX] at ih ⊢
    simp only [List.cons_append, List.takeWhile_cons, decide_eq_true ha, if_true, List.length_cons, ih]
    omega
theorem posX_back {k : Int} : ∀ {B : List Xt} {C : List Xt}, (∀ x ∈ C, k ≤ x.fr) → posX k (B ++ C) = posX k B
  | [], C, h => by
    cases C with
    | nil => rfl
    | cons c C =>
      have := h c (by simp)
      have hd : decide (c.fr < k) = false := decide_eq_false (by omega)
      simp [posX, List.takeWhile_cons, hd]
  | b :: B, C, h => by
    have ih := posX_back (B := B) (C := C) h
    simp only [posX] at ih ⊢
    simp only [List.cons_append, List.takeWhile_cons]
    split
    · simp only [List.length_cons, ih]
    · rfl
theorem insX_mid {e : Xt} {A B C : List Xt} (hA : ∀ x ∈ A, x.fr < e.fr) (hC : ∀ x ∈ C, e.fr ≤ x.fr) : insX e (A ++ (B ++ C)) = A ++ (insX e B ++ C) := by
  have hp : posX e.fr (A ++ (B ++ C)) = A.length + posX e.fr B := by rw [posX_front hA, posX_back hC]
  have hle := posX_le e.fr B
  unfold insX
  rw [hp, List.take_length_add_append, List.drop_length_add_append, List.take_append_of_le_length hle, List.drop_append_of_le_length hle]
  simp
theorem nodup_swap {P X X' Q : List Nat} {n : Nat} (h : (P ++ (X ++ Q)).Nodup) (hlt : ∀ i ∈ P ++ (X ++ Q), i < n) (hX : X'.Nodup) (hs : ∀ i ∈ X', i ∈ X ∨ n ≤ i) : (P ++ (X' ++ Q)).Nodup := by
  rw [List.nodup_append, List.nodup_append] at h ⊢
  obtain ⟨h1, ⟨h2, h3, h4⟩, h5⟩ := h
  refine ⟨h1, ⟨hX, h3, fun a ha b hb => ?_⟩, fun a ha b hb => ?_⟩
  · rcases hs a ha with h | h
    · exact h4 a h b hb
    · have := hlt b (by simp [hb]); omega
  · rcases List.mem_append.1 hb with hb | hb
    · rcases hs b hb with h | h
      · exact h5 a ha b (by simp [h])
      · have := hlt a (by simp [ha]); omega
    · exact h5 a ha b (by simp [hb])

/-- The kids about the one under which a sector stands. -/
structure About (ks : List Kd) (v : Int) (i : Nat) (A : List Kd) (x : Kd) (B : List Kd) : Prop where
  eq : ks = A ++ x :: B
  len : A.length = i
  lo : ∀ y ∈ A.flatMap (·.l), y.fr < v
  hi : ∀ y ∈ B.flatMap (·.l), v < y.fr
theorem keyX_le {l : List Xt} (hs : SortX l) : ∀ y ∈ l, keyX l ≤ y.fr := by
  intro y hy
  cases l with
  | nil => cases hy
  | cons a l =>
    rcases List.mem_cons.1 hy with rfl | hy
    · exact Int.le_refl _
    · exact Int.le_of_lt ((List.pairwise_cons.1 hs).1 y hy)
theorem keyX_mem {l : List Xt} (h : l ≠ []) : ∃ y ∈ l, y.fr = keyX l := by
  cases l with
  | nil => exact absurd rfl h
  | cons a l => exact ⟨a, by simp, rfl⟩
theorem about {ks : List Kd} (hs : SortX (ks.flatMap (·.l))) (hne : ∀ x ∈ ks, x.l ≠ []) (h0 : 0 < ks.length) (v : Int) :
    ∃ A x B, About ks v (undF (keyK ks) v (ks.length - 1)) A x B := by
  have hle := undF_le (keyK ks) v (ks.length - 1)
  have hat := undF_at (keyK ks) v (ks.length - 1)
  have hgt := undF_gt (keyK ks) v (ks.length - 1)
  generalize undF (keyK ks) v (ks.length - 1) = i at *
  have hi : i < ks.length := by omega
  have he : ks = ks.take i ++ ks[i] :: ks.drop (i + 1) := by rw [← List.drop_eq_getElem_cons hi, List.take_append_drop]
  have hs' := hs
  rw [he, List.flatMap_append, List.flatMap_cons] at hs'
  obtain ⟨s1, s2, s3⟩ := List.pairwise_append.1 hs'
  obtain ⟨s4, s5, s6⟩ := List.pairwise_append.1 s2
  refine ⟨ks.take i, ks[i], ks.drop (i + 1), he, by rw [List.length_take]; omega, fun y hy => ?_, fun y hy => ?_⟩
  · rcases hat with h | h
    · rw [h] at hy; simp at hy
    · rw [keyK_at hi] at h
      obtain ⟨z, hz, hzk⟩ := keyX_mem (hne ks[i] (List.getElem_mem hi))
      have := s3 y hy z (by simp [hz])
      omega
  · by_cases hi1 : i + 1 < ks.length
    · have h := hgt (i + 1) (by omega) (by omega)
      rw [keyK_at hi1] at h
      rw [List.drop_eq_getElem_cons hi1, List.flatMap_cons] at hy s5
      obtain ⟨s7, s8, s9⟩ := List.pairwise_append.1 s5
      rcases List.mem_append.1 hy with hy | hy
      · have := keyX_le s7 y hy; omega
      · obtain ⟨z, hz, hzk⟩ := keyX_mem (hne ks[i + 1] (List.getElem_mem hi1))
        have := s9 z hz y hy
        omega
    · rw [List.drop_eq_nil_of_le (by omega)] at hy
      simp at hy
theorem About.sort {ks : List Kd} {v : Int} {i : Nat} {A B : List Kd} {x : Kd} (h : About ks v i A x B) (hs : SortX (ks.flatMap (·.l))) : SortX x.l := by
  rw [h.eq, List.flatMap_append, List.flatMap_cons] at hs
  exact (List.pairwise_append.1 (List.pairwise_append.1 hs).2.1).1
theorem About.at {ks : List Kd} {v : Int} {i : Nat} {A B : List Kd} {x : Kd} (h : About ks v i A x B) : ks[i]? = some x := by
  rw [h.eq, List.getElem?_append_right (by rw [h.len]; exact Nat.le_refl _), h.len, Nat.sub_self]; rfl

theorem mkInner {ob : List AObj} {h p q off c : Nat} {ks : List Kd} (hbx : ∃ at_ : Int, ob[p]? = some (.box [.int .i64 at_, .asl q off ks.length c])) (har : Arr ob 1 q off ks.length c (ks.map (nodeV h))) (hc : c ≤ 9223372036854775807) (hnd : (p :: q :: ks.flatMap (·.fp)).Nodup) (hk : ∀ x ∈ ks, Node ob h x ∧ 4 ≤ x.s ∧ x.s ≤ 8) :
    Node ob (h + 1) ⟨p, ks.flatMap (·.l), ks.length, p :: q :: ks.flatMap (·.fp)⟩ := ⟨q, off, c, ks, ⟨rfl, hnd, rfl, rfl, hbx, har, hc⟩, hk⟩

/-- What is known of a node's kids, one of which is looked at. -/
structure Kids (ob : List AObj) (h : Nat) (k : Kd) (q off c : Nat) (A : List Kd) (x : Kd) (B : List Kd) : Prop where
  fp : k.fp = k.p :: q :: (A.flatMap (·.fp) ++ (x.fp ++ B.flatMap (·.fp)))
  nd : k.fp.Nodup
  lt : ∀ i ∈ k.fp, i < ob.length
  pq : k.p ≠ q
  px : k.p ∉ x.fp
  qx : q ∉ x.fp
  oth : ∀ y, y ∈ A ∨ y ∈ B → Node ob h y ∧ 4 ≤ y.s ∧ y.s ≤ 8 ∧ ∀ i ∈ y.fp, i ∉ x.fp ∧ i ≠ k.p ∧ i ≠ q
  me : Node ob h x ∧ 4 ≤ x.s ∧ x.s ≤ 8
theorem kids_of {ob : List AObj} {h : Nat} {k : Kd} {q off c : Nat} {ks A B : List Kd} {x : Kd} (hI : InnerAt ob h k q off c ks) (hk : ∀ x ∈ ks, Node ob h x ∧ 4 ≤ x.s ∧ x.s ≤ 8) (he : ks = A ++ x :: B) : Kids ob h k q off c A x B := by
  have hN : Node ob (h + 1) k := ⟨q, off, c, ks, hI, hk⟩
  have hfp : k.fp = k.p :: q :: (A.flatMap (·.fp) ++ (x.fp ++ B.flatMap (·.fp))) := by rw [hI.fp, he, List.flatMap_append, List.flatMap_cons]
  have hnd := hI.nd
  have hnd' := hnd
  rw [hfp] at hnd'
  simp only [List.nodup_cons, List.mem_cons, List.mem_append, not_or] at hnd'
  obtain ⟨⟨n1, n2, n3, n4⟩, ⟨n5, n6, n7⟩, n8⟩ := hnd'
  rw [List.nodup_append, List.nodup_append] at n8
  obtain ⟨m1, ⟨m2, m3, m4⟩, m5⟩ := n8
  refine ⟨hfp, hnd, hN.lt, n1, n3, n6, fun y hy => ?_, hk x (by rw [he]; simp)⟩
  have hyk : y ∈ ks := by rw [he]; rcases hy with h | h <;> simp [h]
  refine ⟨(hk y hyk).1, (hk y hyk).2.1, (hk y hyk).2.2, fun i hi => ?_⟩
  rcases hy with hy | hy
  · have hm : i ∈ A.flatMap (·.fp) := List.mem_flatMap.2 ⟨y, hy, hi⟩
    exact ⟨fun hx => m5 i hm i (by simp [hx]) rfl, fun e => n2 (e ▸ hm), fun e => n5 (e ▸ hm)⟩
  · have hm : i ∈ B.flatMap (·.fp) := List.mem_flatMap.2 ⟨y, hy, hi⟩
    exact ⟨fun hx => m4 i hx i hm rfl, fun e => n4 (e ▸ hm), fun e => n7 (e ▸ hm)⟩

end Go.Proofs.YtdgpiobmncohjaaGreat.Aw
namespace Go.Proofs.YtdgpiobmncohjaaGreat.Aw
open Go.RowKit Ar

theorem Node.same {ob ob' : List AObj} {T : Nat → Prop} {h : Nat} {k : Kd} (hN : Node ob h k) (hS : Same ob ob' T) (hT : ∀ i ∈ k.fp, ¬ T i) : Node ob' h k := hN.frame fun i hi => hS.2 i (hN.lt i hi) (hT i hi)
theorem InnerAt.same {ob ob' : List AObj} {T : Nat → Prop} {h : Nat} {k : Kd} {q off c : Nat} {ks : List Kd} (hI : InnerAt ob h k q off c ks) (hS : Same ob ob' T) (hp : ¬ T k.p) (hq : ¬ T q) : InnerAt ob' h k q off c ks := by
  obtain ⟨a, hb⟩ := hI.bx
  exact ⟨hI.fp, hI.nd, hI.sz, hI.fl, ⟨a, hS.get hb hp⟩, hS.arr hI.ar hq, hI.cb⟩
def InsSpec (h : Nat) : Prop := ∀ {ob : List AObj} {k : Kd} {e : Xt}, Node ob h k → 1 ≤ k.s → k.s ≤ 8 → SortX k.l → BdX k.l → (0 ≤ e.fr ∧ e.fr ≤ 16777216) → ICall Tryz.prog 72 [nodeV h k, pE e] ob (InsR ob h k e)

theorem split_nodup {p q r t : Nat} {L R : List Nat} (h : (p :: q :: (L ++ R)).Nodup) (h1 : ∀ i ∈ p :: q :: (L ++ R), i < r ∧ i ≠ t) (hrt : r ≠ t) : ((p :: q :: L) ++ (r :: t :: R)).Nodup := by
  have e1 : ((p :: q :: L) ++ (r :: t :: R)).Perm (r :: t :: (p :: q :: (L ++ R))) := by
    refine List.perm_middle.trans (List.Perm.cons _ ?_)
    exact List.perm_middle
  rw [e1.nodup_iff]
  simp only [List.nodup_cons, List.mem_cons]
  refine ⟨?_, ?_, by simpa using h⟩
  · rintro (hh | hh | hh | hh)
    · exact hrt hh
    · have := h1 p (by simp); omega
    · have := h1 q (by simp); omega
    · have := h1 r (by simp [List.mem_append.1 hh]); omega
  · rintro (hh | hh | hh)
    · exact (h1 p (by simp)).2 hh.symm
    · exact (h1 q (by simp)).2 hh.symm
    · exact (h1 t (by simp [List.mem_append.1 hh])).2 rfl

theorem nodup_q {p q q' : Nat} {L : List Nat} (h : (p :: q :: L).Nodup) (hq : q' = q ∨ ∀ i ∈ p :: L, i ≠ q') : (p :: q' :: L).Nodup := by
  rcases hq with rfl | hq
  · exact h
  · simp only [List.nodup_cons, List.mem_cons, not_or] at h ⊢
    exact ⟨⟨hq p (by simp), h.1.2⟩, fun hm => hq q' (by simp [hm]) rfl, h.2.2⟩
theorem insert_inner {h : Nat} (IH : InsSpec h) : InsSpec (h + 1) := by
  intro ob k e hN hs1 h8 hs hb he
  obtain ⟨q, off, c, ks, hI, hk⟩ := hN
  have hN : Node ob (h + 1) k := ⟨q, off, c, ks, hI, hk⟩
  obtain ⟨a, hbx⟩ := hI.bx
  have hsz := hI.sz
  have hfl := hI.fl
  have h0 : 0 < ks.length := by omega
  obtain ⟨A, x, B, hAb⟩ := about (v := e.fr) (by rw [hI.fl] at hs; exact hs) (fun x hx => (hk x hx).1.ne (by have := (hk x hx).2.1; omega)) h0
  have hKs := kids_of hI hk hAb.eq
  have hp := hKs.lt k.p (by rw [hKs.fp]; simp)
  have hq := hI.ar.lt
  have hpq := hKs.pq
  rw [nodeV_s]
  refine icall_dr Tryz.func72 cm86 ?_
  simp only [U86, rowE, seval, bA]
  refine callX (mW (h + 1)) (callM (where_i (h + 1) k.p) ?_)
  rintro r ob' ⟨rfl, rfl⟩
  have f0 := app1 hbx [AObj.box (rowE e)]
  have f1 := app0 ob (AObj.box (rowE e))
  have hS0 : Same ob (ob ++ [AObj.box (rowE e)]) (fun _ => False) := Same.app _ _ _
  have hl0 : (ob ++ [AObj.box (rowE e)]).length = ob.length + 1 := by simp
  simp only [rowE] at f0 f1 hS0 hl0
  generalize ob ++ [AObj.box [.int .i64 e.fr, .int .i64 e.n, .int .i64 e.kd, .int .i64 e.at_]] = ob1 at *
  have g1 := setS (ob := ob1) (p := k.p) (by omega)
  have g2 : ∀ x, (ob1.set k.p x)[ob.length]? = _ := fun x => setO (x := x) (by omega) f1
  simp only [U86, rowE, f0, g1, g2, ldB1, seval, bA]
  have hS1 : Same ob (ob1.set k.p (AObj.box [.int .i64 (-1), .asl q off k.s c])) (· = k.p) := (hS0.mono (fun j h => h.elim)).trans (Same.set rfl)
  have f2 := g1 (AObj.box [.int .i64 (-1), .asl q off k.s c])
  have f3 := g2 (AObj.box [.int .i64 (-1), .asl q off k.s c])
  have hl1 : (ob1.set k.p (AObj.box [.int .i64 (-1), .asl q off k.s c])).length = ob.length + 1 := by rw [List.length_set, hl0]
  generalize ob1.set k.p (AObj.box [.int .i64 (-1), .asl q off k.s c]) = ob2 at *
  have hA2 := hS1.arr hI.ar (Ne.symm hpq)
  have hI2 : InnerAt ob2 h k q off c ks := ⟨hI.fp, hI.nd, hI.sz, hI.fl, ⟨-1, f2⟩, hA2, hI.cb⟩
  have hx2 := hKs.me.1.same hS1 (fun i hi e => hKs.px (e ▸ hi))
  have ho2 : ∀ y, y ∈ A ∨ y ∈ B → Node ob2 h y := fun y hy => (hKs.oth y hy).1.same hS1 (fun i hi => ((hKs.oth y hy).2.2.2 i hi).2.1)
  have hk2 : ∀ y ∈ ks, Node ob2 h y ∧ 1 ≤ y.s := by
    intro y hy
    refine ⟨?_, by have := (hk y hy).2.1; omega⟩
    rw [hAb.eq] at hy
    rcases List.mem_append.1 hy with hy | hy
    · exact ho2 y (.inl hy)
    · rcases List.mem_cons.1 hy with rfl | hy
      · exact hx2
      · exact ho2 y (.inr hy)
  refine callR (under_r hI2 hk2 h0 (by omega) e.fr) ?_
  have hlen := hAb.len
  have hat := hAb.at
  generalize undF (keyK ks) e.fr (ks.length - 1) = i at *
  have hi : i < k.s := by have := (List.getElem?_eq_some_iff.1 hat).1; omega
  have d1 : decide (i < k.s) = true := decide_eq_true hi
  have hld := ldK hA2 (i := i) (x := nodeV h x) (by rw [List.getElem?_map, hat]; rfl)
  simp only [U86, rowE, f2, f3, ldB1, d1, hld, seval, bA]
  have hxl : SortX x.l := hAb.sort (by rw [hI.fl] at hs; exact hs)
  have hxb : BdX x.l := fun y hy => hb y (by rw [hI.fl, hAb.eq]; simp [hy])
  refine callM (IH hx2 (by have := hKs.me.2.1; omega) hKs.me.2.2 hxl hxb he) ?_
  rintro r ob3 ⟨x', hx', hxp, hS3, hcase⟩
  have hS3' : Same ob ob3 (· ∈ k.fp) := (hS1.mono (fun j (hj : j = k.p) => by subst hj; rw [hKs.fp]; simp)).trans (hS3.mono fun j hj => by rw [hKs.fp]; simp [hj])
  have hA3 := hS3.arr hA2 hKs.qx
  have f4 := hS3.get f2 hKs.px
  have ho3 : ∀ y, y ∈ A ∨ y ∈ B → Node ob3 h y := fun y hy => (ho2 y hy).same hS3 (fun i hi => ((hKs.oth y hy).2.2.2 i hi).1)
  have hl3 := hS3.1
  have hlo := hAb.lo
  have hhi := hAb.hi
  have hkl : k.l = A.flatMap (·.l) ++ (x.l ++ B.flatMap (·.l)) := by rw [hI.fl, hAb.eq, List.flatMap_append, List.flatMap_cons]
  have hins : insX e k.l = A.flatMap (·.l) ++ (insX e x.l ++ B.flatMap (·.l)) := by rw [hkl]; exact insX_mid hlo fun y hy => Int.le_of_lt (hhi y hy)
  have hss := hKs.me.2
  have hkn : ks.length = A.length + (1 + B.length) := by rw [hAb.eq, List.length_append, List.length_cons]; omega
  have hnd0 : ((k.p :: q :: A.flatMap (·.fp)) ++ (x.fp ++ B.flatMap (·.fp))).Nodup := by have := hKs.nd; rw [hKs.fp] at this; exact this
  have hlt0 : ∀ i ∈ (k.p :: q :: A.flatMap (·.fp)) ++ (x.fp ++ B.flatMap (·.fp)), i < ob2.length := by
    intro i hi
    have := hKs.lt i (by rw [hKs.fp]; exact hi)
    omega
  rcases hcase with ⟨rfl, hl', hsx, hs8, hsub⟩ | ⟨x2, rfl, hx2', hl', hs4, hs5, hsub, hndx⟩
  · simp only [U86, seval, bA]
    have hnd : ((k.p :: q :: A.flatMap (·.fp)) ++ (x'.fp ++ B.flatMap (·.fp))).Nodup := nodup_swap hnd0 hlt0 hx'.nd hsub
    have hmap : (A ++ x' :: B).map (nodeV h) = ks.map (nodeV h) := by rw [hAb.eq, List.map_append, List.map_cons, List.map_append, List.map_cons]; simp only [nodeV, hxp]
    have hkn' : (A ++ x' :: B).length = k.s := by rw [hsz, hkn, List.length_append, List.length_cons]; omega
    refine ⟨_, rfl, ⟨⟨k.p, (A ++ x' :: B).flatMap (·.l), (A ++ x' :: B).length, k.p :: q :: (A ++ x' :: B).flatMap (·.fp)⟩, mkInner (off := off) (c := c) ⟨-1, by rw [hkn']; exact f4⟩ (by rw [hkn', hmap]; exact hA3) hI.cb ?_ ?_, rfl, hS3', .inl ⟨rfl, ?_, by simp only [hkn']; omega, by simp only [hkn']; omega, ?_⟩⟩⟩
    · rw [List.flatMap_append, List.flatMap_cons]; exact hnd
    · intro y hy
      rcases List.mem_append.1 hy with hy | hy
      · exact ⟨ho3 y (.inl hy), (hKs.oth y (.inl hy)).2.1, (hKs.oth y (.inl hy)).2.2.1⟩
      · rcases List.mem_cons.1 hy with rfl | hy
        · exact ⟨hx', by omega, hs8⟩
        · exact ⟨ho3 y (.inr hy), (hKs.oth y (.inr hy)).2.1, (hKs.oth y (.inr hy)).2.2.1⟩
    · simp only []
      rw [hins, List.flatMap_append, List.flatMap_cons, hl']
    · intro j hj
      simp only [List.flatMap_append, List.flatMap_cons, List.mem_cons, List.mem_append] at hj
      rw [hKs.fp]
      simp only [List.mem_cons, List.mem_append]
      rcases hj with rfl | rfl | hj | hj | hj
      · exact .inl (.inl rfl)
      · exact .inl (.inr (.inl rfl))
      · exact .inl (.inr (.inr (.inl hj)))
      · rcases hsub j hj with h | h
        · exact .inl (.inr (.inr (.inr (.inl h))))
        · exact .inr (by omega)
      · exact .inl (.inr (.inr (.inr (.inr hj))))
  · have w1 : IntKind.i64.wrap ((i : Int) + 1) = ((i + 1 : Nat) : Int) := by rw [wrapI (by omega) (by omega)]; omega
    have hnv : (nodeV h x2).cell? = true := rfl
    simp only [U86, nodeV, f4, ldB1, w1, List.replicate_succ, List.replicate_zero, List.set_cons_zero, seval, bA]
    have hS4 : Same ob3 (ob3 ++ [AObj.box [nodeV h x2]]) (fun _ => False) := Same.app _ _ _
    have hq4 : Arr (ob3 ++ [AObj.box [nodeV h x2]]) 1 ob3.length 0 1 1 [nodeV h x2] := ⟨[nodeV h x2], app0 _ _, Nat.le_refl _, by simp, by simp⟩
    have hl4 : (ob3 ++ [AObj.box [nodeV h x2]]).length = ob3.length + 1 := by simp
    simp only [nodeV] at hS4 hq4 hl4
    generalize ob3 ++ [AObj.box [.ifc (tyN h) (.ref x2.p 0)]] = ob4 at *
    have hq3 : q < ob3.length := hA3.lt
    refine callM (insN (hS4.arr hA3 (fun h => h)) hq4 (by omega) (by omega) (by omega) hI.cb) ?_
    rintro r ob5 ⟨q', off', c', rfl, hX, hq', hS5, hcb⟩
    obtain ⟨ks', hks'⟩ : ∃ ks', ks' = A ++ x' :: x2 :: B := ⟨_, rfl⟩
    have hkn' : ks'.length = k.s + 1 := by rw [hks', hsz, hkn, List.length_append, List.length_cons, List.length_cons]; omega
    have hmap : ks'.map (nodeV h) = (ks.map (nodeV h)).take ((i + 1) * 1) ++ ([PV.ifc (tyN h) (.ref x2.p 0)] ++ (ks.map (nodeV h)).drop ((i + 1) * 1)) := by
      rw [Nat.mul_one, hks', hAb.eq]
      simp only [List.map_append, List.map_cons]
      have e1 : (A.map (nodeV h)).length = i := by rw [List.length_map]; exact hlen
      rw [← hlen, List.take_append, List.drop_append]
      simp [nodeV, hxp]
      rw [List.take_of_length_le (by simp), List.drop_eq_nil_of_le (by simp)]
      simp
    rw [← hmap] at hX
    have hl5 := hS5.1
    have hx3 : ∀ i ∈ x'.fp ++ x2.fp, i < ob3.length := by
      intro j hj
      rcases List.mem_append.1 hj with hj | hj
      · exact hx'.lt j hj
      · exact hx2'.lt j hj
    have havoid : ∀ y ∈ ks', ∀ i ∈ y.fp, i ≠ q' ∧ i ≠ k.p ∧ i < ob3.length := by
      intro y hy j hj
      rw [hks'] at hy
      have key : j < ob3.length ∧ j ≠ q ∧ j ≠ k.p := by
        have hnew : ∀ t ∈ x'.fp ++ x2.fp, t ≠ q ∧ t ≠ k.p := by
          intro t ht
          rcases hsub t ht with h | h
          · exact ⟨fun e => hKs.qx (e ▸ h), fun e => hKs.px (e ▸ h)⟩
          · exact ⟨by omega, by omega⟩
        rcases List.mem_append.1 hy with hy | hy
        · have := (hKs.oth y (.inl hy)).2.2.2 j hj
          exact ⟨(ho3 y (.inl hy)).lt j hj, this.2.2, this.2.1⟩
        · rcases List.mem_cons.1 hy with rfl | hy
          · exact ⟨hx3 j (by simp [hj]), hnew j (by simp [hj])⟩
          · rcases List.mem_cons.1 hy with rfl | hy
            · exact ⟨hx3 j (by simp [hj]), hnew j (by simp [hj])⟩
            · have := (hKs.oth y (.inr hy)).2.2.2 j hj
              exact ⟨(ho3 y (.inr hy)).lt j hj, this.2.2, this.2.1⟩
      refine ⟨?_, key.2.2, key.1⟩
      rcases hq' with h | h
      · rw [h]; exact key.2.1
      · omega
    have hkk : ∀ y ∈ ks', Node ob5 h y ∧ 4 ≤ y.s ∧ y.s ≤ 8 := by
      intro y hy
      have h3 : Node ob3 h y ∧ 4 ≤ y.s ∧ y.s ≤ 8 := by
        rw [hks'] at hy
        rcases List.mem_append.1 hy with hy | hy
        · exact ⟨ho3 y (.inl hy), (hKs.oth y (.inl hy)).2.1, (hKs.oth y (.inl hy)).2.2.1⟩
        · rcases List.mem_cons.1 hy with rfl | hy
          · exact ⟨hx', by omega, by omega⟩
          · rcases List.mem_cons.1 hy with rfl | hy
            · exact ⟨hx2', by omega, by omega⟩
            · exact ⟨ho3 y (.inr hy), (hKs.oth y (.inr hy)).2.1, (hKs.oth y (.inr hy)).2.2.1⟩
      exact ⟨(h3.1.same hS4 (fun _ _ h => h)).same hS5 (fun i hi => (havoid y hy i hi).1), h3.2⟩
    have hpq' : k.p ≠ q' := by rcases hq' with h | h <;> omega
    have f5 := hS4.get f4 (fun h => h)
    have f6 := hS5.get f5 hpq'
    have hp5 : k.p < ob5.length := (List.getElem?_eq_some_iff.1 f6).1
    have g3 := setS hp5
    have hX6 := (Same.set (ob := ob5) (a := AObj.box [.int .i64 (-1), .asl q' off' (k.s + 1) c']) (T := (· = k.p)) rfl).arr hX (Ne.symm hpq')
    have hk6 : ∀ y ∈ ks', Node (ob5.set k.p (AObj.box [.int .i64 (-1), .asl q' off' (k.s + 1) c'])) h y ∧ 4 ≤ y.s ∧ y.s ≤ 8 := fun y hy => ⟨(hkk y hy).1.same (Same.set (T := (· = k.p)) rfl) (fun i hi => (havoid y hy i hi).2.1), (hkk y hy).2⟩
    have hS6 : Same ob (ob5.set k.p (AObj.box [.int .i64 (-1), .asl q' off' (k.s + 1) c'])) (· ∈ k.fp) := by
      have h1 : Same ob ob4 (· ∈ k.fp) := hS3'.trans (hS4.mono fun j h => h.elim)
      have l3 := hS3'.1
      refine ⟨by rw [List.length_set]; omega, fun j hj hT => ?_⟩
      rw [List.getElem?_set_ne (by rintro rfl; exact hT (by rw [hKs.fp]; simp))]
      refine (hS5.2 j (by omega) ?_).trans (h1.2 j hj hT)
      rintro rfl
      rcases hq' with h | h
      · exact hT (by rw [hKs.fp, h]; simp)
      · omega
    have hnd1 : ((k.p :: q :: A.flatMap (·.fp)) ++ ((x'.fp ++ x2.fp) ++ B.flatMap (·.fp))).Nodup := nodup_swap hnd0 hlt0 hndx hsub
    have hfpe : ks'.flatMap (·.fp) = A.flatMap (·.fp) ++ ((x'.fp ++ x2.fp) ++ B.flatMap (·.fp)) := by rw [hks', List.flatMap_append, List.flatMap_cons, List.flatMap_cons, List.append_assoc]
    have hfle : ks'.flatMap (·.l) = insX e k.l := by rw [hins, ← hl', hks', List.flatMap_append, List.flatMap_cons, List.flatMap_cons, List.append_assoc]
    have hltk : ∀ i ∈ k.p :: ks'.flatMap (·.fp), i < ob3.length := by
      intro j hj
      rcases List.mem_cons.1 hj with rfl | hj
      · omega
      · obtain ⟨y, hy, hj⟩ := List.mem_flatMap.1 hj
        exact (havoid y hy j hj).2.2
    have hnd2 : (k.p :: q' :: ks'.flatMap (·.fp)).Nodup := by
      refine nodup_q (q := q) (by rw [hfpe]; exact hnd1) ?_
      rcases hq' with h | h
      · exact .inl h
      · exact .inr fun j hj => by have := hltk j hj; omega
    have l2 : ob.length ≤ ob2.length := hS1.1
    have hsubk : ∀ j ∈ k.p :: q' :: ks'.flatMap (·.fp), j ∈ k.fp ∨ ob.length ≤ j := by
      intro j hj
      rw [hfpe] at hj
      simp only [List.mem_cons, List.mem_append] at hj
      rw [hKs.fp]
      simp only [List.mem_cons, List.mem_append]
      rcases hj with rfl | rfl | hj | (hj | hj) | hj
      · exact .inl (.inl rfl)
      · rcases hq' with h | h
        · exact .inl (.inr (.inl h))
        · exact .inr (by omega)
      · exact .inl (.inr (.inr (.inl hj)))
      · rcases hsub j (by simp [hj]) with h | h
        · exact .inl (.inr (.inr (.inr (.inl h))))
        · exact .inr (by omega)
      · rcases hsub j (by simp [hj]) with h | h
        · exact .inl (.inr (.inr (.inr (.inl h))))
        · exact .inr (by omega)
      · exact .inl (.inr (.inr (.inr (.inr hj))))
    by_cases h9 : 8 < k.s + 1
    · have d9 : decide ((8 : Int) < ((k.s + 1 : Nat) : Int)) = true := decide_eq_true (by omega)
      have h88 : k.s = 8 := by omega
      simp only [U86, f6, g3, ldB1, d9, seval, bA]
      have f7 := g3 (AObj.box [.int .i64 (-1), .asl q' off' (k.s + 1) c'])
      have hl6 : (ob5.set k.p (AObj.box [.int .i64 (-1), .asl q' off' (k.s + 1) c'])).length = ob5.length := by rw [List.length_set]
      generalize ob5.set k.p (AObj.box [.int .i64 (-1), .asl q' off' (k.s + 1) c']) = ob6 at *
      have f8 := app0 ob6
      have g4 : ∀ x, (ob6 ++ [x])[k.p]? = _ := fun x => app1 f7 [x]
      simp only [U86, f8, g4, ldB1, seval, bA]
      have hX7 := (Same.app ob6 [AObj.box [.int .i64 (-1), .slc []]] (fun _ => False)).arr hX6 (fun h => h)
      have hk7 : ∀ y ∈ ks', Node (ob6 ++ [AObj.box [.int .i64 (-1), .slc []]]) h y ∧ 4 ≤ y.s ∧ y.s ≤ 8 := fun y hy => ⟨(hk6 y hy).1.same (Same.app _ _ (fun _ => False)) (fun _ _ h => h), (hk6 y hy).2⟩
      have hS7 : Same ob (ob6 ++ [AObj.box [.int .i64 (-1), .slc []]]) (· ∈ k.fp) := hS6.trans (Same.app _ _ _)
      have f9 := f8 (AObj.box [.int .i64 (-1), .slc []])
      rw [hl6] at f9
      have f10 := g4 (AObj.box [.int .i64 (-1), .slc []])
      have hl7 : (ob6 ++ [AObj.box [.int .i64 (-1), .slc []]]).length = ob5.length + 1 := by rw [List.length_append, hl6]; rfl
      generalize ob6 ++ [AObj.box [.int .i64 (-1), .slc []]] = ob7 at *
      refine callM (splitN hX7 (by omega) (by omega) hcb) ?_
      rintro r ob8 ⟨q2, c2, rfl, hY, hZ, hq2, hc2, hS8⟩
      have e1 : (k.s + 1) / 2 = 4 := by omega
      have e2 : k.s + 1 - 4 = 5 := by omega
      rw [e1] at hY hZ
      rw [e2] at hZ
      have hk8 : ∀ y ∈ ks', Node ob8 h y ∧ 4 ≤ y.s ∧ y.s ≤ 8 := fun y hy => ⟨(hk7 y hy).1.same hS8 (fun _ _ h => h), (hk7 y hy).2⟩
      have hS8' : Same ob ob8 (· ∈ k.fp) := hS7.trans (hS8.mono fun j h => h.elim)
      have f11 := hS8.get f10 (fun h => h)
      have f12 := hS8.get f9 (fun h => h)
      have l7 := hS8.1
      have hp8 : k.p < ob8.length := (List.getElem?_eq_some_iff.1 f11).1
      have g5 := setS hp8
      have hne : k.p ≠ ob5.length := by omega
      have g6 : ∀ x, (ob8.set k.p x)[ob5.length]? = _ := fun x => setO (x := x) hne f12
      simp only [U86, f11, f12, g5, g6, ldB1, e1, e2, seval, bA]
      have hpq2 : k.p ≠ q2 := by omega
      have hq'5 : q' ≠ ob5.length := by have := hX.lt; omega
      have hY1 := (Same.set (ob := ob8) (a := AObj.box [.int .i64 (-1), .asl q' off' 4 4]) (T := (· = k.p)) rfl).arr hY (Ne.symm hpq')
      have hZ1 := (Same.set (ob := ob8) (a := AObj.box [.int .i64 (-1), .asl q' off' 4 4]) (T := (· = k.p)) rfl).arr hZ (Ne.symm hpq2)
      have hk9 : ∀ y ∈ ks', Node (ob8.set k.p (AObj.box [.int .i64 (-1), .asl q' off' 4 4])) h y ∧ 4 ≤ y.s ∧ y.s ≤ 8 := fun y hy => ⟨(hk8 y hy).1.same (Same.set (T := (· = k.p)) rfl) (fun i hi => (havoid y hy i hi).2.1), (hk8 y hy).2⟩
      have hS9 : Same ob (ob8.set k.p (AObj.box [.int .i64 (-1), .asl q' off' 4 4])) (· ∈ k.fp) := hS8'.trans (Same.set (by rw [hKs.fp]; simp))
      have f13 := g5 (AObj.box [.int .i64 (-1), .asl q' off' 4 4])
      have hl9 : (ob8.set k.p (AObj.box [.int .i64 (-1), .asl q' off' 4 4])).length = ob8.length := by rw [List.length_set]
      generalize ob8.set k.p (AObj.box [.int .i64 (-1), .asl q' off' 4 4]) = ob9 at *
      have hq25 : q2 ≠ ob5.length := by omega
      have hr9 : ob5.length < ob9.length := by omega
      have g7 := setS hr9 (AObj.box [.int .i64 (-1), .asl q2 0 5 c2])
      have f14 := setO (x := AObj.box [.int .i64 (-1), .asl q2 0 5 c2]) (Ne.symm hne) f13
      have hT : Same ob9 (ob9.set ob5.length (AObj.box [.int .i64 (-1), .asl q2 0 5 c2])) (· = ob5.length) := Same.set rfl
      have hY2 := hT.arr hY1 hq'5
      have hZ2 := hT.arr hZ1 hq25
      have hk10 : ∀ y ∈ ks', Node (ob9.set ob5.length (AObj.box [.int .i64 (-1), .asl q2 0 5 c2])) h y ∧ 4 ≤ y.s ∧ y.s ≤ 8 := fun y hy => ⟨(hk9 y hy).1.same hT (fun i hi => by have := (havoid y hy i hi).2.2; omega), (hk9 y hy).2⟩
      have l3 := hS3'.1
      have hlen5 : ob.length ≤ ob5.length := by omega
      have hS10 : Same ob (ob9.set ob5.length (AObj.box [.int .i64 (-1), .asl q2 0 5 c2])) (· ∈ k.fp) :=
        ⟨by rw [List.length_set]; omega, fun j hj hT => by rw [List.getElem?_set_ne (by omega)]; exact hS9.2 j hj hT⟩
      have hL4 : (ks'.take 4).length = 4 := by rw [List.length_take, hkn']; omega
      have hR5 : (ks'.drop 4).length = 5 := by rw [List.length_drop, hkn']; omega
      rw [Nat.mul_one, ← List.map_take] at hY2
      rw [Nat.mul_one, ← List.map_drop] at hZ2
      have hsp : ks'.flatMap (·.fp) = (ks'.take 4).flatMap (·.fp) ++ (ks'.drop 4).flatMap (·.fp) := by rw [← List.flatMap_append, List.take_append_drop]
      have hq'b : q' < ob5.length := hX.lt
      have hndT : ((k.p :: q' :: (ks'.take 4).flatMap (·.fp)) ++ (ob5.length :: q2 :: (ks'.drop 4).flatMap (·.fp))).Nodup := by
        refine split_nodup (by rw [← hsp]; exact hnd2) (fun j hj => ?_) (Ne.symm hq25)
        rw [← hsp] at hj
        rcases List.mem_cons.1 hj with rfl | hj
        · exact ⟨hp5, hpq2⟩
        · rcases List.mem_cons.1 hj with rfl | hj
          · exact ⟨hq'b, by omega⟩
          · have := hltk j (by simp [hj]); exact ⟨by omega, by omega⟩
      have hnd3 := List.nodup_append.1 hndT
      refine ⟨_, rfl, ⟨⟨k.p, (ks'.take 4).flatMap (·.l), (ks'.take 4).length, k.p :: q' :: (ks'.take 4).flatMap (·.fp)⟩, mkInner (off := off') (c := 4) ⟨-1, by rw [hL4]; exact f14⟩ (by rw [hL4]; exact hY2) (by omega) hnd3.1 (fun y hy => hk10 y (List.mem_of_mem_take hy)), rfl, hS10,
        .inr ⟨⟨ob5.length, (ks'.drop 4).flatMap (·.l), (ks'.drop 4).length, ob5.length :: q2 :: (ks'.drop 4).flatMap (·.fp)⟩, rfl, mkInner (off := 0) (c := c2) ⟨-1, by rw [hR5]; exact g7⟩ (by rw [hR5]; exact hZ2) hc2 hnd3.2.1 (fun y hy => hk10 y (List.mem_of_mem_drop hy)), ?_, hL4, hR5, ?_, hndT⟩⟩⟩
      · simp only []
        rw [← List.flatMap_append, List.take_append_drop]; exact hfle
      · intro j hj
        rcases List.mem_append.1 hj with hj | hj
        · refine hsubk j ?_
          rw [hsp]
          simp only [List.mem_cons, List.mem_append] at hj ⊢
          rcases hj with h | h | h
          · exact .inl h
          · exact .inr (.inl h)
          · exact .inr (.inr (.inl h))
        · rcases List.mem_cons.1 hj with rfl | hj
          · exact .inr hlen5
          · rcases List.mem_cons.1 hj with rfl | hj
            · exact .inr (by omega)
            · refine hsubk j ?_
              rw [hsp]
              simp only [List.mem_cons, List.mem_append]
              exact .inr (.inr (.inr hj))
    · have d9 : decide ((8 : Int) < ((k.s + 1 : Nat) : Int)) = false := decide_eq_false (by omega)
      simp only [U86, f6, g3, ldB1, d9, seval, bA]
      refine ⟨_, rfl, ⟨⟨k.p, ks'.flatMap (·.l), ks'.length, k.p :: q' :: ks'.flatMap (·.fp)⟩, mkInner (off := off') (c := c') ⟨-1, by rw [hkn']; exact g3 _⟩ (by rw [hkn']; exact hX6) hcb hnd2 hk6, rfl, hS6, .inl ⟨rfl, hfle, by simp only [hkn']; omega, by simp only [hkn']; omega, hsubk⟩⟩⟩

theorem insert_i : ∀ h, InsSpec h
  | 0 => fun hN _ h8 hs hb he => insert_leaf hN h8 hs hb he
  | h + 1 => insert_inner (insert_i h)

end Go.Proofs.YtdgpiobmncohjaaGreat.Aw
