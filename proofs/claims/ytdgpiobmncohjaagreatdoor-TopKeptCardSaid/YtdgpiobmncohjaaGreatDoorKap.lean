/-
 A function's code without its text: what the translation of the program's code comes to, and its parts by number. One plain fact: each part is what it is made of. No condition.; What comes in, shape by shape.; A list of the call's own that is given away for good: a function that makes a result out of it may keep it.
-/
import Derived.Test.YtdgpiobmncohjaaGreatDoorKao
import Derived.Test.YtdgpiobmncohjaaGreatDoorKal
set_option linter.all false
namespace Go.Proofs.YtdgpiobmncohjaaGreatDoor.Aw
open Go.RowKit
structure CF (P : Program) (own : List Nat) (hints : List (List Nat × Nat)) (n : Nat) (fn : Func) where
 a : AC
 r : List ARV
 h : compF P own (drawR P own fn.ntmps) hints n fn = some (a, r)
def yAf (P : Program) (own : List Nat) (n : Nat) (ops : Array Oper) (o : Oper) : Option AOp :=
 match o.op with
 | .call { callee := .value (.func f), args, .. } =>
  match okFn P f with
  | true => compA P own n ops o
  | false => some { dst := o.dst, ao := .ecall f (args.toList.map opx) }
 | _ => compA P own n ops o
def yRf (P : Program) (own : List Nat) (n : Nat) (ops : Array Oper) : Bool → Option AC
 | false => (ops.toList.mapM (yAf P own n ops)).map .reg
 | true => (ops.toList.mapM (yAf P (drawOwn own) n ops)).map fun aps => .dreg ((places aps 0).filterMap id).length (drawL aps (masks (ops.toList.map predsOf) []))
def yCf (P : Program) (own : List Nat) (n : Nat) : Code → List (List Nat × Nat) → Option (AC × List (List Nat × Nat))
 | .skip, h => some (.skip, h)
 | .label _, h => some (.skip, h)
 | .region _ ops d, h => (yRf P own n ops d).map fun ac => (ac, h)
 | .seq a b, h =>
  match yCf P own n a h with
  | some (a', h1) => (yCf P own n b h1).map fun (b', h2) => (.seq a' b', h2)
  | none => none
 | .cond c a b, h =>
  match yCf P own n a h with
  | some (a', h1) => (yCf P own n b h1).map fun (b', h2) => (.cond (opx c) a' b', h2)
  | none => none
 | .block id b, h => (yCf P own n b h).map fun (b', h1) => (.block id b', h1)
 | .loop b, h =>
  match h with
  | (L, k) :: h1 => (yCf P own n b h1).map fun (b', h2) => (.loop L k b', h2)
  | [] => none
 | .exit id, h => some (.exit id, h)
 | .ret, h => some (.ret, h)
 | _, h => some (.fail, h)
def yFf (P : Program) (own : List Nat) (hints : List (List Nat × Nat)) (fn : Func) : Option (AC × List ARV) :=
 match fn.body with
 | some code => match yCf P own fn.ntmps code hints with
  | some (ac, _) => (fn.results.toList.mapM (compRes P)).map fun rs => (ac, rs)
  | none => none
 | none => none
def cTm (P : Program) (own : List Nat) (hints : List (List Nat × Nat)) (n : Nat) (fn : Func) {a r} (_ : yFf P own hints fn = some (a, r)) (h : compF P own (drawR P own fn.ntmps) hints n fn = some (a, r)) : CF P own hints n fn := ⟨a, r, h⟩
def pcs : AC → List AC
 | .skip => []
 | .exit _ => []
 | .ret => []
 | .fail => []
 | .reg l => [.reg l]
 | .dreg m l => [.dreg m l]
 | .dreg2 m x y z => [.dreg2 m x y z]
 | .dregs m t => [.dregs m t]
 | .seq a b => pcs a ++ (pcs b ++ [.seq a b])
 | .cond c a b => pcs a ++ (pcs b ++ [.cond c a b])
 | .block i b => pcs b ++ [.block i b]
 | .loop k m b => pcs b ++ [.loop k m b]
def pc (a : AC) (i : Nat) : AC := (pcs a).getD i .skip
def szA : AC → Nat
 | .skip => 0
 | .exit _ => 0
 | .ret => 0
 | .fail => 0
 | .reg _ => 1
 | .dreg _ _ => 1
 | .dreg2 _ _ _ _ => 1
 | .dregs _ _ => 1
 | .seq a b => szA a + szA b + 1
 | .cond _ a b => szA a + szA b + 1
 | .block _ b => szA b + 1
 | .loop _ _ b => szA b + 1
def nmA (g : Nat → AC) (n : Nat) : AC → AC
 | .skip => .skip
 | .exit i => .exit i
 | .ret => .ret
 | .fail => .fail
 | .reg _ => g n
 | .dreg _ _ => g n
 | .dreg2 _ _ _ _ => g n
 | .dregs _ _ => g n
 | .seq a b => g (n + szA a + szA b)
 | .cond _ a b => g (n + szA a + szA b)
 | .block _ b => g (n + szA b)
 | .loop _ _ b => g (n + szA b)
def EU (x y : AC) : Prop := ∀ {P bb Q f ob}, AWP P bb x Q ⟨f, ob⟩ = AWP P bb y Q ⟨f, ob⟩
def EQ (g : Nat → AC) : Nat → AC → Prop
 | _, .skip => True
 | _, .exit _ => True
 | _, .ret => True
 | _, .fail => True
 | n, .reg l => ∀ {P bb Q f ob}, AWP P bb (g n) Q ⟨f, ob⟩ = AOps P ob.length l (Q .n) ⟨f, ob⟩
 | n, .dreg m l => ∀ {P bb Q f ob}, AWP P bb (g n) Q ⟨f, ob⟩ = AOps P ob.length l (Q .n) ⟨f, ob ++ List.replicate m .none⟩
 | n, .dreg2 m x y z => EU (g n) (.dreg2 m x y z)
 | n, .dregs m t => EU (g n) (.dregs m t)
 | n, .seq a b => (EQ g n a ∧ EQ g (n + szA a) b) ∧ EU (g (n + szA a + szA b)) (.seq (nmA g n a) (nmA g (n + szA a) b))
 | n, .cond c a b => (EQ g n a ∧ EQ g (n + szA a) b) ∧ EU (g (n + szA a + szA b)) (.cond c (nmA g n a) (nmA g (n + szA a) b))
 | n, .block i b => EQ g n b ∧ EU (g (n + szA b)) (.block i (nmA g n b))
 | n, .loop k m b => EQ g n b ∧ EU (g (n + szA b)) (.loop k m (nmA g n b))
theorem pcs_len (a : AC) : (pcs a).length = szA a := by
 induction a <;> simp_all [pcs, szA] <;> omega
theorem nmA_ok {g : Nat → AC} {n : Nat} (a : AC) (h : ∀ i, i < szA a → g (n + i) = (pcs a).getD i .skip) : nmA g n a = a := by
 cases a with
 | skip => rfl
 | exit => rfl
 | ret => rfl
 | fail => rfl
 | reg l => exact h 0 (by simp [szA])
 | dreg m l => exact h 0 (by simp [szA])
 | dreg2 m x y z => exact h 0 (by simp [szA])
 | dregs m t => exact h 0 (by simp [szA])
 | seq a b => have := h (szA a + szA b) (by simp [szA]); rw [nmA, Nat.add_assoc, this, pcs, ← pcs_len a, ← pcs_len b]; simp
 | cond c a b => have := h (szA a + szA b) (by simp [szA]); rw [nmA, Nat.add_assoc, this, pcs, ← pcs_len a, ← pcs_len b]; simp
 | block i b => have := h (szA b) (by simp [szA]); rw [nmA, this, pcs, ← pcs_len b]; simp
 | loop k m b => have := h (szA b) (by simp [szA]); rw [nmA, this, pcs, ← pcs_len b]; simp
theorem EU_of {x y : AC} (h : x = y) : EU x y := by rw [h]; exact rfl
theorem gdl {l m : List AC} {i d} (h : i < l.length) : (l ++ m).getD i d = l.getD i d := by rw [List.getD_eq_getElem?_getD, List.getElem?_append_left h, List.getD_eq_getElem?_getD]
theorem gdr {l m : List AC} {i d} (h : l.length ≤ i) : (l ++ m).getD i d = m.getD (i - l.length) d := by rw [List.getD_eq_getElem?_getD, List.getElem?_append_right h, List.getD_eq_getElem?_getD]
theorem EQ_ok {g : Nat → AC} (a : AC) : ∀ (n : Nat), (∀ i, i < szA a → g (n + i) = (pcs a).getD i .skip) → EQ g n a := by
 have two : ∀ {a b : AC} {n : Nat} {x : AC}, (∀ i, i < szA a + szA b + 1 → g (n + i) = (pcs a ++ (pcs b ++ [x])).getD i .skip) → (∀ i, i < szA a → g (n + i) = (pcs a).getD i .skip) ∧ (∀ i, i < szA b → g (n + szA a + i) = (pcs b).getD i .skip) ∧ g (n + szA a + szA b) = x := by
  intro a b n x h
  refine ⟨fun i hi => ?_, fun i hi => ?_, ?_⟩
  ·rw [h i (by omega), gdl (by rw [pcs_len]; exact hi)]
  ·rw [Nat.add_assoc, h _ (by omega), gdr (by rw [pcs_len]; omega), pcs_len, Nat.add_sub_cancel_left, gdl (by rw [pcs_len]; exact hi)]
  ·rw [Nat.add_assoc, h _ (by omega), ← pcs_len a, ← pcs_len b]; simp
 have one : ∀ {b : AC} {n : Nat} {x : AC}, (∀ i, i < szA b + 1 → g (n + i) = (pcs b ++ [x]).getD i .skip) → (∀ i, i < szA b → g (n + i) = (pcs b).getD i .skip) ∧ g (n + szA b) = x := by
  intro b n x h
  refine ⟨fun i hi => ?_, ?_⟩
  ·rw [h i (by omega), gdl (by rw [pcs_len]; exact hi)]
  ·rw [h _ (by omega), ← pcs_len b]; simp
 induction a with
 | skip => intros; trivial
 | exit => intros; trivial
 | ret => intros; trivial
 | fail => intros; trivial
 | reg l => intro n h P bb Q f ob; exact mR (h 0 (by simp [szA]))
 | dreg m l => intro n h P bb Q f ob; exact mD (h 0 (by simp [szA]))
 | dreg2 m x y z => intro n h; exact EU_of (h 0 (by simp [szA]))
 | dregs m t => intro n h; exact EU_of (h 0 (by simp [szA]))
 | seq a b ia ib =>
  intro n h; obtain ⟨h1, h2, h3⟩ := two h
  exact ⟨⟨ia n h1, ib _ h2⟩, EU_of (by rw [nmA_ok a h1, nmA_ok b h2, h3])⟩
 | cond c a b ia ib =>
  intro n h; obtain ⟨h1, h2, h3⟩ := two h
  exact ⟨⟨ia n h1, ib _ h2⟩, EU_of (by rw [nmA_ok a h1, nmA_ok b h2, h3])⟩
 | block i b ib =>
  intro n h; obtain ⟨h1, h2⟩ := one h
  exact ⟨ib n h1, EU_of (by rw [nmA_ok b h1, h2])⟩
 | loop k m b ib =>
  intro n h; obtain ⟨h1, h2⟩ := one h
  exact ⟨ib n h1, EU_of (by rw [nmA_ok b h1, h2])⟩
theorem u_ok {P own hints n fn} (d e : CF P own hints n fn) (h : d = e) : (d.r = e.r ∧ EU d.a (nmA (pc d.a) 0 e.a)) ∧ EQ (pc d.a) 0 e.a := by
 subst h
 refine ⟨⟨rfl, EU_of (nmA_ok _ fun i hi => ?_).symm⟩, EQ_ok _ 0 fun i hi => ?_⟩ <;> rw [Nat.zero_add, pc]
def pA := (And.intro (And.intro (And.intro (And.intro (And.intro (And.intro @EQ.eq_1 @EQ.eq_2) @EQ.eq_3) (And.intro @EQ.eq_4 @EQ.eq_5)) (And.intro (And.intro (And.intro @EQ.eq_6 @EQ.eq_7) @EQ.eq_8) (And.intro @EQ.eq_9 @EQ.eq_10))) (And.intro (And.intro (And.intro (And.intro @EQ.eq_11 @EQ.eq_12) @EU.eq_1) (And.intro @nmA.eq_1 @nmA.eq_2)) (And.intro (And.intro (And.intro @nmA.eq_3 @nmA.eq_4) @nmA.eq_5) (And.intro @nmA.eq_6 @nmA.eq_7)))) (And.intro (And.intro (And.intro (And.intro (And.intro @nmA.eq_8 @nmA.eq_9) @nmA.eq_10) (And.intro @nmA.eq_11 @nmA.eq_12)) (And.intro (And.intro (And.intro @szA.eq_1 @szA.eq_2) @szA.eq_3) (And.intro @szA.eq_4 @szA.eq_5))) (And.intro (And.intro (And.intro (And.intro @szA.eq_6 @szA.eq_7) @szA.eq_8) (And.intro @szA.eq_9 @szA.eq_10)) (And.intro (And.intro @szA.eq_11 @szA.eq_12) (And.intro @true_and @and_true)))))
open Go.RowKit
mutual
def nz : PV → PV
 | .nils => .slc []
 | .agg cs => .agg (nzL cs)
 | .tup cs => .tup (nzL cs)
 | .bot => .bot
 | .int k n => .int k n
 | .bool b => .bool b
 | .str x => .str x
 | .slc r => .slc r
 | .osl a b c => .osl a b c
 | .ref a b => .ref a b
 | .lref a b c d => .lref a b c d
 | .bsl a b c => .bsl a b c
 | .fptr c => .fptr c
 | .nilp => .nilp
 | .fn f p q => .fn f p q
 | .nilf => .nilf
 | .ifc t p => .ifc t p
 | .nili => .nili
 | .mp o => .mp o
 | .nilm => .nilm
 | .own e r => .own e r
 | .asl a b c d => .asl a b c d
def nzL : List PV → List PV
 | [] => []
 | p :: r => nz p :: nzL r
end
theorem nzL_get : ∀ (cs : List PV) (i : Nat), (nzL cs)[i]? = (cs[i]?).map nz
 | [], i => by simp [nzL]
 | c :: cs, 0 => by simp [nzL]
 | c :: cs, i + 1 => by simpa [nzL] using nzL_get cs i
theorem nzL_len : ∀ (cs : List PV), (nzL cs).length = cs.length
 | [] => rfl
 | c :: cs => by simp [nzL, nzL_len cs]
theorem R1_nz {w : World} {F : Nat → Prop} {l : Locs} {p : PV} {v : Value} (h : R1 w F l p v) : R1 w F l (nz p) v := by
 induction h with
 | nils => exact .slc0 _ _
 | agg hl h ih =>
  refine .agg (by rw [nzL_len]; exact hl) fun i c x h1 h2 => ?_
  rw [nzL_get] at h1
  obtain ⟨c', h3, rfl⟩ := Option.map_eq_some_iff.1 h1
  exact ih i c' x h3 h2
 | tup hl h ih =>
  refine .tup (by rw [nzL_len]; exact hl) fun i c x h1 h2 => ?_
  rw [nzL_get] at h1
  obtain ⟨c', h3, rfl⟩ := Option.map_eq_some_iff.1 h1
  exact ih i c' x h3 h2
 | bot v => exact .bot v
 | int k n => exact .int k n
 | bool b => exact .bool b
 | str x => exact .str x
 | slc0 a c => exact .slc0 a c
 | slcN a b c d e f g => exact .slcN a b c d e f g
 | osl a b c d e => exact .osl a b c d e
 | ref a b => exact .ref a b
 | lref a b c d e => exact .lref a b c d e
 | bsl a b c => exact .bsl a b c
 | fptr a b c d => exact .fptr a b c d
 | nilp => exact .nilp
 | fn a b c d => exact .fn a b c d
 | nilf => exact .nilf
 | ifc h => exact .ifc h
 | nili => exact .nili
 | mp a b => exact .mp a b
 | nilm => exact .nilm
 | asl a b c d => exact .asl a b c d
theorem PCall.nzA {P : Program} {f : Nat} {args args' : List PV} {r : PV} (h : PCall P f args r) (e : nzL args' = args) : PCall P f args' r := by
 subst e
 refine ⟨h.1, fun w F vs hg hF hv => h.2 w F vs hg hF ⟨by rw [nzL_len]; exact hv.1, fun i c x h1 h2 => ?_⟩⟩
 rw [nzL_get] at h1
 obtain ⟨c', h3, rfl⟩ := Option.map_eq_some_iff.1 h1
 exact R1_nz (hv.2 i c' x h3 h2)
open Go.RowKit
section
variable {c : Ctx} {F : Nat → Prop} {l : Locs} {ob : List AObj} {w : World}
theorem RepW.after {F' : Nat → Prop} {w' : World} (R : RepW c F l ob w) (hB : Below w.heap.size w w') (h1 : ∀ b, F b → F' b) (h2 : ∀ b, F' b → F b ∨ w.heap.size ≤ b) (h3 : ∀ b, F' b → b < w'.heap.size) :
  RepW c F' l ob w' ∧ Mono w F l w' F' l := by
 obtain ⟨R1', m1⟩ := R.ext hB
 have m : Mono w F l w' F' l := ⟨h1, fun b hb => m1.heap b hb, LocExt.refl l⟩
 have m2 : Mono w' F l w' F' l := ⟨h1, fun b hb => rfl, LocExt.refl l⟩
 refine ⟨⟨R1'.below, fun b hb => h1 b (R.f0 b hb), ?_, h3, R1'.lt, ?_, ?_, R1'.inj⟩, m⟩
 ·intro b hb
  rcases h2 b hb with h | h
  ·exact R.fn b h
  ·exact .inr (Nat.le_trans R.below.size h)
 ·intro o ao ho
  rcases R1'.objs o ao ho with g | ⟨L, g1, g2⟩
  ·exact .inl g
  ·exact .inr ⟨L, g1, g2.up m2 fun _ => rfl⟩
 ·intro o L ho hn
  have := R1'.own o L ho hn
  refine ⟨this.1, this.2.1, fun hb => ?_⟩
  rcases h2 _ hb with h | h
  ·exact this.2.2 h
  ·have := (R.own o L ho hn).2.1; omega
end
end Go.Proofs.YtdgpiobmncohjaaGreatDoor.Aw
