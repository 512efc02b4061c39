/-
 The extents below a node handed on.; A slice over a box handed to a call that reads it.; The nodes of a tree, those below one ahead of it.; Lists each of whose elements may be, and may stand behind the one ahead; the first place of something. Plain Lean.; Numbers as bytes, the lowest first. Plain Lean.; What the functions of the package 'field' compute.; Reading fields, and taking rows of them.; What the document's functions of layer 1 compute: the same.
-/
import Derived.Test.YtdgpiobmncohjaaGreatDoorKav
import Derived.Test.YtdgpiobmncohjaaGreatDoorKaq
import Derived.Test.YtdgpiobmncohjaaGreatDoorKap
import Derived.Test.YtdgpiobmncohjaaGreatDoorQa
import Derived.Test.YtdgpiobmncohjaaGreatDoorQb
import Derived.Test.YtdgpiobmncohjaaGreatDoorQc
import Derived.Test.YtdgpiobmncohjaaGreatDoorQp
import Derived.Test.YtdgpiobmncohjaaGreatDoorQl
import Derived.Test.YtdgpiobmncohjaaGreatDoorQn
import Derived.Test.YtdgpiobmncohjaaGreatDoorQs
import Derived.Test.YtdgpiobmncohjaaGreatDoorQr
import Derived.Test.YtdgpiobmncohjaaGreatDoorQw
import Derived.Test.YtdgpiobmncohjaaGreatDoorKao
set_option linter.all false
set_option maxRecDepth 100000
namespace Go.Proofs.YtdgpiobmncohjaaGreatDoor.Aw
open Go.RowKit Ar
structure CbOk {σ : Type} (g : Nat) (cap : List PV) (Inv : σ → List AObj → Prop) (step : σ → Xt → Bool × σ) (len : σ → Nat) : Prop where
 grow : ∀ s e, len (step s e).2 ≤ len s + 1
 call : ∀ s ob e, OneP e → len s < 16777216 → Inv s ob → ICall Tryz.prog g (pE e :: cap) ob fun r ob' => r = .bool (step s e).1 ∧ Inv (step s e).2 ob'
 app : ∀ s ob x, Inv s ob → Inv s (ob ++ [x])
theorem run_len {σ : Type} {step : σ → Xt → Bool × σ} {len : σ → Nat} (hg : ∀ s e, len (step s e).2 ≤ len s + 1) : ∀ (l : List Xt) (s : σ), len (runX step l s).2 ≤ len s + l.length
 | [], s => Nat.le_refl _
 | e :: l, s => by
  rw [runX]
  have := hg s e
  split
  ·have := run_len hg l (step s e).2
   simp only [List.length_cons]; omega
  ·simp only [List.length_cons]; omega
def FromSpec [Fr] (h : Nat) : Prop := ∀ {σ : Type} {g : Nat} {cap : List PV} {Inv : σ → List AObj → Prop} {step : σ → Xt → Bool × σ} {len : σ → Nat} {ob0 : List AObj} {k : Kd} {lo sec : Int},
 CbOk g cap Inv step len → Node ob0 h k → 1 ≤ k.s → k.s ≤ 8 → Chain lo k.l → (∀ s ob, Inv s ob → ∀ i ∈ k.fp, ob[i]? = ob0[i]?) → ∀ s ob, len s + (fltS sec k.l).length ≤ 16777216 → Inv s ob →
 ICall Tryz.prog 97 [nodeV h k, .int .i64 sec, .fn (.func g) [] cap] ob fun r ob' => r = .bool (runX step (fltS sec k.l) s).1 ∧ Inv (runX step (fltS sec k.l) s).2 ob'
theorem fltS_drop {sec : Int} {l : List Xt} {j : Nat} (h : j < l.length) : fltS sec (l.drop j) = if sec < endE l[j] then l[j] :: fltS sec (l.drop (j + 1)) else fltS sec (l.drop (j + 1)) := by
 rw [List.drop_eq_getElem_cons h, fltS, List.filter_cons]
 by_cases hc : sec < endE l[j]
 ·rw [if_pos (decide_eq_true hc), if_pos hc]; rfl
 ·rw [if_neg (by simpa using hc), if_neg hc]; rfl
theorem from_leaf [Fr] : FromSpec 0 := by
 intro σ g cap Inv step len ob0 k lo sec hcb hN h1 h8 hch hfr s ob hlen0 hI
 obtain ⟨q, off, c, hL⟩ := hN
 obtain ⟨a, hbx, whbx⟩ := hL.bx
 have hsz := hL.sz
 have hA := hL.ar
 rw [hsz] at hA hbx
 have hbx' := fun s ob hI => (hfr s ob hI k.p (by rw [hL.fp]; simp)).trans hbx
 have hA' := fun s ob hI => hA.keep (hfr s ob hI q (by rw [hL.fp]; simp))
 have hb0 := hbx' s ob hI
 obtain ⟨tot, htot⟩ : ∃ tot, runX step (fltS sec k.l) s = tot := ⟨_, rfl⟩
 rw [htot]
 rw [nodeV_0]
 refine icall_dr Tryz.func97 E97.h ?_
 simp only [U97, hb0, ldB1, seval, bA]
 refine loopF (fun x : Nat × σ × List AObj => ⟨ofL [(1, .int .i64 sec), (2, .fn (.func g) [] cap), (20, .asl q off k.l.length c), (21, .int .i64 k.l.length), (22, .int .i64 x.1)], x.2.2⟩)
  (fun x => x.1 ≤ k.l.length ∧ Inv x.2.1 x.2.2 ∧ runX step (fltS sec (k.l.drop x.1)) x.2.1 = tot ∧ len x.2.1 + (fltS sec (k.l.drop x.1)).length ≤ 16777216) (fun x => k.l.length - x.1) (0, s, ob) ?_ ⟨Nat.zero_le _, hI, htot, hlen0⟩ ?_
 ·simp only [U97, seval, bA]
  all_goals rfl
 rintro ⟨j, s', ob'⟩ ⟨hj, hI', hrun, hlj⟩
 simp only at hj hI' hrun hlj
 by_cases h : j < k.l.length
 ·have d : decide ((j : Int) < (k.l.length : Int)) = true := by simpa using h
  have d' : decide (j < k.l.length) = true := by simpa using h
  have e1 : IntKind.i64.wrap ((j : Int) + 1) = ((j + 1 : Nat) : Int) := by rw [wrapI (by omega) (by omega)]; omega
  have hld := ldX (hA' s' ob' hI') h
  have hone := chain_one hch _ (List.getElem_mem h)
  have w : IntKind.i64.wrap (k.l[j].fr + k.l[j].n) = endE k.l[j] := by rw [wrapI (by have := hone.1; have := hone.2.1; omega) (by have := hone.2.2.2.1; omega)]; rfl
  have g1 : ∀ (x : AObj), (ob' ++ [x])[ob'.length]? = some x := fun x => app0 ob' x
  have g2 := setA ob'
  rw [fltS_drop h] at hrun hlj
  by_cases hs : sec < endE k.l[j]
  ·have ds : decide (sec < endE k.l[j]) = true := decide_eq_true hs
   rw [if_pos hs] at hlj
   rw [if_pos hs, runX] at hrun
   simp only [List.length_cons] at hlj
   have hgr := hcb.grow s' k.l[j]
   simp only [U97, d, d', hld, rowE, g1, g2, ldB1, w, ds, seval, bA]
   refine callM (hcb.call s' _ _ hone (by omega) (hcb.app _ _ _ hI')) ?_
   rintro r ob2 ⟨rfl, hI2⟩
   by_cases hb : (step s' k.l[j]).1 = true
   ·rw [if_pos hb] at hrun
    simp only [U97, hb, e1, seval, bA]
    exact ⟨(j + 1, (step s' k.l[j]).2, ob2), rfl, ⟨h, hI2, hrun, by simp only []; omega⟩, by simp only; omega⟩
   ·rw [if_neg hb] at hrun
    simp only [Bool.not_eq_true] at hb
    simp only [U97, hb, seval, bA]
    exact ⟨_, rfl, by rw [← hrun], by rw [← hrun]; exact hI2⟩
  ·have ds : decide (sec < endE k.l[j]) = false := decide_eq_false hs
   rw [if_neg hs] at hrun hlj
   simp only [U97, d, d', hld, rowE, g1, g2, ldB1, w, ds, e1, seval, bA]
   exact ⟨(j + 1, s', _), rfl, ⟨h, hcb.app _ _ _ hI', hrun, hlj⟩, by simp only; omega⟩
 ·have d : decide ((j : Int) < (k.l.length : Int)) = false := by simpa using h
  have hd : k.l.drop j = [] := List.drop_eq_nil_of_le (by omega)
  rw [hd] at hrun
  simp only [fltS, List.filter_nil, runX] at hrun
  simp only [U97, d, seval, bA]
  exact ⟨_, rfl, by rw [← hrun], by rw [← hrun]; exact hI'⟩
theorem about_end {ks A B : List Kd} {x : Kd} {v lo : Int} {i : Nat} (hi : i = undF (keyK ks) v (ks.length - 1)) (hA : About ks v i A x B) (hc : Chain lo (ks.flatMap (·.l))) (hx : x.l ≠ []) : ∀ y ∈ A.flatMap (·.l), endE y ≤ v := by
 intro y hy
 have hat := undF_at (keyK ks) v (ks.length - 1)
 rw [← hi] at hat
 rcases hat with h0 | h0
 ·have : A = [] := List.eq_nil_of_length_eq_zero (by rw [hA.len, h0])
  rw [this] at hy; simp at hy
 ·have hlt := (List.getElem?_eq_some_iff.1 hA.at).1
  have hke : keyK ks i = keyX x.l := by simp [keyK, hA.at]
  rw [hke] at h0
  rw [hA.eq, List.flatMap_append, List.flatMap_cons] at hc
  obtain ⟨m, _, h2, h3⟩ := chain_right hc
  obtain ⟨z, hz, hzk⟩ := keyX_mem hx
  have := chain_ge h2 z (by simp [hz])
  have := h3 y hy
  omega
theorem from_inner [Fr] {h' : Nat} (IH : FromSpec h') : FromSpec (h' + 1) := by
 intro σ g cap Inv step len ob0 k lo sec hcb hN h1 h8 hch hfr s ob hlen0 hI
 obtain ⟨q, off, c, ks, hIn, hk⟩ := hN
 obtain ⟨a, hbx, whbx⟩ := hIn.bx
 have hsz := hIn.sz
 have hA := hIn.ar
 have h0 : 0 < ks.length := by omega
 rw [hsz] at hA hbx
 have hpm : k.p ∈ k.fp := by rw [hIn.fp]; simp
 have hqm : q ∈ k.fp := by rw [hIn.fp]; simp
 have hxm : ∀ x ∈ ks, ∀ i ∈ x.fp, i ∈ k.fp := fun x hx i hi => by rw [hIn.fp]; simp only [List.mem_cons, List.mem_flatMap]; exact .inr (.inr ⟨x, hx, hi⟩)
 have hA' := fun s ob hI => hA.keep (hfr s ob hI q hqm)
 have hb0 := (hfr s ob hI k.p hpm).trans hbx
 have hI0 : InnerAt ob h' k q off c ks := ⟨hIn.fp, hIn.nd, hIn.sz, hIn.fl, ⟨a, by rw [hsz]; exact hb0, whbx⟩, by rw [hsz]; exact hA' s ob hI, hIn.cb⟩
 have hk0 : ∀ x ∈ ks, Node ob h' x ∧ 1 ≤ x.s := fun x hx => ⟨(hk x hx).1.frame fun i hi => hfr s ob hI i (hxm x hx i hi), by have := (hk x hx).2.1; omega⟩
 have hks : SortX (ks.flatMap (·.l)) := by have := chain_sort hch; rw [hIn.fl] at this; exact this
 have hne : ∀ x ∈ ks, x.l ≠ [] := fun x hx => (hk x hx).1.ne (by have := (hk x hx).2.1; omega)
 obtain ⟨A, x, B, hAb⟩ := about hks hne h0 sec
 have hfl := hIn.fl
 have hch' := hch
 rw [hfl] at hch'
 have hend := about_end rfl hAb hch' (hne x (by rw [hAb.eq]; simp))
 obtain ⟨tot, htot⟩ : ∃ tot, runX step (fltS sec k.l) s = tot := ⟨_, rfl⟩
 rw [htot]
 rw [nodeV_s]
 refine icall_dr Tryz.func97 E97.h ?_
 simp only [U97, hb0, ldB1, seval, bA]
 refine callR (under_r hI0 hk0 h0 (by omega) sec) ?_
 have hlen := hAb.len
 generalize undF (keyK ks) sec (ks.length - 1) = i at *
 have hi : i < ks.length := (List.getElem?_eq_some_iff.1 hAb.at).1
 have s0 : aslB 1 q off ks.length c (some (i : Int)) (some (ks.length : Int)) (some (c : Int)) = some (.asl q (off + i * 1) (ks.length - i) (c - i)) := aslB_n (by obtain ⟨_, _, h, _⟩ := hA; omega)
 simp only [U97, s0, seval, bA]
 have hdrop : fltS sec k.l = fltS sec ((ks.drop i).flatMap (·.l)) := by
  have e1 : ks.drop i = x :: B := by rw [← hlen, hAb.eq, List.drop_left]
  rw [hfl, e1, hAb.eq, List.flatMap_append, fltS_app, fltS_nil hend, List.nil_append]
 rw [hdrop] at htot hlen0
 refine loopF (fun x : Nat × σ × List AObj => ⟨ofL [(1, .int .i64 sec), (2, .fn (.func g) [] cap), (50, .asl q (off + i * 1) (ks.length - i) (c - i)), (51, .int .i64 (ks.length - i : Nat)), (52, .int .i64 x.1)], x.2.2⟩)
  (fun x => x.1 ≤ ks.length - i ∧ Inv x.2.1 x.2.2 ∧ runX step (fltS sec ((ks.drop (i + x.1)).flatMap (·.l))) x.2.1 = tot ∧ len x.2.1 + (fltS sec ((ks.drop (i + x.1)).flatMap (·.l))).length ≤ 16777216) (fun x => ks.length - x.1) (0, s, ob) ?_ ⟨Nat.zero_le _, hI, htot, hlen0⟩ ?_
 ·simp only [U97, seval, bA]
  all_goals rfl
 rintro ⟨j, s', ob'⟩ ⟨hj, hI', hrun, hlj⟩
 simp only at hj hI' hrun hlj
 by_cases h : j < ks.length - i
 ·have d : decide ((j : Int) < ((ks.length - i : Nat) : Int)) = true := by simpa using h
  have d' : decide (j < ks.length - i) = true := by simpa using h
  have e1 : IntKind.i64.wrap ((j : Int) + 1) = ((j + 1 : Nat) : Int) := by rw [wrapI (by omega) (by omega)]; omega
  have hij : i + j < ks.length := by omega
  have hld := ldK (hA' s' ob' hI') (i := i + j) (x := nodeV h' ks[i + j]) (by simp [hij])
  rw [show off + (i + j) * 1 = off + i * 1 + j * 1 by omega] at hld
  have hx := hk ks[i + j] (List.getElem_mem hij)
  rw [List.drop_eq_getElem_cons hij, List.flatMap_cons, fltS_app] at hlj
  rw [List.drop_eq_getElem_cons hij, List.flatMap_cons, fltS_app, runX_app] at hrun
  rw [List.length_append] at hlj
  have hgr := run_len hcb.grow (fltS sec ks[i + j].l) s'
  simp only [U97, d, d', hld, nodeV, ldB1, seval, bA]
  have hcx : ∃ lo', Chain lo' ks[i + j].l := by
   have hc := hch'
   rw [← List.take_append_drop (i + j) ks, List.flatMap_append, List.drop_eq_getElem_cons hij, List.flatMap_cons] at hc
   obtain ⟨m, _, h2, _⟩ := chain_right hc
   exact ⟨m, chain_left h2⟩
  obtain ⟨lo', hcx⟩ := hcx
  have hih := IH (sec := sec) hcb hx.1 (by omega) hx.2.2 hcx (fun s ob hI i' hi' => hfr s ob hI i' (hxm _ (List.getElem_mem hij) i' hi')) s' ob' (by omega) hI'
  simp only [nodeV] at hih
  refine callM hih ?_
  rintro r ob2 ⟨rfl, hI2⟩
  by_cases hb : (runX step (fltS sec ks[i + j].l) s').1 = true
  ·rw [if_pos hb] at hrun
   simp only [U97, hb, e1, seval, bA]
   exact ⟨(j + 1, (runX step (fltS sec ks[i + j].l) s').2, ob2), rfl, ⟨h, hI2, by simp only []; rw [← Nat.add_assoc]; exact hrun, by simp only []; rw [← Nat.add_assoc]; omega⟩, by simp only; omega⟩
  ·rw [if_neg hb] at hrun
   simp only [Bool.not_eq_true] at hb
   simp only [U97, hb, seval, bA]
   exact ⟨_, rfl, by rw [← hrun], by rw [← hrun]; exact hI2⟩
 ·have d : decide ((j : Int) < ((ks.length - i : Nat) : Int)) = false := by simpa using h
  have hd : ks.drop (i + j) = [] := List.drop_eq_nil_of_le (by omega)
  rw [hd] at hrun
  simp only [List.flatMap_nil, fltS, List.filter_nil, runX] at hrun
  simp only [U97, d, seval, bA]
  exact ⟨_, rfl, by rw [← hrun], by rw [← hrun]; exact hI'⟩
theorem from_i [Fr] : ∀ h, FromSpec h
 | 0 => from_leaf
 | h + 1 => from_inner (from_i h)
theorem walk_i [Fr] {σ : Type} {g : Nat} {cap : List PV} {Inv : σ → List AObj → Prop} {step : σ → Xt → Bool × σ} {len : σ → Nat} {ob0 ob : List AObj} {t : Nat} {l : List Xt} {fp : List Nat} {lo sec : Int} {s : σ}
  (hcb : CbOk g cap Inv step len) (hT : TreeAt ob0 t l fp) (hch : Chain lo l) (hfr : ∀ s ob, Inv s ob → ∀ i ∈ t :: fp, ob[i]? = ob0[i]?) (hlen : len s + l.length ≤ 16777216) (hI : Inv s ob) :
  ICall Tryz.prog 56 [.ref t 0, .int .i64 sec, .fn (.func g) [] cap] ob fun _ ob' => Inv (runX step (fltS sec l) s).2 ob' := by
 obtain ⟨v, hv, hTop⟩ := hT.ex
 have hv' := (hfr s ob hI t (by simp)).trans hv
 refine icall_dr Tryz.func56 E56.h ?_
 cases hTop with
 | nil =>
  simp only [U56, hv', ldB1, seval, bA]
  exact ⟨_, rfl, hI⟩
 | node h k hN h1 h2 h8 =>
  simp only [U56, hv', ldB1, nodeV, seval, bA]
  have hf := from_i h (sec := sec) hcb hN h1 h8 hch (fun s ob hI i hi => hfr s ob hI i (by simp [hi])) s ob (by have : (fltS sec k.l).length ≤ k.l.length := List.length_filter_le _ _; omega) hI
  simp only [nodeV] at hf
  refine callM hf ?_
  rintro r ob2 ⟨rfl, hI2⟩
  simp only [U56, seval, bA]
  exact ⟨_, rfl, hI2⟩
open Go.RowKit
theorem RL.takeN {w : World} {F : Nat → Prop} {l : Locs} {ps : List PV} {vs : List Value} (h : RL w F l ps vs) (n : Nat) : RL w F l (ps.take n) (vs.take n) := by
 refine ⟨by rw [List.length_take, List.length_take, h.1], fun i c x h1 h2 => ?_⟩
 rw [List.getElem?_take] at h1 h2
 split at h1
 ·rename_i hi; rw [if_pos hi] at h2; exact h.2 i c x h1 h2
 ·cases h1
theorem RCall.ofArr {P : Program} {f : Nat} {pre post : List PV} {o off n c esz : Nat} {rows : List (List PV)} {ob : List AObj} {r : PV} (h : PCall P f (pre ++ .slc rows :: post) r) (hA : Arr ob esz o off n c rows.flatten) (hr : ∀ q ∈ rows, q.length = esz) (hn : rows.length = n) (h0 : ownL rows.flatten = false) (hf : r.flat = true) (hpre : ownL pre = false) (hpost : ownL post = false) :
  RCall P f (pre ++ .asl o off n c :: post) ob r := by
 refine ⟨h.1, fun cx w F l vs R hv => ?_⟩
 obtain ⟨cs, hob, hnc, hlc, hcs⟩ := id hA
 have hv2 : RL w (callF F l) (fun _ => none) (pre ++ .slc rows :: post) vs := by
  refine ⟨by have := hv.1; simpa using this, fun i p x hp hx => ?_⟩
  rw [List.getElem?_append] at hp
  have key := hv.2 i
  split at hp
  ·rename_i hi
   exact toCall (key p x (by rw [List.getElem?_append_left hi]; exact hp) hx) (own_of_get hpre hp)
  ·rename_i hi
   cases hk : i - pre.length with
   | zero =>
    rw [hk] at hp
    simp only [List.getElem?_cons_zero, Option.some.injEq] at hp
    subst hp
    have := key (.asl o off n c) x (by rw [List.getElem?_append_right (by omega), hk]; rfl) hx
    obtain ⟨L, ad, hl, hb, hn', ha, rfl⟩ := this.asl_inv
    by_cases hne : rows = []
    ·subst hne
     simp only [List.length_nil] at hn
     subst hn; exact .slc0 _ _
    ·have hpos : 0 < rows.length := List.length_pos_iff.2 hne
     have hc0 := ha (by omega)
     subst hc0
     rcases R.objs o _ hob with g0 | ⟨L', g0, g1⟩
     ·simp at g0
     rw [hl] at g0; cases g0
     obtain ⟨g2, g3, cv, e, g4, g5, g6⟩ := g1
     have hseg := (g5.drop off).takeN (n * esz)
     rw [hcs] at hseg
     have hrl := (hseg.noOwn h0 (fun _ => none)).up (show Mono w F (fun _ => none) w (callF F l) (fun _ => none) from ⟨fun _ hb => .inl hb, fun _ _ => rfl, LocExt.refl _⟩)
     subst hn
     refine .slcN hne hnc (.inr ⟨o, L, hl, g3, rfl⟩) ⟨⟨cv.toArray, e, (0, 0), g4, fun j hj => ?_⟩, fun x hx => g6 x (List.mem_of_mem_drop (List.mem_of_mem_take hx))⟩ hr hrl.1 hrl.2
     have : j < rows.length * esz := by have := List.length_take_le (rows.length * esz) (cv.drop off); omega
     simp [List.getElem?_take, List.getElem?_drop, this]
   | succ k =>
    rw [hk] at hp
    simp only [List.getElem?_cons_succ] at hp
    exact toCall (key p x (by rw [List.getElem?_append_right (by omega), hk]; exact hp) hx) (own_of_get hpost hp)
 refine (h.2 w (callF F l) vs R.globOk ?_ hv2).mono ?_
 ·rintro b (hb | ⟨o, L, h1, h2, h3⟩)
  ·exact R.flt b hb
  ·rw [← h3]; exact (R.own o L h1 h2).2.1
 ·rintro e w' ⟨v, F', rfl, hB, h1, h2, h3, hrr⟩
  obtain ⟨R1', m1⟩ := R.ext hB
  have hv' : R1 w' F' (fun _ => none) r v := by
   cases r <;> first | exact hrr | (simp [PV.flat] at hf)
  exact ⟨v, F, rfl, R1', m1, hv'.ofFlat hf _ _ _⟩
theorem ICall.ofP {P : Program} {f : Nat} {ps : List PV} {ob : List AObj} {r : PV} (h : PCall P f ps r) (ho : ownL ps = false) (hr : ∀ w F B v, RR w F B r v → R1 w F (fun _ => none) r v) : ICall P f ps ob (fun r' ob' => r' = r ∧ ob' = ob) := by
 refine ⟨⟨h.1, r, ob, rfl, rfl⟩, fun c w F l vs R hv => (h.2 w F vs R.globOk R.flt (hv.noOwn ho _)).mono ?_⟩
 rintro e w' ⟨v, F', rfl, hB, h1, h2, h3, hrr⟩
 obtain ⟨R3, m3⟩ := R.after hB h1 h2 h3
 exact ⟨v, r, ob, F', l, rfl, R3, m3, (hr _ _ _ _ hrr).free, rfl, rfl⟩
theorem ICall.ofR {P : Program} {f : Nat} {ps : List PV} {ob : List AObj} {r : PV} (h : RCall P f ps ob r) : ICall P f ps ob (fun r' ob' => r' = r ∧ ob' = ob) := by
 refine ⟨⟨h.1, r, ob, rfl, rfl⟩, fun c w F l vs R hv => (h.2 c w F l vs R hv).mono ?_⟩
 rintro e w' ⟨v, F', rfl, R', m', hr⟩
 exact ⟨v, r, ob, F', l, rfl, R', m', hr, rfl, rfl⟩
def SlB (ob : List AObj) (e : Nat) (v : PV) (n : Nat) (xs : List PV) : Prop := (n = 0 ∧ xs = [] ∧ v = .nils) ∨ ∃ q off c, v = .asl q off n c ∧ Arr ob e q off n c xs ∧ c ≤ 9223372036854775807
def OnB (v : PV) (q : Nat) : Prop := ∃ off n c, v = .asl q off n c
theorem SlB.same {ob ob' : List AObj} {T : Nat → Prop} {e n : Nat} {v : PV} {xs : List PV} (h : SlB ob e v n xs) (hS : Same ob ob' T) (hT : ∀ q, OnB v q → ¬ T q) : SlB ob' e v n xs := by
 rcases h with h | ⟨q, off, c, h1, h2, h3⟩
 ·exact .inl h
 ·exact .inr ⟨q, off, c, h1, hS.arr h2 (hT q ⟨off, n, c, h1⟩), h3⟩
theorem appB {e n : Nat} {z row xs : List PV} {v y : PV} {ob : List AObj} {K : PV → List AObj → Prop} (hv : SlB ob e v n xs) (hy : arrLen y = 1) (hs : arrSrc ob e y = some row) (hr : row.length = e) (hz : z.length = e) (hn : n < 16777216)
  (hK : ∀ q off c ob', Arr ob' e q off (n + 1) c (xs ++ row) → (OnB v q ∨ ob.length ≤ q) → Same ob ob' (· = q) → c ≤ 9223372036854775807 → K (.asl q off (n + 1) c) ob') : MStep (.aapp e z) [v, y] ob K := by
 have grow : ∀ c, n + 1 ≤ c → c ≤ 9223372036854775807 → xs.length = n * e → K (.asl ob.length 0 (n + 1) c) (ob ++ [.box (xs ++ (row ++ (List.replicate (c - (n + 1)) z).flatten))]) := by
  intro c h1 h2 hx
  have hrep : (List.replicate (c - (n + 1)) z).flatten.length = (c - (n + 1)) * e := by
   rw [List.length_flatten, List.map_replicate, hz, List.sum_replicate_nat]
  have hl : n * e + (e + (c - (n + 1)) * e) = c * e := by
   rw [← Nat.add_assoc, ← Nat.succ_mul, ← Nat.add_mul]; congr 1; omega
  refine hK _ _ _ _ ⟨_, by rw [List.getElem?_append_right (Nat.le_refl _), Nat.sub_self]; rfl, h1, ?_, ?_⟩ (.inr (Nat.le_refl _)) (Same.app _ _ _) h2
  ·rw [List.length_append, List.length_append, hx, hr, hrep]; omega
  ·rw [List.drop_zero, ← List.append_assoc]
   apply List.take_left'
   rw [List.length_append, hx, hr, Nat.add_mul]; omega
 rcases hv with ⟨rfl, rfl, rfl⟩ | ⟨q, off, c, rfl, hA, hc⟩
 ·simp only [MStep, hy, hs, aAppY]
  rw [if_neg (by omega)]
  exact ⟨by omega, by omega, fun c h1 h2 => grow c (by omega) h2 (by simp)⟩
 ·have hlen := hA.len
  obtain ⟨cs, h1, h2, h3, h4⟩ := id hA
  refine MS_app (m := 1) hy (by omega) hs (fun hle => ⟨cs, h1, ?_, ?_⟩) (fun hlt => ⟨xs, hA.src, by omega, by omega, fun c' g1 g2 => grow c' g1 g2 hlen⟩)
  ·have := mul_le (e := e) hle
   rw [Nat.add_mul] at this; omega
  ·have hm := mul_le (e := e) hle
   rw [Nat.add_mul] at hm
   refine hK q off c _ ⟨_, List.getElem?_set_self (List.getElem?_eq_some_iff.1 h1).1, hle, by rw [setAt_len (by omega)]; exact h3, ?_⟩ (.inl ⟨off, n, c, rfl⟩) (Same.set rfl) hc
   have := cells_behind (cs := cs) (row := row) (off := off) (b := n * e) (by omega)
   rw [h4, hr] at this
   rw [Nat.add_mul, Nat.one_mul]; exact this
open Go.RowKit Ar
abbrev NE := Nat × Kd × List Kd
abbrev neV (x : NE) : PV := nodeV x.1 x.2.1
def PO [Fr] (ob : List AObj) : Nat → Kd → List NE → Prop
 | 0, k, L => L = [(0, k, [])]
 | h + 1, k, L => ∃ (q off c : Nat) (ks : List Kd) (Ls : List (List NE)), InnerAt ob h k q off c ks ∧ (∀ x ∈ ks, Node ob h x ∧ 4 ≤ x.s ∧ x.s ≤ 8) ∧ Ls.length = ks.length ∧ (∀ (i : Nat) (x : Kd) (Lx : List NE), ks[i]? = some x → Ls[i]? = some Lx → PO ob h x Lx) ∧ L = Ls.flatten ++ [(h + 1, k, ks)]
structure OutN (ob0 : List AObj) (b : Nat) (L : List NE) (ob : List AObj) : Prop where
 s : Same ob0 ob (· = b)
 ex : ∃ v, ob[b]? = some (.box [v]) ∧ SlB ob 1 v L.length (L.map neV) ∧ ∀ q, OnB v q → ob0.length ≤ q
theorem nodc_i {ob0 ob : List AObj} {b : Nat} {L : List NE} {x : NE} (hb : b < ob0.length) (h : OutN ob0 b L ob) (hl : L.length < 16777216) : ICall Tryz.prog 99 [neV x, .ref b 0] ob fun _ ob' => OutN ob0 b (L ++ [x]) ob' := by
 obtain ⟨v, f0, hv, hq⟩ := h.ex
 have l0 := h.s.1
 refine icall_dr Tryz.func99 E99.h ?_
 simp only [U99, f0, ldB1, nodeV, List.replicate_succ, List.replicate_zero, List.set_cons_zero, seval, bA]
 have hS : Same ob (ob ++ [AObj.box [neV x]]) (fun _ => False) := Same.app _ _ _
 have f1 := app1 f0 [AObj.box [neV x]]
 have f2 := app0 ob (AObj.box [neV x])
 have hsrc : arrSrc (ob ++ [AObj.box [neV x]]) 1 (.asl ob.length 0 1 1) = some [neV x] := by
  rw [arrSrc_asl f2 (by simp)]; rfl
 have hv1 := hv.same hS (fun _ _ h => h)
 have hl1 : (ob ++ [AObj.box [neV x]]).length = ob.length + 1 := by simp
 simp only [nodeV] at hS f1 f2 hsrc hv1 hl1
 generalize ob ++ [AObj.box [.ifc (tyN x.1) (.ref x.2.1.p 0)]] = ob1 at *
 refine appB hv1 rfl hsrc rfl rfl hl ?_
 intro q off c ob2 hA hq2 hS2 hc
 have hqb : q ≠ b := by
  rcases hq2 with h | h
  ·have := hq q h; omega
  ·omega
 have f3 := hS2.get f1 (Ne.symm hqb)
 have hb2 := (List.getElem?_eq_some_iff.1 f3).1
 simp only [U99, f3, seval, bA]
 have hT : Same ob2 (ob2.set b (AObj.box [.asl q off (L.length + 1) c])) (· = b) := Same.set rfl
 refine ⟨_, rfl, ⟨⟨by have := hS.1; have := hS2.1; rw [List.length_set]; omega, fun j hj hn => ?_⟩, _, setS hb2 _, .inr ⟨q, off, c, by rw [List.length_append]; rfl, ?_, hc⟩, ?_⟩⟩
 ·have hqj : ob0.length ≤ q := by
   rcases hq2 with h | h
   ·exact hq q h
   ·omega
  rw [List.getElem?_set_ne (Ne.symm hn), hS2.2 j (by omega) (show ¬ j = q by omega), hS.2 j (by omega) (fun h => h)]
  exact h.s.2 j hj hn
 ·have := hT.arr hA hqb
  rw [List.length_append, List.map_append]; exact this
 ·rintro q' ⟨off', n', c', e'⟩
  injection e' with e1
  subst e1
  rcases hq2 with h | h
  ·exact hq q h
  ·have := hS.1; omega
def EachSpec [Fr] (h : Nat) : Prop := ∀ {ob0 ob : List AObj} {b : Nat} {k : Kd} {L0 : List NE}, Node ob0 h k → 1 ≤ k.s → k.s ≤ 8 → b < ob0.length → b ∉ k.fp → L0.length + k.l.length ≤ 16777216 → OutN ob0 b L0 ob →
 ICall Tryz.prog 98 [nodeV h k, .fn (.func 99) [] [.ref b 0]] ob fun _ ob' => ∃ L, PO ob0 h k L ∧ OutN ob0 b (L0 ++ L) ob' ∧ (4 ≤ k.s → 3 * L.length + 1 ≤ k.l.length) ∧ 3 * L.length ≤ k.l.length + 2
theorem each_leaf [Fr] : EachSpec 0 := by
 intro ob0 ob b k L0 hN h1 h8 hb hbn hlen hO
 obtain ⟨q, off, c, hL⟩ := hN
 have hsz := hL.sz
 rw [nodeV_0]
 refine icall_dr Tryz.func98 E98.h ?_
 simp only [U98, seval, bA]
 have hc := nodc_i (x := (0, k, [])) hb hO (by omega)
 rw [show neV (0, k, []) = .ifc 180 (.ref k.p 0) from rfl] at hc
 refine callM hc ?_
 intro r ob1 h
 try simp only [U98, seval, bA]
 exact ⟨_, rfl, [(0, k, [])], rfl, h, fun h4 => by simp; omega, by simp; omega⟩
theorem sum_le {ks : List Kd} {Ls : List (List NE)} {j : Nat} (hl : Ls.length = j) (h : ∀ (i : Nat) (x : Kd) (Lx : List NE), ks[i]? = some x → Ls[i]? = some Lx → 3 * Lx.length + 1 ≤ x.l.length) (hj : j ≤ ks.length) : 3 * Ls.flatten.length + j ≤ ((ks.take j).flatMap (·.l)).length := by
 induction Ls generalizing ks j with
 | nil => simp at hl; subst hl; simp
 | cons L Ls ih =>
  match ks, j, hl with
  | [], j, hl => simp at hl hj; omega
  | x :: ks, j + 1, hl =>
   have h0 := h 0 x L rfl rfl
   have := ih (ks := ks) (j := j) (by simpa using hl) (fun i y Ly h1 h2 => h (i + 1) y Ly h1 h2) (by simpa using hj)
   simp only [List.flatten_cons, List.length_append, List.take_succ_cons, List.flatMap_cons]
   omega
  | x :: ks, 0, hl => simp at hl
theorem each_inner [Fr] {h' : Nat} (IH : EachSpec h') : EachSpec (h' + 1) := by
 intro ob0 ob b k L0 hN h1 h8 hb hbn hlen hO
 obtain ⟨q, off, c, ks, hI, hk⟩ := hN
 obtain ⟨a, hbx, hw⟩ := hI.bx
 have hsz := hI.sz
 have hfl := hI.fl
 have hA := hI.ar
 rw [hsz] at hA hbx
 have hpm : k.p ∈ k.fp := by rw [hI.fp]; simp
 have hqm : q ∈ k.fp := by rw [hI.fp]; simp
 have hxm : ∀ x ∈ ks, ∀ i ∈ x.fp, i ∈ k.fp := fun x hx i hi => by rw [hI.fp]; simp only [List.mem_cons, List.mem_flatMap]; exact .inr (.inr ⟨x, hx, hi⟩)
 have hN0 : Node ob0 (h' + 1) k := ⟨q, off, c, ks, hI, hk⟩
 have hlt0 := hN0.lt
 have hfr : ∀ (L : List NE) (o : List AObj), OutN ob0 b L o → ∀ i ∈ k.fp, o[i]? = ob0[i]? := fun L o hO i hi => hO.s.2 i (hlt0 i hi) (fun e => hbn (e ▸ hi))
 have hb0 := (hfr _ _ hO k.p hpm).trans hbx
 rw [nodeV_s]
 refine icall_dr Tryz.func98 E98.h ?_
 simp only [U98, hb0, ldB1, seval, bA]
 refine loopF (fun x : Nat × List AObj => ⟨ofL [(0, .ifc 125 (.ref k.p 0)), (1, .fn (.func 99) [] [.ref b 0]), (17, .asl q off ks.length c), (18, .int .i64 ks.length), (19, .int .i64 x.1)], x.2⟩)
  (fun x => x.1 ≤ ks.length ∧ ∃ Ls : List (List NE), Ls.length = x.1 ∧ (∀ (i : Nat) (y : Kd) (Ly : List NE), ks[i]? = some y → Ls[i]? = some Ly → PO ob0 h' y Ly ∧ 3 * Ly.length + 1 ≤ y.l.length) ∧ OutN ob0 b (L0 ++ Ls.flatten) x.2) (fun x => ks.length - x.1) (0, ob) ?_ ⟨Nat.zero_le _, [], rfl, fun i y Ly _ h => by simp at h, by simpa using hO⟩ ?_
 ·simp only [U98, seval, bA]
  all_goals rfl
 rintro ⟨j, ob1⟩ ⟨hj, Ls, hLl, hLs, hO1⟩
 simp only at hj hLl hO1
 have hsum := sum_le hLl (fun i y Ly h1 h2 => (hLs i y Ly h1 h2).2) hj
 have hsub : ((ks.take j).flatMap (·.l)).length ≤ k.l.length := by
  have e : k.l = (ks.take j).flatMap (·.l) ++ (ks.drop j).flatMap (·.l) := by rw [hfl, ← List.flatMap_append, List.take_append_drop]
  rw [e, List.length_append]; omega
 by_cases h : j < ks.length
 ·have d : decide ((j : Int) < (ks.length : Int)) = true := by simpa using h
  have d' : decide (j < ks.length) = true := by simpa using h
  have e1 : IntKind.i64.wrap ((j : Int) + 1) = ((j + 1 : Nat) : Int) := by rw [wrapI (by omega) (by omega)]; omega
  have hx := hk ks[j] (List.getElem_mem h)
  have hld := ldK (hA.keep (hfr _ _ hO1 q hqm)) (i := j) (x := nodeV h' ks[j]) (by simp [h])
  have hlen1 : (L0 ++ Ls.flatten).length + ks[j].l.length ≤ 16777216 := by
   have e : k.l = (ks.take j).flatMap (·.l) ++ (ks[j].l ++ (ks.drop (j + 1)).flatMap (·.l)) := by rw [hfl, ← List.flatMap_cons, ← List.drop_eq_getElem_cons h, ← List.flatMap_append, List.take_append_drop]
   have := congrArg List.length e
   simp only [List.length_append] at this ⊢
   omega
  simp only [U98, d, d', hld, nodeV, ldB1, seval, bA]
  have hih := IH hx.1 (by omega) hx.2.2 hb (fun hm => hbn (hxm _ (List.getElem_mem h) b hm)) hlen1 hO1
  simp only [nodeV] at hih
  refine callM hih ?_
  rintro r ob2 ⟨Lx, hP, hO2, h4, _⟩
  simp only [U98, e1, seval, bA]
  refine ⟨(j + 1, ob2), rfl, ⟨h, Ls ++ [Lx], by simp [hLl], fun i y Ly g1 g2 => ?_, by simpa using hO2⟩, by simp only; omega⟩
  rw [List.getElem?_append] at g2
  split at g2
  ·exact hLs i y Ly g1 g2
  ·rename_i hi
   have hij : i = j := by
    have := (List.getElem?_eq_some_iff.1 g2).1
    simp at this; omega
   subst hij
   rw [hLl, Nat.sub_self] at g2
   simp only [List.getElem?_cons_zero, Option.some.injEq] at g2
   subst g2
   rw [List.getElem?_eq_getElem h] at g1
   cases g1
   exact ⟨hP, h4 hx.2.1⟩
 ·have d : decide ((j : Int) < (ks.length : Int)) = false := by simpa using h
  have hje : j = ks.length := by omega
  subst hje
  have hc := nodc_i (x := (h' + 1, k, ks)) hb hO1 (by simp only [List.length_append]; omega)
  rw [show neV (h' + 1, k, ks) = .ifc 125 (.ref k.p 0) from rfl] at hc
  simp only [U98, d, seval, bA]
  refine callM hc ?_
  intro r ob2 h2
  try simp only [U98, seval, bA]
  rw [List.take_length, ← hfl] at hsum
  refine ⟨_, rfl, Ls.flatten ++ [(h' + 1, k, ks)], ⟨q, off, c, ks, Ls, hI, hk, hLl, fun i y Ly g1 g2 => (hLs i y Ly g1 g2).1, rfl⟩, by rw [← List.append_assoc]; exact h2, fun h4 => ?_, ?_⟩
  ·simp only [List.length_append, List.length_cons, List.length_nil]; omega
  ·simp only [List.length_append, List.length_cons, List.length_nil]; omega
theorem each_i [Fr] : ∀ h, EachSpec h
 | 0 => each_leaf
 | h + 1 => each_inner (each_i h)
end Go.Proofs.YtdgpiobmncohjaaGreatDoor.Aw
namespace Go.Proofs.YtdgpiobmncohjaaGreatDoor.Aw.Lf
open Go.RowKit
def lkF {α : Type} (one : α → Bool) (lk : α → α → Bool) : Option α → List α → Bool
 | _, [] => true
 | none, e :: t => one e && lkF one lk (some e) t
 | some a, e :: t => one e && (lk a e && lkF one lk (some e) t)
def lkB {α : Type} (one : α → Bool) (lk : α → α → Bool) (l : List α) : Bool := lkF one lk none l
theorem lkF_some {α : Type} {one : α → Bool} {lk : α → α → Bool} : ∀ {l : List α} {a : α}, lkF one lk (some a) l = true ↔ (∀ i (h : i < l.length), one l[i] = true) ∧ (∀ h : 0 < l.length, lk a l[0] = true) ∧ ∀ i (h : i + 1 < l.length), lk l[i] l[i + 1] = true
 | [], a => by simp [lkF]
 | e :: t, a => by
  simp only [lkF, Bool.and_eq_true, lkF_some]
  constructor
  ·rintro ⟨h1, h2, h3, h4, h5⟩
   refine ⟨fun i h => ?_, fun _ => h2, fun i h => ?_⟩
   ·cases i with
    | zero => exact h1
    | succ i => exact h3 i (by simpa using h)
   ·cases i with
    | zero => exact h4 (by simpa using h)
    | succ i => exact h5 i (by simpa using h)
  ·rintro ⟨h1, h2, h3⟩
   exact ⟨h1 0 (by simp), h2 (by simp), fun i h => h1 (i + 1) (by simpa using h), fun h => h3 0 (by simpa using h), fun i h => h3 (i + 1) (by simpa using h)⟩
theorem lkB_at {α : Type} {one : α → Bool} {lk : α → α → Bool} {l : List α} : lkB one lk l = true ↔ (∀ i (h : i < l.length), one l[i] = true) ∧ ∀ i (h : i + 1 < l.length), lk l[i] l[i + 1] = true := by
 cases l with
 | nil => simp [lkB, lkF]
 | cons e t =>
  simp only [lkB, lkF, Bool.and_eq_true, lkF_some]
  constructor
  ·rintro ⟨h1, h3, h4, h5⟩
   refine ⟨fun i h => ?_, fun i h => ?_⟩
   ·cases i with
    | zero => exact h1
    | succ i => exact h3 i (by simpa using h)
   ·cases i with
    | zero => exact h4 (by simpa using h)
    | succ i => exact h5 i (by simpa using h)
  ·rintro ⟨h1, h3⟩
   exact ⟨h1 0 (by simp), fun i h => h1 (i + 1) (by simpa using h), fun h => h3 0 (by simpa using h), fun i h => h3 (i + 1) (by simpa using h)⟩
theorem lkB_one {α : Type} {one : α → Bool} {lk : α → α → Bool} {l : List α} (h : lkB one lk l = true) : ∀ e ∈ l, one e = true := fun e he => by
 obtain ⟨j, hj, rfl⟩ := List.mem_iff_getElem.1 he
 exact (lkB_at.1 h).1 j hj
theorem lkB_no1 {α : Type} {one : α → Bool} {lk : α → α → Bool} {l : List α} {i : Nat} (h : i < l.length) (ho : one l[i] = false) : lkB one lk l = false := by
 cases hb : lkB one lk l with
 | false => rfl
 | true => rw [(lkB_at.1 hb).1 i h] at ho; cases ho
theorem lkB_no2 {α : Type} {one : α → Bool} {lk : α → α → Bool} {l : List α} {i : Nat} (h : i + 1 < l.length) (ho : lk l[i] l[i + 1] = false) : lkB one lk l = false := by
 cases hb : lkB one lk l with
 | false => rfl
 | true => rw [(lkB_at.1 hb).2 i h] at ho; cases ho
def idxS {α : Type} (c : α → Bool) (l : List α) : Int := match l.findIdx? c with
 | some i => (i : Int)
 | none => -1
theorem idx_hit {α : Type} {c : α → Bool} {l : List α} {i : Nat} (h : i < l.length) (hc : c l[i] = true) (hj : ∀ j (hj : j < l.length), j < i → c l[j] = false) : idxS c l = (i : Int) := by
 have : l.findIdx? c = some i := List.findIdx?_eq_some_iff_getElem.2 ⟨h, hc, fun j hlt => by simpa using hj j (by omega) hlt⟩
 rw [idxS, this]
theorem idx_none {α : Type} {c : α → Bool} {l : List α} (hj : ∀ j (hj : j < l.length), c l[j] = false) : idxS c l = -1 := by
 have : l.findIdx? c = none := List.findIdx?_eq_none_iff.2 fun e he => by
  obtain ⟨j, h, rfl⟩ := List.mem_iff_getElem.1 he
  exact hj j h
 rw [idxS, this]
theorem idx_cases {α : Type} (c : α → Bool) (l : List α) : (∃ i, ∃ h : i < l.length, idxS c l = (i : Int) ∧ c l[i] = true ∧ ∀ j (hj : j < l.length), j < i → c l[j] = false) ∨ (idxS c l = -1 ∧ ∀ j (hj : j < l.length), c l[j] = false) := by
 cases h : l.findIdx? c with
 | none => exact .inr ⟨by rw [idxS, h], fun j hj => by simpa using List.findIdx?_eq_none_iff.1 h _ (List.getElem_mem hj)⟩
 | some i =>
  obtain ⟨h1, h2, h3⟩ := List.findIdx?_eq_some_iff_getElem.1 h
  exact .inl ⟨i, h1, by rw [idxS, h], h2, fun j hj hlt => by simpa using h3 j hlt⟩
end Go.Proofs.YtdgpiobmncohjaaGreatDoor.Aw.Lf
namespace Go.Proofs.YtdgpiobmncohjaaGreatDoor.Aw
open Go.RowKit
def leB : Nat → Nat → List UInt8
 | 0, _ => []
 | w + 1, n => UInt8.ofNat n :: leB w (n / 256)
def leN : List UInt8 → Nat
 | [] => 0
 | b :: r => b.toNat + 256 * leN r
theorem leB_len : ∀ w n, (leB w n).length = w
 | 0, _ => rfl
 | w + 1, n => by simp [leB, leB_len w]
theorem leN_leB : ∀ w n, leN (leB w n) = n % 256 ^ w
 | 0, n => by simp [leB, leN, Nat.mod_one]
 | w + 1, n => by
  rw [leB, leN, leN_leB w, UInt8.toNat_ofNat', show 256 ^ (w + 1) = 256 * 256 ^ w by rw [Nat.pow_succ, Nat.mul_comm], Nat.mod_mul]
theorem leN_lt : ∀ l : List UInt8, leN l < 256 ^ l.length
 | [] => by simp [leN]
 | b :: r => by
  have h := leN_lt r
  have hb : b.toNat < 256 := b.toBitVec.isLt
  rw [leN, List.length_cons, Nat.pow_succ]; omega
theorem leB_leN : ∀ l : List UInt8, leB l.length (leN l) = l
 | [] => rfl
 | b :: r => by
  have hb : b.toNat < 256 := b.toBitVec.isLt
  have e : (b.toNat + 256 * leN r) / 256 = leN r := by omega
  rw [List.length_cons, leN, leB, e, leB_leN r]
  congr 1
  apply UInt8.toNat_inj.1
  rw [UInt8.toNat_ofNat']; omega
theorem leN_step {l : List UInt8} {i : Nat} (h : i < l.length) : leN (l.drop i) = 256 * leN (l.drop (i + 1)) + l[i].toNat := by
 rw [List.drop_eq_getElem_cons h, leN]; omega
theorem pow256 (w : Nat) : 256 ^ w = 2 ^ (8 * w) := by rw [Nat.pow_mul]
theorem w64 {n : Nat} (h : n < 18446744073709551616) : IntKind.u64.wrap (n : Int) = n := by rw [wrap64]; omega
theorem byte8 (n : Nat) : IntKind.u8.wrap (n : Int) = ((UInt8.ofNat n).toNat : Int) := by rw [wrap8, UInt8.toNat_ofNat']; omega
theorem shr64N {n : Nat} (h : n < 18446744073709551616) (k : Nat) : shI .shr .u64 (n : Int) (k : Int) = some (.int .u64 ((n / 2 ^ k : Nat) : Int)) := by
 have e : (n : Int).fdiv (2 ^ min k 64) = ((n / 2 ^ k : Nat) : Int) := by
  rw [Int.fdiv_eq_ediv_of_nonneg _ (Int.le_of_lt (Int.pow_pos (by decide)))]
  by_cases hk : k ≤ 64
  ·rw [Nat.min_eq_left hk]; simp
  ·have hn : n < 2 ^ 64 := by simpa using h
   rw [Nat.min_eq_right (by omega), Nat.div_eq_of_lt (Nat.lt_of_lt_of_le hn (Nat.pow_le_pow_right (by decide) (by omega)))]
   have : ((n : Int) / 2 ^ 64) = ((n / 2 ^ 64 : Nat) : Int) := by simp
   rw [this, Nat.div_eq_of_lt hn]
 simp only [shI, IntKind.bits]
 rw [if_neg (by omega), Int.toNat_natCast, e]
theorem shr64' {n : Nat} (h : n < 18446744073709551616) (k : Nat) : shI .shr .u64 (n : Int) (no_index (OfNat.ofNat k : Int)) = some (.int .u64 ((n / 2 ^ (OfNat.ofNat k : Nat) : Nat) : Int)) := shr64N h k
theorem shl64_8 (n : Nat) : shI .shl .u64 (n : Int) 8 = some (.int .u64 ((n * 256 % 18446744073709551616 : Nat) : Int)) := by
 simp only [shI, IntKind.bits]
 have e : (n : Int) * 2 ^ min (8 : Int).toNat 64 = ((n * 256 : Nat) : Int) := by
  have : min (8 : Int).toNat 64 = 8 := by decide
  rw [this]; simp
 rw [if_neg (by omega), e, wrap64]; rfl
theorem or64 {a b : Nat} (ha : a % 256 = 0) (hb : b < 256) (h : a < 18446744073709551616) : binI .or .u64 (a : Int) (b : Int) = some (.int .u64 ((a + b : Nat) : Int)) := by
 have h0 : binI .or .u64 (a : Int) (b : Int) = some (.int .u64 (IntKind.u64.wrap ((BitVec.ofInt 64 (a : Int) ||| BitVec.ofInt 64 (b : Int)).toNat : Int))) := rfl
 have e : (BitVec.ofInt 64 (a : Int) ||| BitVec.ofInt 64 (b : Int)).toNat = a + b := by
  rw [BitVec.ofInt_natCast, BitVec.ofInt_natCast, BitVec.toNat_or, BitVec.toNat_ofNat, BitVec.toNat_ofNat, Nat.mod_eq_of_lt (by simpa using h), Nat.mod_eq_of_lt (by have := h; simp; omega)]
  obtain ⟨c, rfl⟩ : ∃ c, a = 2 ^ 8 * c := ⟨a / 256, by simp; omega⟩
  rw [Nat.two_pow_add_eq_or_of_lt hb]
 rw [h0, e, w64 (by omega)]
open Go.RowKit
theorem width_spec (w : Int) : PCall Tryz.prog 116 [.int .i64 w] (.bool (decide (1 ≤ w) && decide (w ≤ 8))) := by
 refine pcall_go Tryz.func116 E116.h ?_
 by_cases h : 1 ≤ w
 ·have d : decide (1 ≤ w) = true := by simp [h]
  simp only [U116, d, seval, bA]
 ·have d : decide (1 ≤ w) = false := by simp [h]
  simp only [U116, d, seval, bA]
theorem fits_spec (n w : Nat) (hn : n < 18446744073709551616) (h1 : 1 ≤ w) (h8 : w ≤ 8) : PCall Tryz.prog 79 [.int .u64 n, .int .i64 w] (.bool (decide (n < 256 ^ w))) := by
 refine pcall_go Tryz.func79 E79.h ?_
 have e : IntKind.i64.wrap (8 * (w : Int)) = ((8 * w : Nat) : Int) := by rw [wrapI (by omega) (by omega)]; omega
 by_cases h : w = 8
 ·have d : ((w : Int) == 8) = true := by simp; omega
  have d2 : decide (n < 256 ^ w) = true := by subst h; simpa using hn
  simp only [U79, d, d2, seval, bA]
 ·have d : ((w : Int) == 8) = false := by simp; omega
  simp only [U79, d, e, shr64N hn, seval, bA]
  rw [pow256]
  have : (n / 2 ^ (8 * w) = 0) ↔ n < 2 ^ (8 * w) := Nat.div_eq_zero_iff_lt (Nat.pow_pos (by decide))
  by_cases hd : n < 2 ^ (8 * w)
  ·have e0 := this.2 hd
   rw [e0]; simp [hd]
  ·have h0 : ¬ n / 2 ^ (8 * w) = 0 := fun h => hd (this.1 h)
   have h1 : (((n / 2 ^ (8 * w) : Nat) : Int) == 0) = false := by simp only [beq_eq_false_iff_ne, ne_eq]; omega
   rw [h1]; simp [hd]
theorem laid_1 (n : Nat) (hn : n < 18446744073709551616) : PCall Tryz.prog 81 [.int .u64 n, .int .i64 1] (.str (leB 1 n)) := by
 refine pcall_go Tryz.func81 E81.h ?_
 simp only [U81, byte8, shr64' hn, seval, bA]
 simp [leB, Nat.div_div_eq_div_mul]
theorem laid_2 (n : Nat) (hn : n < 18446744073709551616) : PCall Tryz.prog 81 [.int .u64 n, .int .i64 2] (.str (leB 2 n)) := by
 refine pcall_go Tryz.func81 E81.h ?_
 simp only [U81, byte8, shr64' hn, seval, bA]
 simp [leB, Nat.div_div_eq_div_mul]
theorem laid_3 (n : Nat) (hn : n < 18446744073709551616) : PCall Tryz.prog 81 [.int .u64 n, .int .i64 3] (.str (leB 3 n)) := by
 refine pcall_go Tryz.func81 E81.h ?_
 simp only [U81, byte8, shr64' hn, seval, bA]
 simp [leB, Nat.div_div_eq_div_mul]
theorem laid_4 (n : Nat) (hn : n < 18446744073709551616) : PCall Tryz.prog 81 [.int .u64 n, .int .i64 4] (.str (leB 4 n)) := by
 refine pcall_go Tryz.func81 E81.h ?_
 simp only [U81, byte8, shr64' hn, seval, bA]
 simp [leB, Nat.div_div_eq_div_mul]
theorem laid_5 (n : Nat) (hn : n < 18446744073709551616) : PCall Tryz.prog 81 [.int .u64 n, .int .i64 5] (.str (leB 5 n)) := by
 refine pcall_go Tryz.func81 E81.h ?_
 simp only [U81, byte8, shr64' hn, seval, bA]
 simp [leB, Nat.div_div_eq_div_mul]
theorem laid_6 (n : Nat) (hn : n < 18446744073709551616) : PCall Tryz.prog 81 [.int .u64 n, .int .i64 6] (.str (leB 6 n)) := by
 refine pcall_go Tryz.func81 E81.h ?_
 simp only [U81, byte8, shr64' hn, seval, bA]
 simp [leB, Nat.div_div_eq_div_mul]
theorem laid_7 (n : Nat) (hn : n < 18446744073709551616) : PCall Tryz.prog 81 [.int .u64 n, .int .i64 7] (.str (leB 7 n)) := by
 refine pcall_go Tryz.func81 E81.h ?_
 simp only [U81, byte8, shr64' hn, seval, bA]
 simp [leB, Nat.div_div_eq_div_mul]
theorem laid_8 (n : Nat) (hn : n < 18446744073709551616) : PCall Tryz.prog 81 [.int .u64 n, .int .i64 8] (.str (leB 8 n)) := by
 refine pcall_go Tryz.func81 E81.h ?_
 simp only [U81, byte8, shr64' hn, seval, bA]
 simp [leB, Nat.div_div_eq_div_mul]
theorem laid_spec (n w : Nat) (hn : n < 18446744073709551616) (h1 : 1 ≤ w) (h8 : w ≤ 8) : PCall Tryz.prog 81 [.int .u64 n, .int .i64 w] (.str (leB w n)) := by
 have : w = 1 ∨ w = 2 ∨ w = 3 ∨ w = 4 ∨ w = 5 ∨ w = 6 ∨ w = 7 ∨ w = 8 := by omega
 rcases this with rfl | rfl | rfl | rfl | rfl | rfl | rfl | rfl
 ·exact laid_1 n hn
 ·exact laid_2 n hn
 ·exact laid_3 n hn
 ·exact laid_4 n hn
 ·exact laid_5 n hn
 ·exact laid_6 n hn
 ·exact laid_7 n hn
 ·exact laid_8 n hn
def wid (w : Int) : Bool := decide (1 ≤ w) && decide (w ≤ 8)
def getS (s : List UInt8) (a w : Int) : Nat × Int :=
 if wid w = false ∨ a < 0 then (0, 1) else if (s.length : Int) - a < w then (0, 5) else (leN ((s.drop a.toNat).take w.toNat), 0)
theorem wid_iff {w : Int} : wid w = true ↔ 1 ≤ w ∧ w ≤ 8 := by simp [wid]
open Go.RowKit
theorem get_spec (s : List UInt8) (a w : Int) (hs : s.length ≤ 9223372036854775807) (ha1 : -9223372036854775808 ≤ a) (ha2 : a ≤ 9223372036854775807) (hw1 : -9223372036854775808 ≤ w) (hw2 : w ≤ 9223372036854775807) :
  PCall Tryz.prog 70 [.str s, .int .i64 a, .int .i64 w] (.tup [.int .u64 (getS s a w).1, .int .i64 (getS s a w).2]) := by
 refine pcall_go Tryz.func70 E70.h ?_
 simp only [U70, seval, bA]
 refine callI (width_spec w) ?_
 by_cases h : wid w = true
 ·have d : (decide (1 ≤ w) && decide (w ≤ 8)) = true := h
  have hw := wid_iff.1 h
  obtain ⟨k, rfl⟩ : ∃ k : Nat, w = k := ⟨w.toNat, by omega⟩
  by_cases h2 : a < 0
  ·have d2 : decide (a < 0) = true := by simpa using h2
   simp only [U70, d, d2, seval, bA]
   simp [getS, h2]
  ·have d2 : decide (a < 0) = false := by simpa using h2
   obtain ⟨i, rfl⟩ : ∃ i : Nat, a = i := ⟨a.toNat, by omega⟩
   by_cases h3 : (s.length : Int) < i
   ·have d3 : decide ((s.length : Int) < (i : Int)) = true := by simpa using h3
    simp only [U70, d, d2, d3, seval, bA]
    have h4 : (s.length : Int) - i < k := by omega
    simp [getS, h, h4, h2]
   ·have d3 : decide ((s.length : Int) < (i : Int)) = false := by simpa using h3
    have e : IntKind.i64.wrap ((s.length : Int) - (i : Int)) = (s.length : Int) - i := wrapI (by omega) (by omega)
    by_cases h4 : (s.length : Int) - i < k
    ·have d4 : decide ((s.length : Int) - (i : Int) < (k : Int)) = true := by simpa using h4
     simp only [U70, d, d2, d3, e, d4, seval, bA]
     simp [getS, h, h4, h2]
    ·have d4 : decide ((s.length : Int) - (i : Int) < (k : Int)) = false := by simpa using h4
     have e5 : IntKind.i64.wrap ((k : Int) - 1) = (k : Int) - 1 := wrapI (by omega) (by omega)
     simp only [U70, d, d2, d3, e, d4, e5, seval, bA]
     obtain ⟨l, hl⟩ : ∃ l, l = (s.drop i).take k := ⟨_, rfl⟩
     have hll : l.length = k := by rw [hl]; simp; omega
     refine loopF (fun j : Nat => ⟨ofL [(0, .str s), (1, .int .i64 i), (8, .int .u64 (leN (l.drop (k - j)))), (9, .int .i64 ((k : Int) - 1 - j))], []⟩) (fun j => j ≤ k) (fun j => k - j) 0 ?_ (by omega) ?_
     ·have : l.drop (k - 0) = [] := by simp [hll]
      simp only [U70, this, seval, bA]
      all_goals simp [leN]
     ·intro j hj
      have hlt := leN_lt (l.drop (k - j))
      by_cases h5 : j = k
      ·have d5 : decide (0 ≤ (k : Int) - 1 - (j : Int)) = false := by simp; omega
       subst h5
       simp only [U70, d5, seval, bA]
       have hg : getS s i j = (leN l, 0) := by
        simp only [getS, h, Int.toNat_natCast, hl]
        rw [if_neg (by simp), if_neg h4]
       simp [hg]
      ·have d5 : decide (0 ≤ (k : Int) - 1 - (j : Int)) = true := by simp; omega
       have hlen : (l.drop (k - j)).length = j := by simp [hll]; omega
       rw [hlen] at hlt
       have hpow : 256 ^ j ≤ 256 ^ 7 := Nat.pow_le_pow_right (by decide) (by omega)
       have e256 : 256 ^ 7 = 72057594037927936 := by decide
       have em : leN (l.drop (k - j)) * 256 % 18446744073709551616 = leN (l.drop (k - j)) * 256 := Nat.mod_eq_of_lt (by omega)
       have hix : i + (k - 1 - j) < s.length := by omega
       have e6 : IntKind.i64.wrap ((i : Int) + ((k : Int) - 1 - (j : Int))) = ((i + (k - 1 - j) : Nat) : Int) := by rw [wrapI (by omega) (by omega)]; omega
       have e7 : IntKind.i64.wrap ((k : Int) - 1 - (j : Int) - 1) = (k : Int) - 1 - ((j + 1 : Nat) : Int) := by rw [wrapI (by omega) (by omega)]; omega
       have hb : (s[i + (k - 1 - j)]).toNat < 256 := (s[i + (k - 1 - j)]).toBitVec.isLt
       have e8 : IntKind.u64.wrap ((s[i + (k - 1 - j)]).toNat : Int) = ((s[i + (k - 1 - j)]).toNat : Int) := w64 (by omega)
       have hst : leN (l.drop (k - (j + 1))) = leN (l.drop (k - j)) * 256 + (s[i + (k - 1 - j)]).toNat := by
        have hlt2 : k - (j + 1) < l.length := by omega
        rw [leN_step hlt2, show k - (j + 1) + 1 = k - j by omega]
        have : l[k - (j + 1)] = s[i + (k - 1 - j)] := by
         subst hl
         simp only [List.getElem_take, List.getElem_drop]
         congr 1; omega
        rw [this]; omega
       simp only [U70, d5, shl64_8, em, e6, idxsV_at hix, e8, or64 (a := leN (l.drop (k - j)) * 256) (b := (s[i + (k - 1 - j)]).toNat) (by omega) hb (by omega), e7, seval, bA]
       refine ⟨j + 1, ?_, by omega, by omega⟩
       rw [hst]
 ·have h' : wid w = false := by simpa using h
  have d : (decide (1 ≤ w) && decide (w ≤ 8)) = false := h'
  simp only [U70, d, seval, bA]
  simp [getS, h']
theorem wrong_spec (w : Int) : PCall Tryz.prog 69 [.int .i64 w] (.bool (!wid w)) := by
 refine pcall_go Tryz.func69 E69.h ?_
 simp only [U69, seval, bA]
 refine callI (width_spec w) ?_
 simp only [U69, seval, bA]
 all_goals rfl
def idxP (p : Int → Bool) : List Int → Nat → Int
 | [], _ => -1
 | x :: r, i => if p x then i else idxP p r (i + 1)
theorem idxP_at {p : Int → Bool} {l : List Int} {i : Nat} (h : i < l.length) : idxP p (l.drop i) i = if p l[i] then (i : Int) else idxP p (l.drop (i + 1)) (i + 1) := by
 rw [List.drop_eq_getElem_cons h, idxP]
theorem idxP_any {p : Int → Bool} : ∀ (l : List Int) (i : Nat), decide (0 ≤ idxP p l i) = l.any p
 | [], i => by simp [idxP]
 | x :: r, i => by
  rw [idxP, List.any_cons]
  by_cases h : p x = true
  ·simp [h]
  ·simp only [Bool.not_eq_true] at h; simp [h, idxP_any r (i + 1)]
theorem idx_spec (g : Nat) (p : Int → Bool) (l : List Int) (hl : l.length ≤ 1000000) (hp : ∀ x, PCall Tryz.prog g [.int .i64 x] (.bool (p x))) :
  PCall Tryz.prog 115 [.slc (rowsZ .i64 l), .fn (.func g) [] []] (.int .i64 (idxP p l 0)) := by
 refine pcall_go Tryz.func115 E115.h ?_
 simp only [U115, seval, bA]
 refine loopF (fun i : Nat => ⟨ofL [(0, .slc (rowsZ .i64 l)), (1, .fn (.func g) [] []), (7, .int .i64 l.length), (8, .int .i64 i)], []⟩) (fun i => i ≤ l.length ∧ idxP p (l.drop i) i = idxP p l 0) (fun i => l.length - i) 0 ?_ ⟨Nat.zero_le _, rfl⟩ ?_
 ·simp only [U115, seval, bA]
  all_goals rfl
 ·intro i ⟨hi, he⟩
  by_cases h : i < l.length
  ·have d : decide ((i : Int) < (l.length : Int)) = true := by simpa using h
   have e1 : IntKind.i64.wrap ((i : Int) + 1) = ((i + 1 : Nat) : Int) := by rw [wrapI (by omega) (by omega)]; omega
   simp only [U115, d, islV_Z h, seval, bA]
   refine callI (hp _) ?_
   rw [idxP_at h] at he
   by_cases hq : p l[i] = true
   ·simp only [U115, hq, e1, seval, bA]
    simp only [hq, if_true] at he
    rw [← he]
   ·simp only [Bool.not_eq_true] at hq
    simp only [U115, hq, e1, seval, bA]
    simp only [hq, Bool.false_eq_true, if_false] at he
    exact ⟨i + 1, rfl, ⟨by omega, he⟩, by omega⟩
  ·have d : decide ((i : Int) < (l.length : Int)) = false := by simpa using h
   have : i = l.length := by omega
   subst this
   simp only [U115, d, seval, bA]
   rw [← he]; simp [idxP]
theorem contains_spec (g : Nat) (p : Int → Bool) (l : List Int) (hl : l.length ≤ 1000000) (hp : ∀ x, PCall Tryz.prog g [.int .i64 x] (.bool (p x))) :
  PCall Tryz.prog 68 [.slc (rowsZ .i64 l), .fn (.func g) [] []] (.bool (l.any p)) := by
 refine pcall_go Tryz.func68 E68.h ?_
 simp only [U68, seval, bA]
 refine callI (idx_spec g p l hl hp) ?_
 simp only [U68, seval, bA]
 rw [idxP_any]
def badW (ws : List Int) : Bool := ws.any fun w => !wid w
theorem badW_get {ws : List Int} (h : badW ws = false) {i : Nat} (hi : i < ws.length) : 1 ≤ ws[i] ∧ ws[i] ≤ 8 := by
 simp only [badW, List.any_eq_false] at h
 have := h ws[i] (List.getElem_mem hi)
 exact wid_iff.1 (by simpa using this)
def takeL : List UInt8 → List Int → Option (List Nat × List UInt8)
 | s, [] => some ([], s)
 | s, w :: ws => if s.length < w.toNat then none else match takeL (s.drop w.toNat) ws with
  | none => none
  | some (ns, r) => some (leN (s.take w.toNat) :: ns, r)
def takeS (s : List UInt8) (ws : List Int) : List Nat × List UInt8 × Int :=
 if badW ws = true then ([], [], 1) else match takeL s ws with
 | none => ([], [], 5)
 | some (ns, r) => (ns, r, 0)
def goOn (s : List UInt8) (ws : List Int) (ns : List Nat) : List Nat × List UInt8 × Int :=
 match takeL s ws with
 | none => ([], [], 5)
 | some (ms, r) => (ns ++ ms, r, 0)
theorem goOn_nil {s ns} : goOn s [] ns = (ns, s, 0) := by simp [goOn, takeL]
theorem goOn_short {s : List UInt8} {w ws ns} (h : s.length < w.toNat) : goOn s (w :: ws) ns = ([], [], 5) := by simp [goOn, takeL, h]
theorem goOn_one {s : List UInt8} {w ws ns} (h : ¬ s.length < w.toNat) : goOn s (w :: ws) ns = goOn (s.drop w.toNat) ws (ns ++ [leN (s.take w.toNat)]) := by
 simp only [goOn, takeL, h, if_false]
 cases takeL (s.drop w.toNat) ws with
 | none => rfl
 | some x => obtain ⟨a, b⟩ := x; simp
theorem takeS_ok {s ws} (h : badW ws = false) : takeS s ws = goOn s ws [] := by
 simp only [takeS, h, goOn]; cases takeL s ws <;> simp
theorem takeL_drop {s : List UInt8} {w : Int} {ws : List Int} {a i : Nat} (h : i < ws.length) (ha : a ≤ s.length) (h2 : ¬ s.length - a < ws[i].toNat) (ns : List Nat) :
  goOn (s.drop a) (ws.drop i) ns = goOn (s.drop (a + ws[i].toNat)) (ws.drop (i + 1)) (ns ++ [leN ((s.drop a).take ws[i].toNat)]) := by
 rw [List.drop_eq_getElem_cons h, goOn_one (by simpa using h2), List.drop_drop]
theorem take_spec (s : List UInt8) (ws : List Int) (hs : s.length ≤ 9223372036854775807) (hw : ws.length ≤ 300) :
  PCall Tryz.prog 34 [.str s, .slc (rowsZ .i64 ws)] (.tup [.slc (rowsN .u64 (takeS s ws).1), .str (takeS s ws).2.1, .int .i64 (takeS s ws).2.2]) := by
 refine pcall_go Tryz.func34 E34.h ?_
 simp only [U34, seval, bA]
 refine callI (contains_spec _ _ ws (by omega) wrong_spec) ?_
 by_cases hb : badW ws = true
 ·have d : (ws.any fun w => !wid w) = true := hb
  simp only [U34, d, seval, bA]
  simp [takeS, hb, rowsN]
 ·simp only [Bool.not_eq_true] at hb
  have d : (ws.any fun w => !wid w) = false := hb
  simp only [U34, d, seval, bA]
  refine loopF (fun x : Nat × Nat × List Nat => ⟨ofL [(0, .str s), (4, .osl 0 0 x.2.2.length), (7, .int .i64 x.2.1), (14, .slc (rowsZ .i64 ws)), (15, .int .i64 ws.length), (16, .int .i64 x.1)], [.list 1 (rowsN .u64 x.2.2)]⟩)
   (fun x => x.1 ≤ ws.length ∧ x.2.1 ≤ s.length ∧ x.2.2.length = x.1 ∧ goOn (s.drop x.2.1) (ws.drop x.1) x.2.2 = takeS s ws) (fun x => ws.length - x.1) (0, 0, []) ?_ ⟨Nat.zero_le _, Nat.zero_le _, rfl, by rw [takeS_ok hb]; rfl⟩ ?_
  ·simp only [U34, rowsN_nil, seval, bA]
   all_goals rfl
  ·intro ⟨i, a, ns⟩ ⟨hi, ha, hn, he⟩
   simp only [] at hi ha hn he ⊢
   by_cases h : i < ws.length
   ·have d1 : decide ((i : Int) < (ws.length : Int)) = true := by simpa using h
    have hwi := badW_get hb h
    have e1 : IntKind.i64.wrap ((i : Int) + 1) = ((i + 1 : Nat) : Int) := by rw [wrapI (by omega) (by omega)]; omega
    simp only [U34, d1, islV_Z h, seval, bA]
    refine callI (get_spec s a ws[i] hs (by omega) (by omega) (by omega) (by omega)) ?_
    have hwid : wid ws[i] = true := wid_iff.2 hwi
    by_cases h2 : s.length - a < ws[i].toNat
    ·have hg : getS s a ws[i] = (0, 5) := by
      simp only [getS, hwid]
      rw [if_neg (by simp), if_pos (by omega)]
     have hr : takeS s ws = ([], [], 5) := by
      rw [← he, List.drop_eq_getElem_cons h, goOn_short (by simpa using h2)]
     simp only [U34, hg, hr, seval, bA]
     simp [rowsN]
    ·have hg : getS s a ws[i] = (leN ((s.drop a).take ws[i].toNat), 0) := by
      simp only [getS, hwid]
      rw [if_neg (by simp), if_neg (by omega)]; simp
     have e2 : IntKind.i64.wrap ((a : Int) + ws[i]) = ((a + ws[i].toNat : Nat) : Int) := by rw [wrapI (by omega) (by omega)]; omega
     simp only [U34, hg, app_N (k := .u64) (l := ns) (ob := [AObj.list 1 (rowsN .u64 ns)]) (o := 0) (n := ns.length) (fb := []) (x := leN ((s.drop a).take ws[i].toNat)) rfl rfl rfl (by omega), e1, e2, seval, bA]
     refine ⟨(i + 1, a + ws[i].toNat, ns ++ [leN ((s.drop a).take ws[i].toNat)]), ?_, ⟨h, by show a + ws[i].toNat ≤ s.length; omega, by simp [hn], ?_⟩, by show ws.length - (i + 1) < ws.length - i; omega⟩
     ·simp only [List.length_append, List.length_cons, List.length_nil]
     ·rw [← he, takeL_drop (w := 0) h ha h2]
   ·have d1 : decide ((i : Int) < (ws.length : Int)) = false := by simpa using h
    have : i = ws.length := by omega
    subst this
    have hr : takeS s ws = (ns, s.drop a, 0) := by rw [← he]; simp [goOn_nil]
    simp only [U34, d1, sstrV_from ha, hr, rowsO_all (rows := rowsN .u64 ns) rowsN_len.symm, seval, bA]
open Go.RowKit
end Go.Proofs.YtdgpiobmncohjaaGreatDoor.Aw
