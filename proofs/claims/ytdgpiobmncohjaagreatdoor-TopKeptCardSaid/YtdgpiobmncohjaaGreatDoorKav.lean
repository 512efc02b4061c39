/-
 What lies near a range may be changed by itself. Plain Lean.; Lists in order that have the same members are the same; what taking and putting come to. Plain Lean.; An extent taken from below a node.; An extent put into a tree; one taken from it.
-/
import Derived.Test.YtdgpiobmncohjaaGreatDoorKau
set_option linter.all false
set_option maxRecDepth 100000
namespace Go.Proofs.YtdgpiobmncohjaaGreatDoor.Aw
open Go.RowKit
def nearS (l : List Xt) (f t : Int) : List Xt := l.filter fun e => decide (e.fr ≤ t ∧ f ≤ endE e)
def befS (l : List Xt) (f : Int) : List Xt := l.filter fun e => decide (endE e < f)
def behS (l : List Xt) (t : Int) : List Xt := l.filter fun e => decide (t < e.fr)
theorem chain_ge : ∀ {l : List Xt} {lo : Int}, Chain lo l → ∀ e ∈ l, lo ≤ e.fr
 | [], _, _, _, h => by cases h
 | e :: l, lo, ⟨h1, h2, h3⟩, x, hx => by
  rcases List.mem_cons.1 hx with rfl | hx
  ·exact h2
  ·have := chain_ge h3 x hx
   have := h1.2.1
   simp only [endE] at *; omega
theorem near_split {f t : Int} (hft : f ≤ t) : ∀ {l : List Xt} {lo : Int}, Chain lo l → l = befS l f ++ (nearS l f t ++ behS l t)
 | [], _, _ => rfl
 | e :: l, lo, ⟨h1, h2, h3⟩ => by
  have ih := near_split hft h3
  have hn := h1.2.1
  by_cases c1 : endE e < f
  ·have c2 : ¬ (e.fr ≤ t ∧ f ≤ endE e) := by omega
   have c3 : ¬ t < e.fr := by simp only [endE] at *; omega
   simp only [befS, nearS, behS, List.filter_cons, decide_eq_true_eq, c1, c2, c3, if_true, if_false, List.cons_append]
   simp only [befS, nearS, behS] at ih
   rw [← ih]
  ·have b0 : befS l f = [] := by
    simp only [befS, List.filter_eq_nil_iff, decide_eq_true_eq]
    intro x hx
    have := chain_ge h3 x hx
    have := (chain_one h3 x hx).2.1
    simp only [endE] at *; omega
   rw [b0, List.nil_append] at ih
   by_cases c2 : e.fr ≤ t
   ·have c3 : ¬ t < e.fr := by omega
    have c4 : e.fr ≤ t ∧ f ≤ endE e := by omega
    have b1 : befS (e :: l) f = [] := by
     simp only [befS] at b0
     simp only [befS, List.filter_cons, decide_eq_true_eq, c1, if_false, b0]
    rw [b1, List.nil_append]
    simp only [nearS, behS, List.filter_cons, decide_eq_true_eq, c3, c4, if_true, if_false, and_self, List.cons_append]
    simp only [nearS, behS] at ih
    rw [← ih]
   ·have c3 : t < e.fr := by omega
    have c4 : ¬ (e.fr ≤ t ∧ f ≤ endE e) := by omega
    have b1 : befS (e :: l) f = [] := by
     simp only [befS] at b0
     simp only [befS, List.filter_cons, decide_eq_true_eq, c1, if_false, b0]
    have n0 : nearS l f t = [] := by
     simp only [nearS, List.filter_eq_nil_iff, decide_eq_true_eq]
     intro x hx
     have := chain_ge h3 x hx
     simp only [endE] at *; omega
    rw [n0, List.nil_append] at ih
    have n1 : nearS (e :: l) f t = [] := by
     simp only [nearS] at n0
     simp only [nearS, List.filter_cons, decide_eq_true_eq, c4, if_false, n0]
    rw [b1, n1, List.nil_append, List.nil_append]
    simp only [behS, List.filter_cons, decide_eq_true_eq, c3, if_true]
    simp only [behS] at ih
    rw [← ih]
theorem bef_mem {l : List Xt} {f : Int} {e : Xt} (h : e ∈ befS l f) : e ∈ l ∧ endE e < f := by simpa [befS] using h
theorem beh_mem {l : List Xt} {t : Int} {e : Xt} (h : e ∈ behS l t) : e ∈ l ∧ t < e.fr := by simpa [behS] using h
theorem chain_left : ∀ {a b : List Xt} {lo : Int}, Chain lo (a ++ b) → Chain lo a
 | [], _, _, _ => trivial
 | _ :: _, _, _, ⟨h1, h2, h3⟩ => ⟨h1, h2, chain_left h3⟩
theorem chain_right : ∀ {a b : List Xt} {lo : Int}, Chain lo (a ++ b) → ∃ m, lo ≤ m ∧ Chain m b ∧ ∀ e ∈ a, endE e ≤ m
 | [], _, lo, h => ⟨lo, by omega, h, fun e he => by cases he⟩
 | e :: a, b, lo, ⟨h1, h2, h3⟩ => by
  obtain ⟨m, g1, g2, g3⟩ := chain_right h3
  have := h1.2.1
  refine ⟨m, by simp only [endE] at g1; omega, g2, fun x hx => ?_⟩
  rcases List.mem_cons.1 hx with rfl | hx
  ·exact g1
  ·exact g3 x hx
theorem tight_left : ∀ {a b : List Xt}, Tight (a ++ b) → Tight a
 | [], _, _ => trivial
 | [_], _, _ => trivial
 | _ :: y :: a, b, h => ⟨h.1, tight_left (a := y :: a) h.2⟩
theorem tight_right : ∀ {a b : List Xt}, Tight (a ++ b) → Tight b
 | [], _, h => h
 | _ :: a, _, h => tight_right (a := a) h.tail
theorem tight_app : ∀ {a b : List Xt}, Tight a → Tight b → (∀ a' x y b', a = a' ++ [x] → b = y :: b' → ¬ TogP x y) → Tight (a ++ b)
 | [], _, _, hb, _ => hb
 | [x], [], _, _, _ => trivial
 | [x], y :: b, _, hb, h => ⟨h [] x y b rfl rfl, hb⟩
 | x :: z :: a, b, ha, hb, h => ⟨ha.1, tight_app (a := z :: a) ha.2 hb fun a' u v b' h1 h2 => h (x :: a') u v b' (by rw [h1]; rfl) h2⟩
theorem tight_mid : ∀ {a : List Xt} {x y : Xt} {b : List Xt}, Tight (a ++ x :: y :: b) → ¬ TogP x y
 | [], _, _, _, h => h.1
 | _ :: a, _, _, _, h => tight_mid (a := a) h.tail
theorem say_cov : ∀ {l : List Xt} {s : Int}, say l s ≠ (0, 0) → ∃ e ∈ l, covers e s = true ∧ tells e s = say l s
 | [], _, h => absurd rfl h
 | e :: l, s, h => by
  by_cases hc : covers e s = true
  ·exact ⟨e, by simp, hc, by rw [say, if_pos hc]⟩
  ·rw [say, if_neg hc] at h ⊢
   obtain ⟨x, h1, h2, h3⟩ := say_cov h
   exact ⟨x, List.mem_cons_of_mem _ h1, h2, h3⟩
theorem cov_say {l : List Xt} {lo s : Int} {e : Xt} (h : Chain lo l) (he : e ∈ l) (hc : covers e s = true) : say l s = tells e s := by
 induction l generalizing lo with
 | nil => cases he
 | cons x l ih =>
  obtain ⟨h1, h2, h3⟩ := h
  rcases List.mem_cons.1 he with rfl | he
  ·rw [say, if_pos hc]
  ·have := chain_ge h3 e he
   have hx : ¬ covers x s = true := by
    simp only [covers, decide_eq_true_eq] at hc ⊢
    simp only [endE] at this; omega
   rw [say, if_neg hx]; exact ih h3 he
theorem cov_fst {e : Xt} (h : OneP e) : covers e e.fr = true := by have := h.2.1; simp only [covers, decide_eq_true_eq]; exact ⟨Int.le_refl _, by omega⟩
theorem cov_lst {e : Xt} (h : OneP e) : covers e (endE e - 1) = true := by
 have := h.2.1
 exact decide_eq_true (show e.fr ≤ e.fr + e.n - 1 ∧ e.fr + e.n - 1 < e.fr + e.n from ⟨by omega, by omega⟩)
theorem tells_eq {a b : Xt} {s : Int} (h : tells a s = tells b s) (ha : OneP a) (hb : OneP b) : a.kd = b.kd ∧ (if a.kd = 2 then a.at_ - a.fr = b.at_ - b.fr else a.at_ = 0 ∧ b.at_ = 0) := by
 simp only [tells, Prod.mk.injEq] at h
 obtain ⟨h1, h2⟩ := h
 refine ⟨h1, ?_⟩
 have h3 := ha.2.2.2.2
 have h4 := hb.2.2.2.2
 by_cases hk : a.kd = 2
 ·rw [if_pos hk, if_pos (by omega)] at h2
  rw [if_pos hk]; omega
 ·rw [if_neg hk]; omega
theorem near_gen {m A W B I : List Xt} {f t : Int} (hft : f ≤ t) (hm : OkL m) (hs : m = A ++ (W ++ B)) (hA : ∀ a ∈ A, endE a < f) (hB : ∀ b ∈ B, t < b.fr)
  (hI : OkL I) (h : ∀ s, ¬ (f ≤ s ∧ s < t) → say I s = say W s) :
  OkL (A ++ (I ++ B)) ∧ ∀ s, say (A ++ (I ++ B)) s = if f ≤ s ∧ s < t then say I s else say m s := by
 have hc := hm.1
 rw [hs] at hc
 have cA := chain_left hc
 obtain ⟨p, hp1, cWB, hp2⟩ := chain_right hc
 have cW := chain_left cWB
 obtain ⟨q, hq1, cB, hq2⟩ := chain_right cWB
 have tm := hm.2
 rw [hs] at tm
 have tA := tight_left tm
 have tWB := tight_right tm
 have tB := tight_right tWB
 have oneI := chain_one hI.1
 have oneW := chain_one cW
 -- what a middle extent may cover
 have low : ∀ x ∈ I, f ≤ x.fr ∨ ∃ w ∈ W, covers w x.fr = true ∧ tells w x.fr = tells x x.fr := by
  intro x hx
  by_cases hr : f ≤ x.fr
  ·exact .inl hr
  ·have e1 := cov_say hI.1 hx (cov_fst (oneI x hx))
   have e2 := h x.fr (by omega)
   have ne : say W x.fr ≠ (0, 0) := by rw [← e2, e1]; exact tells_ne (oneI x hx) _
   obtain ⟨w, h1, h2, h3⟩ := say_cov ne
   exact .inr ⟨w, h1, h2, by rw [h3, ← e2, e1]⟩
 have high : ∀ x ∈ I, endE x ≤ t ∨ ∃ w ∈ W, covers w (endE x - 1) = true ∧ tells w (endE x - 1) = tells x (endE x - 1) := by
  intro x hx
  by_cases hr : endE x ≤ t
  ·exact .inl hr
  ·have e1 := cov_say hI.1 hx (cov_lst (oneI x hx))
   have e2 := h (endE x - 1) (by omega)
   have ne : say W (endE x - 1) ≠ (0, 0) := by rw [← e2, e1]; exact tells_ne (oneI x hx) _
   obtain ⟨w, h1, h2, h3⟩ := say_cov ne
   exact .inr ⟨w, h1, h2, by rw [h3, ← e2, e1]⟩
 -- order
 have ab : ∀ a ∈ A, ∀ x ∈ I, endE a ≤ x.fr := by
  intro a ha x hx
  rcases low x hx with h1 | ⟨w, h1, h2, _⟩
  ·have := hA a ha; omega
  ·have := hp2 a ha
   have := chain_ge cW w h1
   simp only [covers, decide_eq_true_eq] at h2; omega
 have bb : ∀ x ∈ I, ∀ b ∈ B, endE x ≤ b.fr := by
  intro x hx b hb
  rcases high x hx with h1 | ⟨w, h1, h2, _⟩
  ·have := hB b hb; omega
  ·have := hq2 w h1
   have := chain_ge cB b hb
   simp only [covers, decide_eq_true_eq] at h2; simp only [endE] at *; omega
 have abB : ∀ a ∈ A, ∀ b ∈ B, endE a ≤ b.fr := by
  intro a ha b hb
  have := hA a ha; have := hB b hb; omega
 have glue : ∀ {u v : List Xt} {lo lo' : Int}, Chain lo u → Chain lo' v → (∀ x ∈ u, ∀ y ∈ v, endE x ≤ y.fr) → (∀ y ∈ v, lo ≤ y.fr) → Chain lo (u ++ v) := by
  intro u
  induction u with
  | nil =>
   intro v lo lo' _ hv _ h3
   cases v with
   | nil => trivial
   | cons y v => exact ⟨hv.1, h3 y (by simp), hv.2.2⟩
  | cons x u ih =>
   rintro v lo lo' ⟨h1, h2, h3⟩ hv h4 h5
   exact ⟨h1, h2, ih h3 hv (fun z hz y hy => h4 z (List.mem_cons_of_mem _ hz) y hy) fun y hy => h4 x (by simp) y hy⟩
 have cIB : Chain 0 (I ++ B) := glue hI.1 cB bb fun b hb => (chain_one cB b hb).1
 have cAll : Chain 0 (A ++ (I ++ B)) := glue cA cIB (fun a ha y hy => by
  rcases List.mem_append.1 hy with hy | hy
  ·exact ab a ha y hy
  ·exact abB a ha y hy) fun y hy => (chain_one cIB y hy).1
 -- tightness
 have tIB : Tight (I ++ B) := tight_app hI.2 tB fun I' j b B' e1 e2 htg => by
  have hj : j ∈ I := by rw [e1]; simp
  have hb : b ∈ B := by rw [e2]; simp
  have hbt := hB b hb
  rcases high j hj with h1 | ⟨w, h1, h2, h3⟩
  ·simp only [TogP] at htg; simp only [endE] at h1; omega
  ·have q1 := hq2 w h1
   have q2 := chain_ge cB b hb
   have hw := oneW w h1
   have oj := oneI j hj
   obtain ⟨k1, k2⟩ := tells_eq h3 hw oj
   have hbr := htg.1
   have hwe : endE w = b.fr := by
    simp only [covers, decide_eq_true_eq] at h2; simp only [endE] at *; omega
   -- the last one of W stands beside b
   obtain ⟨W1, W2, rfl⟩ := List.append_of_mem h1
   have hW2 : W2 = [] := by
    cases W2 with
    | nil => rfl
    | cons z W2 =>
     exfalso
     obtain ⟨_, _, c3, _⟩ := chain_right (a := W1) cW
     have z1 := c3.2.2.2.1
     have z2 := hq2 z (by simp)
     have z3 := c3.2.2.1.2.1
     simp only [endE] at *; omega
   subst hW2
   rw [e2] at tWB
   have tw : Tight (W1 ++ w :: b :: B') := by simpa using tWB
   apply tight_mid tw
   refine ⟨by rw [← hwe]; rfl, by rw [htg.2.1, k1], ?_⟩
   rw [htg.2.2]
   have ow := hw.2.2.2.2
   have ojj := oj.2.2.2.2
   by_cases hk : w.kd = 2
   ·rw [if_pos hk] at k2 ⊢
    rw [if_pos (by omega)]
    simp only [endE] at hwe; omega
   ·rw [if_neg hk]; rw [if_neg (by omega)]
 have tAll : Tight (A ++ (I ++ B)) := tight_app tA tIB fun A' a y R e1 e2 htg => by
  have ha : a ∈ A := by rw [e1]; simp
  have haf := hA a ha
  cases I with
  | nil =>
   simp only [List.nil_append] at e2
   have hy : y ∈ B := by rw [e2]; simp
   have := hB y hy
   have := htg.1
   simp only [endE] at haf; omega
  | cons i I =>
   simp only [List.cons_append, List.cons.injEq] at e2
   obtain ⟨rfl, -⟩ := e2
   rcases low i (by simp) with h1 | ⟨w, h1, h2, h3⟩
   ·have := htg.1; simp only [endE] at haf; omega
   ·have hw := oneW w h1
    have oi := oneI i (by simp)
    obtain ⟨k1, k2⟩ := tells_eq h3 hw oi
    have hir := htg.1
    have p1 := hp2 a ha
    have p2 := chain_ge cW w h1
    have hwe : w.fr = i.fr := by
     simp only [covers, decide_eq_true_eq] at h2; simp only [endE] at *; omega
    obtain ⟨W1, W2, rfl⟩ := List.append_of_mem h1
    have hW1 : W1 = [] := by
     cases W1 with
     | nil => rfl
     | cons z W1 =>
      exfalso
      have c1 := cW.2.1
      have c2 := cW.1.2.1
      obtain ⟨_, c4, c5, _⟩ := chain_right (a := W1) cW.2.2
      have c6 := c5.2.1
      simp only [endE] at *; omega
    subst hW1
    rw [e1] at tm
    have tw : Tight (A' ++ a :: w :: (W2 ++ B)) := by simpa using tm
    apply tight_mid tw
    refine ⟨by rw [hwe, hir], by rw [k1, htg.2.1], ?_⟩
    have := htg.2.2
    have ow := hw.2.2.2.2
    have oii := oi.2.2.2.2
    by_cases hk : w.kd = 2
    ·rw [if_pos hk] at k2
     rw [if_pos (by have := htg.2.1; omega)] at this ⊢
     omega
    ·have hk' : ¬ a.kd = 2 := by have := htg.2.1; omega
     rw [if_neg hk'] at this ⊢; omega
 refine ⟨⟨cAll, tAll⟩, fun s => ?_⟩
 rw [say_app cA, say_app hI.1]
 have sm : say m s = if say A s = (0, 0) then (if say W s = (0, 0) then say B s else say W s) else say A s := by rw [hs, say_app cA, say_app cW]
 by_cases hr : f ≤ s ∧ s < t
 ·rw [if_pos hr]
  have a0 : say A s = (0, 0) := say_none fun e he => by
   have := hA e he
   simp only [covers, decide_eq_false_iff_not]; simp only [endE] at this; omega
  have b0 : say B s = (0, 0) := say_none fun e he => by
   have := hB e he
   simp only [covers, decide_eq_false_iff_not]; omega
  rw [if_pos a0, b0]
  by_cases h0 : say I s = (0, 0)
  ·rw [if_pos h0, h0]
  ·rw [if_neg h0]
 ·rw [if_neg hr, sm, h s hr]
theorem ok_mid {m A W B : List Xt} (hm : OkL m) (hs : m = A ++ (W ++ B)) : OkL W := by
 have hc := hm.1
 rw [hs] at hc
 obtain ⟨p, hp1, cWB, _⟩ := chain_right hc
 have tm := hm.2
 rw [hs] at tm
 exact ⟨(chain_left cWB).mono hp1, tight_left (tight_right tm)⟩
theorem over_near {m : List Xt} {e : Xt} (hm : OkL m) (he : OneP e) : OkL (nearS m e.fr (endE e)) ∧ overS m e = befS m e.fr ++ (overS (nearS m e.fr (endE e)) e ++ behS m (endE e)) := by
 have hft : e.fr ≤ endE e := by have := he.2.1; simp only [endE]; omega
 have hs := near_split hft hm.1
 have hW := ok_mid hm hs
 refine ⟨hW, ?_⟩
 obtain ⟨h1, h2⟩ := near_gen hft hm hs (fun a ha => (bef_mem ha).2) (fun b hb => (beh_mem hb).2) (over_ok hW he) (fun s hr => by rw [over_say hW he, if_neg (by simpa [endE] using hr)])
 refine ok_same (over_ok hm he) h1 fun s => ?_
 rw [h2, over_say hm he]
 by_cases hr : e.fr ≤ s ∧ s < e.fr + e.n
 ·rw [if_pos hr, if_pos (by simpa [endE] using hr), over_say hW he, if_pos hr]
 ·rw [if_neg hr, if_neg (by simpa [endE] using hr)]
theorem cut_near {m : List Xt} {f n : Int} (hm : OkL m) (hsp : SpanP f n) : OkL (nearS m f (f + n)) ∧ cutS m f n = befS m f ++ (cutS (nearS m f (f + n)) f n ++ behS m (f + n)) := by
 have hft : f ≤ f + n := by have := hsp.2.1; omega
 have hs := near_split hft hm.1
 have hW := ok_mid hm hs
 refine ⟨hW, ?_⟩
 obtain ⟨h1, h2⟩ := near_gen hft hm hs (fun a ha => (bef_mem ha).2) (fun b hb => (beh_mem hb).2) (cut_ok hW hsp) (fun s hr => by rw [cut_say hW hsp, if_neg hr])
 refine ok_same (cut_ok hm hsp) h1 fun s => ?_
 rw [h2, cut_say hm hsp]
 by_cases hr : f ≤ s ∧ s < f + n
 ·rw [if_pos hr, if_pos hr, cut_say hW hsp, if_pos hr]
 ·rw [if_neg hr, if_neg hr]
open Go.RowKit Ar
theorem sort_ext : ∀ {a b : List Xt}, SortX a → SortX b → (∀ x, x ∈ a ↔ x ∈ b) → a = b
 | [], [], _, _, _ => rfl
 | [], y :: b, _, _, h => by have := (h y).2 (by simp); cases this
 | x :: a, [], _, _, h => by have := (h x).1 (by simp); cases this
 | x :: a, y :: b, ha, hb, h => by
  obtain ⟨a1, a2⟩ := List.pairwise_cons.1 ha
  obtain ⟨b1, b2⟩ := List.pairwise_cons.1 hb
  have hxy : x = y := by
   rcases List.mem_cons.1 ((h x).1 (by simp)) with e | e
   ·exact e
   ·rcases List.mem_cons.1 ((h y).2 (by simp)) with g | g
    ·exact g.symm
    ·have := b1 x e; have := a1 y g; omega
  subst hxy
  rw [sort_ext a2 b2 fun z => ⟨fun hz => ?_, fun hz => ?_⟩]
  ·rcases List.mem_cons.1 ((h z).1 (by simp [hz])) with rfl | e
   ·have := a1 z hz; omega
   ·exact e
  ·rcases List.mem_cons.1 ((h z).2 (by simp [hz])) with rfl | e
   ·have := b1 z hz; omega
   ·exact e
theorem sort_key {l : List Xt} (h : SortX l) {x y : Xt} (hx : x ∈ l) (hy : y ∈ l) (e : x.fr = y.fr) : x = y := by
 induction l with
 | nil => cases hx
 | cons a l ih =>
  obtain ⟨a1, a2⟩ := List.pairwise_cons.1 h
  rcases List.mem_cons.1 hx with h1 | h1 <;> rcases List.mem_cons.1 hy with h2 | h2
  ·rw [h1, h2]
  ·have := a1 y h2; rw [h1] at e; omega
  ·have := a1 x h1; rw [h2] at e; omega
  ·exact ih a2 h1 h2
theorem chain_sort : ∀ {l : List Xt} {lo : Int}, Chain lo l → SortX l
 | [], _, _ => List.Pairwise.nil
 | e :: l, lo, ⟨h1, h2, h3⟩ => List.pairwise_cons.2 ⟨fun y hy => by have := chain_ge h3 y hy; have := h1.2.1; simp only [endE] at *; omega, chain_sort h3⟩
theorem chain_bd {l : List Xt} {lo : Int} (h : Chain lo l) : BdX l := fun e he => ⟨(chain_one h e he).1, (chain_one h e he).2.2.1⟩
theorem mem_insX {x e : Xt} {l : List Xt} : x ∈ insX e l ↔ x = e ∨ x ∈ l := by
 unfold insX
 have := List.take_append_drop (posX e.fr l) l
 constructor
 ·intro h
  rcases List.mem_append.1 h with h | h
  ·exact .inr (List.mem_of_mem_take h)
  ·rcases List.mem_cons.1 h with h | h
   ·exact .inl h
   ·exact .inr (List.mem_of_mem_drop h)
 ·rintro (rfl | h)
  ·simp
  ·rw [← this] at h
   rcases List.mem_append.1 h with h | h
   ·exact List.mem_append_left _ h
   ·exact List.mem_append_right _ (List.mem_cons_of_mem _ h)
theorem sort_insX {e : Xt} : ∀ {l : List Xt}, SortX l → (∀ x ∈ l, x.fr ≠ e.fr) → SortX (insX e l)
 | [], _, _ => List.pairwise_cons.2 ⟨fun _ h => (by cases h), List.Pairwise.nil⟩
 | a :: l, hs, hk => by
  obtain ⟨a1, a2⟩ := List.pairwise_cons.1 hs
  have ha := hk a (by simp)
  by_cases hc : a.fr < e.fr
  ·have hi : insX e (a :: l) = a :: insX e l := by
    have := insX_mid (e := e) (A := [a]) (B := l) (C := []) (fun x hx => by simp at hx; rw [hx]; exact hc) (fun x hx => by cases hx)
    simpa using this
   rw [hi]
   refine List.pairwise_cons.2 ⟨fun y hy => ?_, sort_insX a2 fun x hx => hk x (by simp [hx])⟩
   rcases mem_insX.1 hy with rfl | hy
   ·exact hc
   ·exact a1 y hy
  ·have hd : decide (a.fr < e.fr) = false := decide_eq_false hc
   have hi : insX e (a :: l) = e :: a :: l := by simp [insX, posX, List.takeWhile_cons, hd]
   rw [hi]
   refine List.pairwise_cons.2 ⟨fun y hy => ?_, hs⟩
   rcases List.mem_cons.1 hy with rfl | hy
   ·omega
   ·have := a1 y hy; omega
theorem mem_keepX {x : Xt} {f : Int} {l : List Xt} : x ∈ keepX f l ↔ x ∈ l ∧ x.fr ≠ f := by simp [keepX]
theorem sort_keepX {f : Int} {l : List Xt} (h : SortX l) : SortX (keepX f l) := List.Pairwise.filter _ h
theorem keepX_ge {f : Int} : ∀ {l : List Xt}, SortX l → l.length ≤ (keepX f l).length + 1
 | [], _ => by simp
 | a :: l, h => by
  obtain ⟨a1, a2⟩ := List.pairwise_cons.1 h
  have ih := keepX_ge (f := f) a2
  by_cases hc : a.fr = f
  ·have hk : keepX f l = l := List.filter_eq_self.2 fun e he => by
    have := a1 e he
    simp; omega
   have hh : keepX f (a :: l) = l := by
    rw [← hk]; simp [keepX, List.filter_cons, hc]
   rw [hh]; simp
  ·have hh : keepX f (a :: l) = a :: keepX f l := by simp [keepX, List.filter_cons, hc]
   rw [hh]; simp only [List.length_cons]; omega
theorem keepX_mid {f : Int} {A B C : List Xt} (hA : ∀ x ∈ A, x.fr < f) (hC : ∀ x ∈ C, f < x.fr) : keepX f (A ++ (B ++ C)) = A ++ (keepX f B ++ C) := by
 have e1 : keepX f A = A := List.filter_eq_self.2 fun e he => by have := hA e he; simp; omega
 have e2 : keepX f C = C := List.filter_eq_self.2 fun e he => by have := hC e he; simp; omega
 rw [keepX, List.filter_append, List.filter_append]
 rw [show A.filter (fun e => !(e.fr == f)) = A from e1, show C.filter (fun e => !(e.fr == f)) = C from e2]
structure Chg (A B W I : List Xt) : Prop where
 m : SortX (A ++ (W ++ B))
 f : SortX (A ++ (I ++ B))
 bm : BdX (A ++ (W ++ B))
 bf : BdX (A ++ (I ++ B))
structure TakeAt (A B W I : List Xt) (j : Nat) (l : List Xt) : Prop where
 s : SortX l
 mem : ∀ x, x ∈ l ↔ x ∈ A ++ (W ++ B) ∧ ¬ (x ∈ W.take j ∧ x ∉ I)
structure PutAt (A B W I : List Xt) (j : Nat) (l : List Xt) : Prop where
 s : SortX l
 mem : ∀ x, x ∈ l ↔ x ∈ A ∨ x ∈ B ∨ (x ∈ W ∧ x ∈ I) ∨ (x ∈ I.take j ∧ x ∉ W)
theorem TakeAt.zero {A B W I : List Xt} (h : Chg A B W I) : TakeAt A B W I 0 (A ++ (W ++ B)) := ⟨h.m, fun x => by simp⟩
theorem mem_take_succ {l : List Xt} {j : Nat} (h : j < l.length) (x : Xt) : x ∈ l.take (j + 1) ↔ x ∈ l.take j ∨ x = l[j] := by
 rw [List.take_add_one, List.getElem?_eq_getElem h, Option.toList_some, List.mem_append, List.mem_singleton]
theorem TakeAt.skip {A B W I l : List Xt} {j : Nat} (h : TakeAt A B W I j l) (hj : j < W.length) (hi : W[j] ∈ I) : TakeAt A B W I (j + 1) l := by
 refine ⟨h.s, fun x => ?_⟩
 rw [h.mem, mem_take_succ hj]
 constructor
 ·rintro ⟨h1, h2⟩
  refine ⟨h1, fun h3 => ?_⟩
  rcases h3.1 with h4 | rfl
  ·exact h2 ⟨h4, h3.2⟩
  ·exact h3.2 hi
 ·rintro ⟨h1, h2⟩
  exact ⟨h1, fun h3 => h2 ⟨.inl h3.1, h3.2⟩⟩
theorem nodup_take {l : List Xt} (hs : SortX l) {j : Nat} (hj : j < l.length) : l[j] ∉ l.take j := by
 intro hm
 obtain ⟨i, hi, he⟩ := List.mem_take_iff_getElem.1 hm
 have := List.pairwise_iff_getElem.1 hs i j (by omega) hj (by omega)
 rw [he] at this
 omega
theorem Chg.sw {A B W I : List Xt} (h : Chg A B W I) : SortX W := (List.pairwise_append.1 (List.pairwise_append.1 h.m).2.1).1
theorem Chg.si {A B W I : List Xt} (h : Chg A B W I) : SortX I := (List.pairwise_append.1 (List.pairwise_append.1 h.f).2.1).1
theorem TakeAt.has {A B W I l : List Xt} {j : Nat} (c : Chg A B W I) (h : TakeAt A B W I j l) (hj : j < W.length) : W[j] ∈ l :=
 (h.mem _).2 ⟨by simp, fun hh => nodup_take c.sw hj hh.1⟩
theorem TakeAt.sub {A B W I l : List Xt} {j : Nat} (h : TakeAt A B W I j l) : ∀ x ∈ l, x ∈ A ++ (W ++ B) := fun x hx => ((h.mem x).1 hx).1
theorem TakeAt.step {A B W I l : List Xt} {j : Nat} (c : Chg A B W I) (h : TakeAt A B W I j l) (hj : j < W.length) (hi : W[j] ∉ I) : TakeAt A B W I (j + 1) (keepX W[j].fr l) := by
 refine ⟨sort_keepX h.s, fun x => ?_⟩
 have hw := h.has c hj
 rw [mem_keepX, h.mem, mem_take_succ hj]
 constructor
 ·rintro ⟨⟨h1, h2⟩, h3⟩
  refine ⟨h1, fun h4 => ?_⟩
  rcases h4.1 with h5 | rfl
  ·exact h2 ⟨h5, h4.2⟩
  ·exact h3 rfl
 ·rintro ⟨h1, h2⟩
  refine ⟨⟨h1, fun h3 => h2 ⟨.inl h3.1, h3.2⟩⟩, fun e => ?_⟩
  have := sort_key c.m h1 (h.sub _ hw) e
  subst this
  exact h2 ⟨.inr rfl, hi⟩
theorem TakeAt.done {A B W I l : List Xt} (c : Chg A B W I) (h : TakeAt A B W I W.length l) : PutAt A B W I 0 l := by
 refine ⟨h.s, fun x => ?_⟩
 rw [h.mem, List.take_length]
 simp only [List.mem_append, List.take_zero, List.not_mem_nil, false_and, or_false]
 have key : x ∈ W → x ∉ A ∧ x ∉ B := by
  intro hx
  obtain ⟨p1, p2, p3⟩ := List.pairwise_append.1 c.m
  obtain ⟨q1, q2, q3⟩ := List.pairwise_append.1 p2
  exact ⟨fun ha => by have := p3 x ha x (by simp [hx]); omega, fun hb => by have := q3 x hx x hb; omega⟩
 constructor
 ·rintro ⟨h1 | h1 | h1, h2⟩
  ·exact .inl h1
  ·by_cases hi : x ∈ I
   ·exact .inr (.inr ⟨h1, hi⟩)
   ·exact absurd ⟨h1, hi⟩ h2
  ·exact .inr (.inl h1)
 ·rintro (h1 | h1 | ⟨h1, h2⟩)
  ·exact ⟨.inl h1, fun h => (key h.1).1 h1⟩
  ·exact ⟨.inr (.inr h1), fun h => (key h.1).2 h1⟩
  ·exact ⟨.inr (.inl h1), fun h => h.2 h2⟩
theorem PutAt.skip {A B W I l : List Xt} {j : Nat} (h : PutAt A B W I j l) (hj : j < I.length) (hi : I[j] ∈ W) : PutAt A B W I (j + 1) l := by
 refine ⟨h.s, fun x => ?_⟩
 rw [h.mem, mem_take_succ hj]
 constructor
 ·rintro (h1 | h1 | h1 | ⟨h1, h2⟩)
  ·exact .inl h1
  ·exact .inr (.inl h1)
  ·exact .inr (.inr (.inl h1))
  ·exact .inr (.inr (.inr ⟨.inl h1, h2⟩))
 ·rintro (h1 | h1 | h1 | ⟨h1 | rfl, h2⟩)
  ·exact .inl h1
  ·exact .inr (.inl h1)
  ·exact .inr (.inr (.inl h1))
  ·exact .inr (.inr (.inr ⟨h1, h2⟩))
  ·exact absurd hi h2
theorem PutAt.sub {A B W I l : List Xt} {j : Nat} (h : PutAt A B W I j l) : ∀ x ∈ l, x ∈ A ++ (I ++ B) := by
 intro x hx
 rcases (h.mem x).1 hx with h1 | h1 | h1 | h1
 ·simp [h1]
 ·simp [h1]
 ·simp [h1.2]
 ·simp [List.mem_of_mem_take h1.1]
theorem PutAt.new {A B W I l : List Xt} {j : Nat} (c : Chg A B W I) (h : PutAt A B W I j l) (hj : j < I.length) (hi : I[j] ∉ W) : ∀ x ∈ l, x.fr ≠ I[j].fr := by
 intro x hx e
 have := sort_key c.f (h.sub x hx) (show I[j] ∈ A ++ (I ++ B) by simp) e
 subst this
 obtain ⟨p1, p2, p3⟩ := List.pairwise_append.1 c.f
 obtain ⟨q1, q2, q3⟩ := List.pairwise_append.1 p2
 rcases (h.mem _).1 hx with h1 | h1 | h1 | h1
 ·have := p3 _ h1 I[j] (by simp); omega
 ·have := q3 I[j] (by simp) _ h1; omega
 ·exact hi h1.1
 ·exact nodup_take c.si hj h1.1
theorem PutAt.step {A B W I l : List Xt} {j : Nat} (c : Chg A B W I) (h : PutAt A B W I j l) (hj : j < I.length) (hi : I[j] ∉ W) : PutAt A B W I (j + 1) (insX I[j] l) := by
 refine ⟨sort_insX h.s (h.new c hj hi), fun x => ?_⟩
 rw [mem_insX, h.mem, mem_take_succ hj]
 constructor
 ·rintro (rfl | h1 | h1 | h1 | ⟨h1, h2⟩)
  ·exact .inr (.inr (.inr ⟨.inr rfl, hi⟩))
  ·exact .inl h1
  ·exact .inr (.inl h1)
  ·exact .inr (.inr (.inl h1))
  ·exact .inr (.inr (.inr ⟨.inl h1, h2⟩))
 ·rintro (h1 | h1 | h1 | ⟨h1 | rfl, h2⟩)
  ·exact .inr (.inl h1)
  ·exact .inr (.inr (.inl h1))
  ·exact .inr (.inr (.inr (.inl h1)))
  ·exact .inr (.inr (.inr (.inr ⟨h1, h2⟩)))
  ·exact .inl rfl
theorem PutAt.done {A B W I l : List Xt} (c : Chg A B W I) (h : PutAt A B W I I.length l) : l = A ++ (I ++ B) := by
 refine sort_ext h.s c.f fun x => ⟨h.sub x, fun hx => (h.mem x).2 ?_⟩
 rw [List.take_length]
 simp only [List.mem_append] at hx
 rcases hx with h1 | h1 | h1
 ·exact .inl h1
 ·by_cases hw : x ∈ W
  ·exact .inr (.inr (.inl ⟨hw, h1⟩))
  ·exact .inr (.inr (.inr ⟨h1, hw⟩))
 ·exact .inr (.inl h1)
def fltS (s : Int) (l : List Xt) : List Xt := l.filter fun e => decide (s < endE e)
theorem fltS_app (s : Int) (a b : List Xt) : fltS s (a ++ b) = fltS s a ++ fltS s b := List.filter_append ..
theorem fltS_nil {s : Int} {l : List Xt} (h : ∀ e ∈ l, endE e ≤ s) : fltS s l = [] := List.filter_eq_nil_iff.2 fun e he => by have := h e he; simp; omega
def runX {σ : Type} (step : σ → Xt → Bool × σ) : List Xt → σ → Bool × σ
 | [], s => (true, s)
 | e :: l, s => if (step s e).1 = true then runX step l (step s e).2 else (false, (step s e).2)
theorem runX_app {σ : Type} (step : σ → Xt → Bool × σ) : ∀ (a b : List Xt) (s : σ), runX step (a ++ b) s = if (runX step a s).1 = true then runX step b (runX step a s).2 else (false, (runX step a s).2)
 | [], b, s => by simp [runX]
 | e :: a, b, s => by
  rw [List.cons_append, runX, runX]
  by_cases h : (step s e).1 = true
  ·rw [if_pos h, if_pos h, runX_app step a b]
  ·rw [if_neg h, if_neg h]; simp
theorem run_all : ∀ (l o : List Xt), runX (fun o e => (true, o ++ [e])) l o = (true, o ++ l)
 | [], o => by simp [runX]
 | e :: l, o => by rw [runX, if_pos rfl, run_all l]; simp
def nearF (f t : Int) (o : List Xt) (e : Xt) : Bool × List Xt := if t < e.fr then (false, o) else (true, if f ≤ endE e then o ++ [e] else o)
theorem run_near {f t : Int} : ∀ {l : List Xt} {lo : Int} (o : List Xt), Chain lo l → (runX (nearF f t) (fltS (f - 1) l) o).2 = o ++ nearS l f t
 | [], _, o, _ => by simp [runX, fltS, nearS]
 | e :: l, lo, o, ⟨h1, h2, h3⟩ => by
  by_cases hs : f - 1 < endE e
  ·have e1 : fltS (f - 1) (e :: l) = e :: fltS (f - 1) l := by simp [fltS, List.filter_cons, hs]
   rw [e1, runX]
   by_cases ht : t < e.fr
   ·have e2 : nearF f t o e = (false, o) := by simp [nearF, ht]
    have e3 : nearS (e :: l) f t = [] := by
     simp only [nearS, List.filter_eq_nil_iff, decide_eq_true_eq]
     intro x hx
     rcases List.mem_cons.1 hx with rfl | hx
     ·omega
     ·have := chain_ge h3 x hx
      have := h1.2.1
      simp only [endE] at *; omega
    rw [e2, e3]; simp
   ·have e2 : nearF f t o e = (true, o ++ [e]) := by
     have : f ≤ endE e := by omega
     simp [nearF, ht, this]
    have e3 : nearS (e :: l) f t = e :: nearS l f t := by
     have : e.fr ≤ t ∧ f ≤ endE e := by omega
     simp [nearS, List.filter_cons, this]
    rw [e2, if_pos rfl, run_near _ h3, e3]; simp
  ·have e1 : fltS (f - 1) (e :: l) = fltS (f - 1) l := by simp [fltS, List.filter_cons, hs]
   have e3 : nearS (e :: l) f t = nearS l f t := by
    have : ¬ (e.fr ≤ t ∧ f ≤ endE e) := by omega
    simp only [nearS, List.filter_cons, decide_eq_true_eq, this, if_false]
   rw [e1, e3]; exact run_near o h3
open Go.RowKit Ar
structure RemR [Fr] (ob : List AObj) (h : Nat) (k : Kd) (f : Int) (ob' : List AObj) : Prop where
 ex : ∃ k', Node ob' h k' ∧ k'.p = k.p ∧ k'.l = keepX f k.l ∧ k.s ≤ k'.s + 1 ∧ k'.s ≤ k.s ∧ Sub ob k.fp k'.fp ∧ Same ob ob' (· ∈ k.fp)
def RemSpec [Fr] (h : Nat) : Prop := ∀ {ob : List AObj} {k : Kd} {f : Int}, Node ob h k → 1 ≤ k.s → (h ≠ 0 → 2 ≤ k.s) → k.s ≤ 8 → SortX k.l → ICall Tryz.prog 129 [nodeV h k, .int .i64 f] ob fun _ ob' => RemR ob h k f ob'
theorem remove_leaf [Fr] : RemSpec 0 := by
 intro ob k f hN h1 _ h8 hs
 obtain ⟨q, off, c, hL⟩ := hN
 obtain ⟨a, hbx, whbx⟩ := hL.bx
 have hA := hL.ar
 have hsz := hL.sz
 have hnd := hL.nd
 rw [hL.fp] at hnd
 have hpq : k.p ≠ q := by simpa using hnd
 have hp := (List.getElem?_eq_some_iff.1 hbx).1
 have hq := hA.lt
 rw [nodeV_0]
 refine icall_dr Tryz.func129 E129.h ?_
 simp only [U129, seval, bA]
 refine callX (mW 0) (callM (where_i 0 k.p) ?_)
 rintro r ob' ⟨rfl, rfl⟩
 have f0 := app1 hbx [AObj.box [.int .i64 f]]
 have f1 := app0 ob (AObj.box [.int .i64 f])
 have hS0 : Same ob (ob ++ [AObj.box [.int .i64 f]]) (· ∈ k.fp) := Same.app _ _ _
 have hA0 := (Same.app ob [AObj.box [.int .i64 f]] (fun _ => False)).arr hA (fun h => h)
 have hl0 : (ob ++ [AObj.box [.int .i64 f]]).length = ob.length + 1 := by simp
 generalize ob ++ [AObj.box [.int .i64 f]] = ob1 at *
 have g1 := setS (ob := ob1) (p := k.p) (by omega)
 have g2 : ∀ x, (ob1.set k.p x)[ob.length]? = _ := fun x => setO (x := x) (by omega) f1
 simp only [U129, f0, g1, g2, ldB1, seval, bA]
 have hS1 : Same ob (ob1.set k.p (AObj.box [.int .i64 (-1), .asl q off k.s c])) (· ∈ k.fp) := hS0.trans (Same.set (by rw [hL.fp]; simp))
 have hA1 := (Same.set (ob := ob1) (a := AObj.box [.int .i64 (-1), .asl q off k.s c]) (T := (· = k.p)) rfl).arr hA0 (Ne.symm hpq)
 have f2 := g1 (AObj.box [.int .i64 (-1), .asl q off k.s c])
 have f3 := g2 (AObj.box [.int .i64 (-1), .asl q off k.s c])
 have hl1 : (ob1.set k.p (AObj.box [.int .i64 (-1), .asl q off k.s c])).length = ob.length + 1 := by rw [List.length_set, hl0]
 generalize ob1.set k.p (AObj.box [.int .i64 (-1), .asl q off k.s c]) = ob2 at *
 rw [hsz] at hA1
 have hd := delF hA1 f3 (by omega) (by omega)
 rw [← hsz] at hd
 refine callM hd ?_
 rintro r ob3 ⟨rfl, hX, hS2⟩
 have f4 := hS2.get f2 hpq
 have hp3 := (List.getElem?_eq_some_iff.1 f4).1
 have hS3 : Same ob ob3 (· ∈ k.fp) := hS1.trans (hS2.mono fun j (hj : j = q) => by rw [hj, hL.fp]; simp)
 have hT : Same ob3 (ob3.set k.p (AObj.box [.int .i64 (-1), .asl q off (keepX f k.l).length c])) (· = k.p) := Same.set rfl
 have g3 := setS hp3
 simp only [U129, f4, g3, seval, bA]
 have hge := keepX_ge (f := f) hs
 have hle : (keepX f k.l).length ≤ k.l.length := List.length_filter_le _ _
 refine ⟨_, rfl, ⟨⟨k.p, keepX f k.l, (keepX f k.l).length, [k.p, q]⟩, ?_, rfl, rfl, by simp only []; omega, by simp only []; omega, fun j hj => .inl (by rw [hL.fp]; exact hj), hS3.trans (hT.mono fun j (hj : j = k.p) => by rw [hj, hL.fp]; simp)⟩⟩
 exact ⟨q, off, c, ⟨rfl, by simpa using hpq, rfl, ⟨-1, g3 _, Fr.fresh _ _ _⟩, hT.arr hX (Ne.symm hpq), hL.cb⟩⟩
theorem remove_inner [Fr] {h : Nat} (IH : RemSpec h) : RemSpec (h + 1) := by
 intro ob k f hN hs1 hs2 h8 hs
 have h2 : 2 ≤ k.s := hs2 (by omega)
 obtain ⟨q, off, c, ks, hI, hk⟩ := hN
 have hN : Node ob (h + 1) k := ⟨q, off, c, ks, hI, hk⟩
 obtain ⟨a, hbx, whbx⟩ := hI.bx
 have hsz := hI.sz
 have hfl := hI.fl
 have h0 : 0 < ks.length := by omega
 obtain ⟨A, x, B, hAb⟩ := about (v := f) (by rw [hI.fl] at hs; exact hs) (fun x hx => (hk x hx).1.ne (by have := (hk x hx).2.1; omega)) h0
 have hKs := kids_of hI hk hAb.eq
 have hp := hKs.lt k.p (by rw [hKs.fp]; simp)
 have hq := hI.ar.lt
 have hpq := hKs.pq
 rw [nodeV_s]
 refine icall_dr Tryz.func129 E129.h ?_
 simp only [U129, seval, bA]
 refine callX (mW (h + 1)) (callM (where_i (h + 1) k.p) ?_)
 rintro r ob' ⟨rfl, rfl⟩
 have f0 := app1 hbx [AObj.box [.int .i64 f]]
 have f1 := app0 ob (AObj.box [.int .i64 f])
 have hS0 : Same ob (ob ++ [AObj.box [.int .i64 f]]) (fun _ => False) := Same.app _ _ _
 have hl0 : (ob ++ [AObj.box [.int .i64 f]]).length = ob.length + 1 := by simp
 generalize ob ++ [AObj.box [.int .i64 f]] = ob1 at *
 have g1 := setS (ob := ob1) (p := k.p) (by omega)
 have g2 : ∀ x, (ob1.set k.p x)[ob.length]? = _ := fun x => setO (x := x) (by omega) f1
 simp only [U129, f0, g1, g2, ldB1, seval, bA]
 have hS1 : Same ob (ob1.set k.p (AObj.box [.int .i64 (-1), .asl q off k.s c])) (· = k.p) := (hS0.mono (fun j h => h.elim)).trans (Same.set rfl)
 have f2 := g1 (AObj.box [.int .i64 (-1), .asl q off k.s c])
 have f3 := g2 (AObj.box [.int .i64 (-1), .asl q off k.s c])
 have hl1 : (ob1.set k.p (AObj.box [.int .i64 (-1), .asl q off k.s c])).length = ob.length + 1 := by rw [List.length_set, hl0]
 generalize ob1.set k.p (AObj.box [.int .i64 (-1), .asl q off k.s c]) = ob2 at *
 have hA2 := hS1.arr hI.ar (Ne.symm hpq)
 have hI2 : InnerAt ob2 h k q off c ks := ⟨hI.fp, hI.nd, hI.sz, hI.fl, ⟨-1, f2, Fr.fresh _ _ _⟩, hA2, hI.cb⟩
 have hx2 := hKs.me.1.same hS1 (fun i hi e => hKs.px (e ▸ hi))
 have ho2 : ∀ y, y ∈ A ∨ y ∈ B → Node ob2 h y := fun y hy => (hKs.oth y hy).1.same hS1 (fun i hi => ((hKs.oth y hy).2.2.2 i hi).2.1)
 have hk2 : ∀ y ∈ ks, Node ob2 h y ∧ 1 ≤ y.s := by
  intro y hy
  refine ⟨?_, by have := (hk y hy).2.1; omega⟩
  rw [hAb.eq] at hy
  rcases List.mem_append.1 hy with hy | hy
  ·exact ho2 y (.inl hy)
  ·rcases List.mem_cons.1 hy with rfl | hy
   ·exact hx2
   ·exact ho2 y (.inr hy)
 refine callR (under_r hI2 hk2 h0 (by omega) f) ?_
 have hlen := hAb.len
 have hat := hAb.at
 generalize undF (keyK ks) f (ks.length - 1) = i at *
 have hi : i < k.s := by have := (List.getElem?_eq_some_iff.1 hat).1; omega
 have d1 : decide (i < k.s) = true := decide_eq_true hi
 have hld := ldK hA2 (i := i) (x := nodeV h x) (by rw [List.getElem?_map, hat]; rfl)
 simp only [U129, f2, f3, ldB1, d1, hld, seval, bA]
 have hxl : SortX x.l := hAb.sort (by rw [hI.fl] at hs; exact hs)
 refine callM (IH hx2 (by have := hKs.me.2.1; omega) (fun _ => by have := hKs.me.2.1; omega) hKs.me.2.2 hxl) ?_
 rintro r ob3 ⟨x', hx', hxp, hl', hsx1, hsx2, hsub, hS3⟩
 have hA3 := hS3.arr hA2 hKs.qx
 have f4 := hS3.get f2 hKs.px
 have hbb := hS3.get f3 (fun h => by have := hKs.lt ob.length (by rw [hKs.fp]; simp [h]); omega)
 have ho3 : ∀ y, y ∈ A ∨ y ∈ B → Node ob3 h y := fun y hy => (ho2 y hy).same hS3 (fun i hi => ((hKs.oth y hy).2.2.2 i hi).1)
 have hl3 := hS3.1
 have hS3' : Same ob ob3 (· ∈ k.fp) := (hS1.mono (fun j (hj : j = k.p) => by subst hj; rw [hKs.fp]; simp)).trans (hS3.mono fun j hj => by rw [hKs.fp]; simp [hj])
 have hss := hKs.me.2
 have hkn : ks.length = A.length + (1 + B.length) := by rw [hAb.eq, List.length_append, List.length_cons]; omega
 have hnd0 : ((k.p :: q :: A.flatMap (·.fp)) ++ (x.fp ++ B.flatMap (·.fp))).Nodup := by have := hKs.nd; rw [hKs.fp] at this; exact this
 have hlt0 : ∀ i ∈ (k.p :: q :: A.flatMap (·.fp)) ++ (x.fp ++ B.flatMap (·.fp)), i < ob2.length := by
  intro i hi
  have := hKs.lt i (by rw [hKs.fp]; exact hi)
  omega
 have hkl : k.l = A.flatMap (·.l) ++ (x.l ++ B.flatMap (·.l)) := by rw [hI.fl, hAb.eq, List.flatMap_append, List.flatMap_cons]
 have hkeep : keepX f k.l = A.flatMap (·.l) ++ (keepX f x.l ++ B.flatMap (·.l)) := by rw [hkl]; exact keepX_mid hAb.lo hAb.hi
 have hnd : ((k.p :: q :: A.flatMap (·.fp)) ++ (x'.fp ++ B.flatMap (·.fp))).Nodup := nodup_swap hnd0 hlt0 hx'.nd hsub
 have hmap : (A ++ x' :: B).map (nodeV h) = ks.map (nodeV h) := by rw [hAb.eq, List.map_append, List.map_cons, List.map_append, List.map_cons]; simp only [nodeV, hxp]
 have hkn' : (A ++ x' :: B).length = k.s := by rw [hsz, hkn, List.length_append, List.length_cons]; omega
 have hsub' : Sub ob k.fp (k.p :: q :: (A ++ x' :: B).flatMap (·.fp)) := by
  intro j hj
  simp only [List.flatMap_append, List.flatMap_cons, List.mem_cons, List.mem_append] at hj
  rw [hKs.fp]
  simp only [List.mem_cons, List.mem_append]
  rcases hj with rfl | rfl | hj | hj | hj
  ·exact .inl (.inl rfl)
  ·exact .inl (.inr (.inl rfl))
  ·exact .inl (.inr (.inr (.inl hj)))
  ·rcases hsub j hj with h | h
   ·exact .inl (.inr (.inr (.inr (.inl h))))
   ·exact .inr (by omega)
  ·exact .inl (.inr (.inr (.inr (.inr hj))))
 have hI3 : InnerAt ob3 h ⟨k.p, keepX f k.l, k.s, k.p :: q :: (A ++ x' :: B).flatMap (·.fp)⟩ q off c (A ++ x' :: B) := by
  refine ⟨rfl, ?_, hkn'.symm, ?_, ⟨-1, f4, Fr.fresh _ _ _⟩, ?_, hI.cb⟩
  ·simp only []; rw [List.flatMap_append, List.flatMap_cons]; exact hnd
  ·simp only []; rw [hkeep, List.flatMap_append, List.flatMap_cons, hl']
  ·simp only []; rw [hmap]; exact hA3
 have hall : ∀ y ∈ A ++ x' :: B, Node ob3 h y := by
  intro y hy
  rcases List.mem_append.1 hy with hy | hy
  ·exact ho3 y (.inl hy)
  ·rcases List.mem_cons.1 hy with rfl | hy
   ·exact hx'
   ·exact ho3 y (.inr hy)
 have hoth : ∀ y, y ∈ A ∨ y ∈ B → 4 ≤ y.s ∧ y.s ≤ 8 := fun y hy => ⟨(hKs.oth y hy).2.1, (hKs.oth y hy).2.2.1⟩
 have hld3 : ldB ob3[q]? (off + i * 1) 1 = some [nodeV h x'] := by
  have := ldK hA3 (i := i) (x := nodeV h x) (by rw [List.getElem?_map, hat]; rfl)
  rw [this]; simp only [nodeV, hxp]
 simp only [U129, f4, ldB1, d1, hld3, nodeV, seval, bA]
 refine callJ (mZ h) (size_r h hx') ?_
 by_cases h4 : x'.s < 4
 ·have d4 : decide ((x'.s : Int) < 4) = true := decide_eq_true (by omega)
  simp only [U129, f4, ldB1, d1, hld3, nodeV, d4, seval, bA]
  have hm := mend_i hI3 hlen hall hoth (by omega) h2 h8 f4
  refine callM hm ?_
  rintro r ob4 ⟨k', hN', hp', hl4, hs3, hs4, hsub4, hS4⟩
  simp only [U129, seval, bA]
  simp only [] at hp' hl4 hs3 hs4 hsub4 hS4
  refine ⟨_, rfl, ⟨k', hN', hp', hl4, by omega, by omega, fun j hj => ?_, ?_⟩⟩
  ·rcases hsub4 j hj with h | h
   ·exact hsub' j h
   ·exact .inr (by omega)
  ·refine ⟨by have := hS4.1; omega, fun j hj hT => ?_⟩
   rw [hS4.2 j (by omega) fun hm => ?_]
   ·exact hS3'.2 j hj hT
   ·rcases hsub' j hm with h | h
    ·exact hT h
    ·omega
 ·have d4 : decide ((x'.s : Int) < 4) = false := decide_eq_false (by omega)
  simp only [U129, f4, ldB1, d1, hld3, nodeV, d4, seval, bA]
  refine ⟨_, rfl, ⟨_, ⟨q, off, c, _, hI3, fun y hy => ?_⟩, rfl, rfl, by simp only []; omega, by simp only []; omega, hsub', hS3'⟩⟩
  rcases List.mem_append.1 hy with hy | hy
  ·exact ⟨ho3 y (.inl hy), hoth y (.inl hy)⟩
  ·rcases List.mem_cons.1 hy with rfl | hy
   ·exact ⟨hx', by omega, by omega⟩
   ·exact ⟨ho3 y (.inr hy), hoth y (.inr hy)⟩
theorem remove_i [Fr] : ∀ h, RemSpec h
 | 0 => remove_leaf
 | h + 1 => remove_inner (remove_i h)
open Go.RowKit Ar
inductive TopAt [Fr] (ob : List AObj) : PV → List Xt → List Nat → Prop
 | nil : TopAt ob .nili [] []
 | node (h : Nat) (k : Kd) : Node ob h k → 1 ≤ k.s → (h ≠ 0 → 2 ≤ k.s) → k.s ≤ 8 → TopAt ob (nodeV h k) k.l k.fp
structure TreeAt [Fr] (ob : List AObj) (t : Nat) (l : List Xt) (fp : List Nat) : Prop where
 ex : ∃ v, ob[t]? = some (.box [v]) ∧ TopAt ob v l fp
 no : t ∉ fp
theorem TopAt.lt [Fr] {ob : List AObj} {v : PV} {l : List Xt} {fp : List Nat} (h : TopAt ob v l fp) : ∀ i ∈ fp, i < ob.length := by
 cases h with
 | nil => intro i hi; cases hi
 | node h k hN => exact hN.lt
theorem TopAt.frame [Fr] {ob ob' : List AObj} {v : PV} {l : List Xt} {fp : List Nat} (h : TopAt ob v l fp) (hf : ∀ i ∈ fp, ob'[i]? = ob[i]?) : TopAt ob' v l fp := by
 cases h with
 | nil => exact .nil
 | node h k hN h1 h2 h3 => exact .node h k (hN.frame hf) h1 h2 h3
theorem TreeAt.lt [Fr] {ob : List AObj} {t : Nat} {l : List Xt} {fp : List Nat} (h : TreeAt ob t l fp) : ∀ i ∈ t :: fp, i < ob.length := by
 obtain ⟨v, h1, h2⟩ := h.ex
 intro i hi
 rcases List.mem_cons.1 hi with rfl | hi
 ·exact (List.getElem?_eq_some_iff.1 h1).1
 ·exact h2.lt i hi
theorem TreeAt.frame [Fr] {ob ob' : List AObj} {t : Nat} {l : List Xt} {fp : List Nat} (h : TreeAt ob t l fp) (hf : ∀ i ∈ t :: fp, ob'[i]? = ob[i]?) : TreeAt ob' t l fp := by
 obtain ⟨v, h1, h2⟩ := h.ex
 exact ⟨⟨v, (hf t (by simp)).trans h1, h2.frame fun i hi => hf i (by simp [hi])⟩, h.no⟩
theorem TreeAt.same [Fr] {ob ob' : List AObj} {T : Nat → Prop} {t : Nat} {l : List Xt} {fp : List Nat} (h : TreeAt ob t l fp) (hS : Same ob ob' T) (hT : ∀ i ∈ t :: fp, ¬ T i) : TreeAt ob' t l fp :=
 h.frame fun i hi => hS.2 i (h.lt i hi) (hT i hi)
structure TreeR [Fr] (ob : List AObj) (t : Nat) (fp : List Nat) (l' : List Xt) (ob' : List AObj) : Prop where
 ex : ∃ fp', TreeAt ob' t l' fp' ∧ Sub ob fp fp' ∧ Same ob ob' (· ∈ t :: fp)
theorem put_i [Fr] {ob : List AObj} {t : Nat} {l : List Xt} {fp : List Nat} {e : Xt} (hT : TreeAt ob t l fp) (hs : SortX l) (hb : BdX l) (he : 0 ≤ e.fr ∧ e.fr ≤ 16777216) :
  ICall Tryz.prog 96 [.ref t 0, pE e] ob fun _ ob' => TreeR ob t fp (insX e l) ob' := by
 obtain ⟨v, hv, hTop⟩ := hT.ex
 have hno := hT.no
 have htl := (List.getElem?_eq_some_iff.1 hv).1
 refine icall_dr Tryz.func96 E96.h ?_
 have f0 := app1 hv [AObj.box (rowE e)]
 have f1 := app0 ob (AObj.box (rowE e))
 have hS0 : Same ob (ob ++ [AObj.box (rowE e)]) (fun _ => False) := Same.app _ _ _
 have hl0 : (ob ++ [AObj.box (rowE e)]).length = ob.length + 1 := by simp
 cases hTop with
 | nil =>
  simp only [U96, rowE, seval, bA]
  simp only [rowE] at f0 f1 hS0 hl0
  generalize ob ++ [AObj.box [.int .i64 e.fr, .int .i64 e.n, .int .i64 e.kd, .int .i64 e.at_]] = ob1 at *
  have f2 : ∀ l, (ob1 ++ l)[t]? = _ := fun l => app1 f0 l
  simp only [U96, rowE, f0, f1, f2, ldB1, seval, bA]
  have hS1 : Same ob1 (ob1 ++ [AObj.box (rowE e), AObj.box [.int .i64 (-1), .asl ob1.length 0 1 1]]) (fun _ => False) := Same.app _ _ _
  have hA : Arr (ob1 ++ [AObj.box (rowE e), AObj.box [.int .i64 (-1), .asl ob1.length 0 1 1]]) 4 ob1.length 0 1 1 (XL [e]) := ⟨rowE e, by rw [List.getElem?_append_right (Nat.le_refl _), Nat.sub_self]; rfl, Nat.le_refl _, by rw [rowE_len]; omega, by rw [List.drop_zero, List.take_of_length_le (by rw [rowE_len]; omega), XL_one]⟩
  have f3 : (ob1 ++ [AObj.box (rowE e), AObj.box [.int .i64 (-1), .asl ob1.length 0 1 1]])[ob1.length + 1]? = some (AObj.box [.int .i64 (-1), .asl ob1.length 0 1 1]) := by rw [List.getElem?_append_right (by omega), Nat.add_sub_cancel_left]; rfl
  simp only [rowE] at hS1 hA f3
  have f4 := f2 [AObj.box [.int .i64 e.fr, .int .i64 e.n, .int .i64 e.kd, .int .i64 e.at_], AObj.box [.int .i64 (-1), .asl ob1.length 0 1 1]]
  generalize ob1 ++ [AObj.box [.int .i64 e.fr, .int .i64 e.n, .int .i64 e.kd, .int .i64 e.at_], AObj.box [.int .i64 (-1), .asl ob1.length 0 1 1]] = ob2 at *
  have htl2 : t < ob2.length := (List.getElem?_eq_some_iff.1 f4).1
  have hT1 : Same ob2 (ob2.set t (AObj.box [.ifc 180 (.ref (ob1.length + 1) 0)])) (· = t) := Same.set rfl
  refine ⟨_, rfl, ⟨[ob1.length + 1, ob1.length], ⟨⟨nodeV 0 ⟨ob1.length + 1, [e], 1, [ob1.length + 1, ob1.length]⟩, setS htl2 _, ?_⟩, by simp; omega⟩, ?_, ?_⟩⟩
  ·refine .node 0 ⟨ob1.length + 1, [e], 1, [ob1.length + 1, ob1.length]⟩ ?_ (by simp) (fun h => absurd rfl h) (by simp)
   exact ⟨ob1.length, 0, 1, ⟨rfl, by simp, rfl, ⟨-1, hT1.get f3 (show ¬ ob1.length + 1 = t by omega), Fr.fresh _ _ _⟩, hT1.arr hA (by omega), by omega⟩⟩
  ·intro j hj
   simp only [List.mem_cons, List.not_mem_nil, or_false] at hj
   exact .inr (by omega)
  ·exact (hS0.mono (fun _ h => h.elim)).trans ((hS1.mono (fun _ h => h.elim)).trans (hT1.mono fun j (hj : j = t) => by simp [hj]))
 | node h k hN h1 h2 h8 =>
  simp only [U96, rowE, nodeV, seval, bA]
  simp only [rowE] at f0 f1 hS0 hl0
  generalize ob ++ [AObj.box [.int .i64 e.fr, .int .i64 e.n, .int .i64 e.kd, .int .i64 e.at_]] = ob1 at *
  simp only [U96, rowE, f0, f1, ldB1, nodeV, seval, bA]
  refine callM (insert_i h (hN.same hS0 (fun _ _ h => h)) h1 h8 hs hb he) ?_
  rintro r ob2 ⟨k', hN', hp', hS2, hcase⟩
  have l2 := hS2.1
  have f2 := hS2.get f0 hno
  have hS2' : Same ob ob2 (· ∈ t :: k.fp) := (hS0.mono (fun _ h => h.elim)).trans (hS2.mono fun j hj => by simp [hj])
  rcases hcase with ⟨rfl, hl', hsx, hs8, hsub⟩ | ⟨k2, rfl, hN2, hl', hs4, hs5, hsub, hndx⟩
  ·simp only [U96, seval, bA]
   have hv' : nodeV h k = nodeV h k' := by simp only [nodeV, hp']
   refine ⟨_, rfl, ⟨k'.fp, ⟨⟨nodeV h k', by rw [← hv']; exact f2, ?_⟩, fun hm => ?_⟩, fun j hj => ?_, hS2'⟩⟩
   ·rw [← hl']
    exact .node h k' hN' (by omega) (fun h0 => by have := h2 h0; omega) hs8
   ·rcases hsub t hm with h | h
    ·exact hno h
    ·omega
   ·rcases hsub j hj with h | h
    ·exact .inl h
    ·exact .inr (by omega)
  ·simp only [U96, nodeV, seval, bA]
   simp only [nodeV] at f2
   have f3 : ∀ l, (ob2 ++ l)[t]? = _ := fun l => app1 f2 l
   simp only [U96, f2, f3, ldB1, seval, bA]
   obtain ⟨ex, hex⟩ : ∃ ex, ex = [AObj.box [nodeV h k, nodeV h k2], AObj.box [.int .i64 (-1), .asl ob2.length 0 2 2]] := ⟨_, rfl⟩
   have hS3 : Same ob2 (ob2 ++ ex) (fun _ => False) := Same.app _ _ _
   have hA : Arr (ob2 ++ ex) 1 ob2.length 0 2 2 ([k', k2].map (nodeV h)) := ⟨[nodeV h k, nodeV h k2], by rw [List.getElem?_append_right (Nat.le_refl _), Nat.sub_self, hex]; rfl, Nat.le_refl _, by simp, by simp [nodeV, hp']⟩
   have f4 : (ob2 ++ ex)[ob2.length + 1]? = some (AObj.box [.int .i64 (-1), .asl ob2.length 0 2 2]) := by rw [List.getElem?_append_right (by omega), Nat.add_sub_cancel_left, hex]; rfl
   have f5 := f3 ex
   have hl3 : (ob2 ++ ex).length = ob2.length + 2 := by rw [List.length_append, hex]; rfl
   have hNk : ∀ y ∈ [k', k2], Node ob2 h y ∧ 4 ≤ y.s ∧ y.s ≤ 8 := by
    intro y hy
    simp only [List.mem_cons, List.not_mem_nil, or_false] at hy
    rcases hy with rfl | rfl
    ·exact ⟨hN', by omega, by omega⟩
    ·exact ⟨hN2, by omega, by omega⟩
   simp only [nodeV] at hex
   rw [← hex]
   generalize ob2 ++ ex = ob3 at *
   have htl3 : t < ob3.length := (List.getElem?_eq_some_iff.1 f5).1
   have htb : t < ob2.length := by omega
   have hT1 : Same ob3 (ob3.set t (AObj.box [.ifc 125 (.ref (ob2.length + 1) 0)])) (· = t) := Same.set rfl
   have havoid : ∀ y ∈ [k', k2], ∀ i ∈ y.fp, i ≠ t ∧ i < ob2.length := by
    intro y hy i hi
    refine ⟨?_, (hNk y hy).1.lt i hi⟩
    rintro rfl
    have hm : i ∈ k'.fp ++ k2.fp := by
     simp only [List.mem_cons, List.not_mem_nil, or_false] at hy
     rcases hy with rfl | rfl
     ·exact List.mem_append_left _ hi
     ·exact List.mem_append_right _ hi
    rcases hsub i hm with h | h
    ·exact hno h
    ·omega
   have hfe : [k', k2].flatMap (·.fp) = k'.fp ++ k2.fp := by simp
   have hle : [k', k2].flatMap (·.l) = insX e k.l := by simp [← hl']
   have hltx : ∀ i ∈ [k', k2].flatMap (·.fp), i < ob2.length := by
    intro i hi
    obtain ⟨y, hy, hi⟩ := List.mem_flatMap.1 hi
    exact (havoid y hy i hi).2
   have hnd2 : ((ob2.length + 1) :: ob2.length :: [k', k2].flatMap (·.fp)).Nodup := by
    refine List.nodup_cons.2 ⟨?_, List.nodup_cons.2 ⟨?_, by rw [hfe]; exact hndx⟩⟩
    ·intro hm
     rcases List.mem_cons.1 hm with h | h
     ·omega
     ·have := hltx _ h; omega
    ·intro hm
     have := hltx _ hm; omega
   refine ⟨_, rfl, ⟨(ob2.length + 1) :: ob2.length :: [k', k2].flatMap (·.fp), ⟨⟨nodeV (h + 1) ⟨ob2.length + 1, [k', k2].flatMap (·.l), 2, (ob2.length + 1) :: ob2.length :: [k', k2].flatMap (·.fp)⟩, setS htl3 _, ?_⟩, ?_⟩, ?_, ?_⟩⟩
   ·rw [← hle]
    refine .node (h + 1) ⟨ob2.length + 1, [k', k2].flatMap (·.l), 2, (ob2.length + 1) :: ob2.length :: [k', k2].flatMap (·.fp)⟩ ?_ (by simp) (fun _ => by simp) (by simp)
    exact mkInner (ks := [k', k2]) (off := 0) (c := 2) ⟨-1, hT1.get f4 (show ¬ ob2.length + 1 = t by omega), Fr.fresh _ _ _⟩ (hT1.arr hA (show ¬ ob2.length = t by omega)) (by omega) hnd2 (fun y hy => ⟨((hNk y hy).1.same hS3 (fun _ _ h => h)).same hT1 (fun i hi => (havoid y hy i hi).1), (hNk y hy).2⟩)
   ·intro hm
    rcases List.mem_cons.1 hm with h | hm
    ·omega
    ·rcases List.mem_cons.1 hm with h | hm
     ·omega
     ·obtain ⟨y, hy, hi⟩ := List.mem_flatMap.1 hm
      exact (havoid y hy t hi).1 rfl
   ·intro j hj
    rcases List.mem_cons.1 hj with rfl | hj
    ·exact .inr (by omega)
    ·rcases List.mem_cons.1 hj with rfl | hj
     ·exact .inr (by omega)
     ·rw [hfe] at hj
      rcases hsub j hj with h | h
      ·exact .inl h
      ·exact .inr (by omega)
   ·exact hS2'.trans ((hS3.mono (fun _ h => h.elim)).trans (hT1.mono fun j (hj : j = t) => by simp [hj]))
theorem take_i [Fr] {ob : List AObj} {t : Nat} {l : List Xt} {fp : List Nat} {f : Int} (hT : TreeAt ob t l fp) (hs : SortX l) (hne : l ≠ []) :
  ICall Tryz.prog 95 [.ref t 0, .int .i64 f] ob fun _ ob' => TreeR ob t fp (keepX f l) ob' := by
 obtain ⟨v, hv, hTop⟩ := hT.ex
 have hno := hT.no
 have htl := (List.getElem?_eq_some_iff.1 hv).1
 cases hTop with
 | nil => exact absurd rfl hne
 | node h k hN h1 h2 h8 =>
  refine icall_dr Tryz.func95 E95.h ?_
  simp only [U95, hv, ldB1, seval, bA]
  refine callM (remove_i h hN h1 h2 h8 hs) ?_
  rintro r ob1 ⟨k', hN', hp', hl', hs1, hs2, hsub, hS⟩
  have l1 := hS.1
  have hv1 := hS.get hv hno
  have hv' : nodeV h k = nodeV h k' := by simp only [nodeV, hp']
  rw [hv'] at hv1
  have htl1 : t < ob1.length := by omega
  have hS' : Same ob ob1 (· ∈ t :: k.fp) := hS.mono fun j hj => by simp [hj]
  have hsub' : Sub ob k.fp k'.fp := hsub
  have hno' : t ∉ k'.fp := fun hm => by
   rcases hsub t hm with h | h
   ·exact hno h
   ·omega
  cases h with
  | zero =>
   obtain ⟨q, off, c, hL⟩ := id hN'
   obtain ⟨a, hb, whb⟩ := hL.bx
   have hsz := hL.sz
   rw [nodeV_0] at hv1
   by_cases h0 : k'.s = 0
   ·have d0 : ((k'.s : Int) == 0) = true := by simp [h0]
    have hz := hN'.none h0
    simp only [U95, hv1, hb, ldB1, d0, seval, bA]
    refine ⟨_, rfl, ⟨[], ⟨⟨.nili, setS htl1 _, ?_⟩, by simp⟩, fun j hj => by simp at hj, hS'.trans (Same.set (by simp))⟩⟩
    rw [← hl', hz]; exact .nil
   ·have d0 : ((k'.s : Int) == 0) = false := by simp [h0]
    simp only [U95, hv1, hb, ldB1, d0, seval, bA]
    refine ⟨_, rfl, ⟨k'.fp, ⟨⟨nodeV 0 k', hv1, ?_⟩, hno'⟩, hsub', hS'⟩⟩
    rw [← hl']; exact .node 0 k' hN' (by omega) (fun h => absurd rfl h) (by omega)
  | succ h =>
   obtain ⟨q, off, c, ks, hI, hk⟩ := id hN'
   obtain ⟨a, hb, whb⟩ := hI.bx
   have hsz := hI.sz
   rw [nodeV_s] at hv1
   have h3 := h2 (by omega)
   by_cases h0 : k'.s = 1
   ·have d0 : ((k'.s : Int) == 1) = true := by simp [h0]
    match ks, hI, hk, hsz with
    | [], hI, hk, hsz => simp at hsz; omega
    | [x], hI, hk, hsz =>
     have hld := ldK hI.ar (i := 0) (x := nodeV h x) rfl
     simp only [Nat.zero_mul, Nat.add_zero] at hld
     have dd : decide (0 < k'.s) = true := decide_eq_true (by omega)
     simp only [U95, hv1, hb, ldB1, d0, hld, dd, nodeV, seval, bA]
     have hx := hk x (by simp)
     have hxl : x.l = keepX f k.l := by have := hI.fl; rw [hl'] at this; simpa using this.symm
     have hxf : ∀ i ∈ x.fp, i ∈ k'.fp := fun i hi => by rw [hI.fp]; simp [hi]
     have hT1 : Same ob1 (ob1.set t (AObj.box [nodeV h x])) (· = t) := Same.set rfl
     refine ⟨_, rfl, ⟨x.fp, ⟨⟨nodeV h x, setS htl1 _, ?_⟩, fun hm => hno' (hxf t hm)⟩, fun j hj => hsub' j (hxf j hj), hS'.trans (hT1.mono fun j (hj : j = t) => by simp [hj])⟩⟩
     rw [← hxl]
     exact .node h x (hx.1.same hT1 fun i hi (e : i = t) => hno' (hxf t (e ▸ hi))) (by omega) (fun _ => by omega) hx.2.2
    | x :: y :: ks, hI, hk, hsz => simp at hsz; omega
   ·have d0 : ((k'.s : Int) == 1) = false := by simp; omega
    simp only [U95, hv1, hb, ldB1, d0, seval, bA]
    refine ⟨_, rfl, ⟨k'.fp, ⟨⟨nodeV (h + 1) k', hv1, ?_⟩, hno'⟩, hsub', hS'⟩⟩
    rw [← hl']; exact .node (h + 1) k' hN' (by omega) (fun _ => by omega) (by omega)
end Go.Proofs.YtdgpiobmncohjaaGreatDoor.Aw
