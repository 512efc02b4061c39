/-
  Lists of extents, and what they say of a sector. Plain Lean.
-/
import Derived.Test.YtlkpceacmfndlaaAwBun
namespace Go.Proofs.Ytlkpceacmfndlaa.Aw
open Go.RowKit

structure Xt where
  fr : Int
  n : Int
  kd : Int
  at_ : Int
deriving DecidableEq

def rowE (e : Xt) : List PV := [.int .i64 e.fr, .int .i64 e.n, .int .i64 e.kd, .int .i64 e.at_]
theorem rowE_len (e : Xt) : (rowE e).length = 4 := rfl

def spanS (f n : Int) : Bool := decide (0 ≤ f ∧ 0 ≤ n ∧ f ≤ 16777216 ∧ n ≤ 16777216 - f)
/-- An extent that may be. -/
def OneP (e : Xt) : Prop := 0 ≤ e.fr ∧ 1 ≤ e.n ∧ e.fr ≤ 16777216 ∧ e.n ≤ 16777216 - e.fr ∧ ((e.kd = 1 ∧ e.at_ = 0) ∨ (e.kd = 2 ∧ 0 ≤ e.at_ ∧ e.at_ ≤ 2048 ∧ e.n ≤ 2048 - e.at_))
instance (e : Xt) : Decidable (OneP e) := by unfold OneP; infer_instance
def endE (e : Xt) : Int := e.fr + e.n
/-- Two that go together, both of which may be. -/
def TogP (a b : Xt) : Prop := b.fr = a.fr + a.n ∧ b.kd = a.kd ∧ b.at_ = if a.kd = 2 then a.at_ + a.n else 0
instance (a b : Xt) : Decidable (TogP a b) := by unfold TogP; infer_instance

/-- A chain from a place on: each may be, in order. -/
def Chain : Int → List Xt → Prop
  | _, [] => True
  | lo, e :: t => OneP e ∧ lo ≤ e.fr ∧ Chain (endE e) t
/-- No two side by side go together. -/
def Tight : List Xt → Prop
  | [] => True
  | [_] => True
  | a :: b :: t => ¬ TogP a b ∧ Tight (b :: t)
def OkL (l : List Xt) : Prop := Chain 0 l ∧ Tight l

def covers (e : Xt) (s : Int) : Bool := decide (e.fr ≤ s ∧ s < e.fr + e.n)
/-- What an extent says of a sector of its own. -/
def tells (e : Xt) (s : Int) : Int × Int := (e.kd, if e.kd = 2 then e.at_ + s - e.fr else 0)
/-- What a list says of a sector. -/
def say : List Xt → Int → Int × Int
  | [], _ => (0, 0)
  | e :: t, s => if covers e s = true then tells e s else say t s

theorem Chain.mono {lo lo' : Int} (h : lo' ≤ lo) : ∀ {l}, Chain lo l → Chain lo' l
  | [], _ => trivial
  | _ :: _, ⟨h1, h2, h3⟩ => ⟨h1, by omega, h3⟩
theorem Tight.tail {a : Xt} : ∀ {l}, Tight (a :: l) → Tight l
  | [], _ => trivial
  | _ :: _, h => h.2
theorem say_low : ∀ {l : List Xt} {lo s : Int}, Chain lo l → s < lo → say l s = (0, 0)
  | [], _, _, _, _ => rfl
  | e :: t, lo, s, ⟨h1, h2, h3⟩, hs => by
    have hc : covers e s = false := by simp only [covers, decide_eq_false_iff_not]; omega
    rw [say, hc, if_neg (by simp)]
    exact say_low h3 (by simp only [endE]; have := h1.2.1; omega)
theorem tells_ne {e : Xt} (h : OneP e) (s : Int) : tells e s ≠ (0, 0) := by
  intro h0
  simp only [tells, Prod.mk.injEq] at h0
  rcases h.2.2.2.2 with g | g <;> omega
theorem say_head {e : Xt} {t : List Xt} {s : Int} (h : e.fr ≤ s) (h2 : s < e.fr + e.n) : say (e :: t) s = tells e s := by
  rw [say, if_pos (by simp [covers, h, h2])]
theorem say_tail {e : Xt} {t : List Xt} {s : Int} (h : ¬ (e.fr ≤ s ∧ s < e.fr + e.n)) : say (e :: t) s = say t s := by
  rw [say, if_neg (by simp [covers]; omega)]
/-- The same head, from what is said. -/
theorem same_head {e f : Xt} {t u : List Xt} (he : OneP e) (hf : OneP f) (ht : Chain (endE e) t) (hu : Chain (endE f) u) (hte : Tight (e :: t)) (hs : ∀ s, say (e :: t) s = say (f :: u) s) (hfr : e.fr = f.fr) : ¬ e.n < f.n := by
  intro hn
  have h0 := hs e.fr
  rw [say_head (Int.le_refl _) (by have := he.2.1; omega), say_head (by omega) (by have := hf.2.1; omega)] at h0
  have h1 := hs (endE e)
  have e1 : (e.fr + e.n) = endE e := rfl
  rw [say_tail (by simp only [endE]; omega), say_head (e := f) (by simp only [endE]; have := he.2.1; omega) (by simp only [endE]; omega)] at h1
  simp only [tells, Prod.mk.injEq] at h0
  cases t with
  | nil => exact tells_ne hf _ h1.symm
  | cons g t =>
    obtain ⟨g1, g2, g3⟩ := ht
    by_cases hg : g.fr = endE e
    · rw [say_head (by omega) (by have := g1.2.1; omega)] at h1
      simp only [tells, Prod.mk.injEq, endE] at h1 hg
      refine hte.1 ⟨hg, by omega, ?_⟩
      obtain ⟨k1, k2⟩ := h1
      obtain ⟨k3, k4⟩ := h0
      rcases he.2.2.2.2 with q | q
      · have q1 : ¬ e.kd = 2 := by omega
        have q2 : ¬ g.kd = 2 := by omega
        rw [if_neg q1]
        rcases g1.2.2.2.2 with r | r
        · exact r.2
        · omega
      · have q1 : e.kd = 2 := q.1
        have q2 : g.kd = 2 := by omega
        have q3 : f.kd = 2 := by omega
        rw [if_pos q1]
        rw [if_pos q2, if_pos q3] at k2
        rw [if_pos q1, if_pos q3] at k4
        omega
    · rw [say_low (l := g :: t) (lo := g.fr) ⟨g1, Int.le_refl _, g3⟩ (by omega)] at h1
      exact tells_ne hf _ h1.symm
/-- A list that may be is what it says. -/
theorem same_list : ∀ {l m : List Xt} {lo lo' : Int}, Chain lo l → Tight l → Chain lo' m → Tight m → (∀ s, say l s = say m s) → l = m
  | [], [], _, _, _, _, _, _, _ => rfl
  | [], f :: u, _, _, _, _, ⟨h1, _, _⟩, _, hs => by
    have := hs f.fr
    rw [say_head (Int.le_refl _) (by have := h1.2.1; omega)] at this
    exact absurd this.symm (tells_ne h1 _)
  | e :: t, [], _, _, ⟨h1, _, _⟩, _, _, _, hs => by
    have := hs e.fr
    rw [say_head (Int.le_refl _) (by have := h1.2.1; omega)] at this
    exact absurd this (tells_ne h1 _)
  | e :: t, f :: u, lo, lo', ⟨he, _, ht⟩, hte, ⟨hf, _, hu⟩, htf, hs => by
    have hfr : e.fr = f.fr := by
      rcases Int.lt_trichotomy e.fr f.fr with h | h | h
      · have := hs e.fr
        rw [say_head (Int.le_refl _) (by have := he.2.1; omega), say_low (l := f :: u) (lo := f.fr) ⟨hf, Int.le_refl _, hu⟩ h] at this
        exact absurd this (tells_ne he _)
      · exact h
      · have := hs f.fr
        rw [say_head (e := f) (Int.le_refl _) (by have := hf.2.1; omega), say_low (l := e :: t) (lo := e.fr) ⟨he, Int.le_refl _, ht⟩ h] at this
        exact absurd this.symm (tells_ne hf _)
    have hn : e.n = f.n := by
      have a := same_head he hf ht hu hte hs hfr
      have b := same_head hf he hu ht htf (fun s => (hs s).symm) hfr.symm
      omega
    have hef : e = f := by
      have h0 := hs e.fr
      rw [say_head (Int.le_refl _) (by have := he.2.1; omega), say_head (by omega) (by have := hf.2.1; omega)] at h0
      simp only [tells, Prod.mk.injEq] at h0
      obtain ⟨k1, k2⟩ := h0
      have hat : e.at_ = f.at_ := by
        rcases he.2.2.2.2 with q | q <;> rcases hf.2.2.2.2 with r | r
        · omega
        · omega
        · omega
        · rw [if_pos q.1, if_pos r.1] at k2; omega
      cases e; cases f; simp_all
    subst hef
    have := same_list (lo := endE e) (lo' := endE e) ht hte.tail hu htf.tail fun s => by
      by_cases h : e.fr ≤ s ∧ s < e.fr + e.n
      · rw [say_low ht (by simp only [endE]; omega), say_low hu (by simp only [endE]; omega)]
      · have := hs s
        rwa [say_tail h, say_tail h] at this
    rw [this]
end Go.Proofs.Ytlkpceacmfndlaa.Aw
