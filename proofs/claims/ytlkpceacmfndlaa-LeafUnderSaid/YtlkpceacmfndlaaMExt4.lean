/-
  Lists of extents, place by place; how long one is that may be; counting. Plain Lean.
-/
import Derived.Test.YtlkpceacmfndlaaMExt3
namespace Go.Proofs.Ytlkpceacmfndlaa.Aw
open Go.RowKit

/-- The second may stand behind the first. -/
def LinkP (a b : Xt) : Prop := endE a ≤ b.fr ∧ ¬ TogP a b
instance (a b : Xt) : Decidable (LinkP a b) := by unfold LinkP; infer_instance
def okF : Option Xt → List Xt → Bool
  | _, [] => true
  | none, e :: t => decide (OneP e) && okF (some e) t
  | some a, e :: t => decide (OneP e) && (decide (LinkP a e) && okF (some e) t)
def okB (l : List Xt) : Bool := okF none l
theorem okF_some : ∀ {l : List Xt} {a : Xt}, okF (some a) l = true ↔ (∀ i (h : i < l.length), OneP l[i]) ∧ (∀ h : 0 < l.length, LinkP a l[0]) ∧ ∀ i (h : i + 1 < l.length), LinkP l[i] l[i + 1]
  | [], a => by simp [okF]
  | e :: t, a => by
    simp only [okF, Bool.and_eq_true, decide_eq_true_eq, okF_some]
    constructor
    · rintro ⟨h1, h2, h3, h4, h5⟩
      refine ⟨fun i h => ?_, fun _ => h2, fun i h => ?_⟩
      · cases i with
        | zero => exact h1
        | succ i => exact h3 i (by simpa using h)
      · cases i with
        | zero => exact h4 (by simpa using h)
        | succ i => exact h5 i (by simpa using h)
    · rintro ⟨h1, h2, h3⟩
      exact ⟨h1 0 (by simp), h2 (by simp), fun i h => h1 (i + 1) (by simpa using h), fun h => h3 0 (by simpa using h), fun i h => h3 (i + 1) (by simpa using h)⟩
theorem okB_at {l : List Xt} : okB l = true ↔ (∀ i (h : i < l.length), OneP l[i]) ∧ ∀ i (h : i + 1 < l.length), LinkP l[i] l[i + 1] := by
  cases l with
  | nil => simp [okB, okF]
  | cons e t =>
    simp only [okB, okF, Bool.and_eq_true, decide_eq_true_eq, okF_some]
    constructor
    · rintro ⟨h1, h3, h4, h5⟩
      refine ⟨fun i h => ?_, fun i h => ?_⟩
      · cases i with
        | zero => exact h1
        | succ i => exact h3 i (by simpa using h)
      · cases i with
        | zero => exact h4 (by simpa using h)
        | succ i => exact h5 i (by simpa using h)
    · rintro ⟨h1, h3⟩
      exact ⟨h1 0 (by simp), fun i h => h1 (i + 1) (by simpa using h), fun h => h3 0 (by simpa using h), fun i h => h3 (i + 1) (by simpa using h)⟩
theorem okF_ok : ∀ {l : List Xt} {a : Xt}, okF (some a) l = true ↔ Chain (endE a) l ∧ Tight (a :: l)
  | [], a => by simp [okF, Chain, Tight]
  | e :: t, a => by
    simp only [okF, Bool.and_eq_true, decide_eq_true_eq, okF_ok, Chain, Tight]
    constructor
    · rintro ⟨h1, ⟨h2, h3⟩, h4, h5⟩; exact ⟨⟨h1, h2, h4⟩, h3, h5⟩
    · rintro ⟨⟨h1, h2, h4⟩, h3, h5⟩; exact ⟨h1, ⟨h2, h3⟩, h4, h5⟩
theorem okB_ok {l : List Xt} : okB l = true ↔ OkL l := by
  cases l with
  | nil => simp [okB, okF, OkL, Chain, Tight]
  | cons e t =>
    simp only [okB, okF, Bool.and_eq_true, decide_eq_true_eq, okF_ok, OkL, Chain]
    constructor
    · rintro ⟨h1, h4, h5⟩; exact ⟨⟨h1, h1.1, h4⟩, h5⟩
    · rintro ⟨⟨h1, _, h4⟩, h5⟩; exact ⟨h1, h4, h5⟩
theorem okB_one {l : List Xt} (h : okB l = true) : ∀ e ∈ l, OneP e := chain_one (okB_ok.1 h).1

/-- A list that may be is not longer than there are sectors. -/
theorem chain_len : ∀ {l : List Xt} {lo : Int}, Chain lo l → 0 ≤ lo → lo ≤ 16777216 → lo + l.length ≤ 16777216
  | [], lo, _, _, h => by simpa using h
  | e :: t, lo, ⟨h1, h2, h3⟩, h, _ => by
    have h4 : endE e ≤ 16777216 := by simp only [endE]; have := h1.2.2.2.1; omega
    have := chain_len h3 (by simp only [endE]; have := h1.1; have := h1.2.1; omega) h4
    have : e.fr < endE e := by simp only [endE]; have := h1.2.1; omega
    simp only [List.length_cons]; omega
theorem ok_len {l : List Xt} (h : OkL l) : l.length ≤ 16777216 := by
  have := chain_len h.1 (Int.le_refl _) (by decide); omega
theorem chain_len0 {l : List Xt} (h : Chain 0 l) : l.length ≤ 16777216 := by
  have := chain_len h (Int.le_refl _) (by decide); omega
theorem pushT_len (out : List Xt) (e : Xt) : (pushT out e).length ≤ out.length + 1 := by
  rcases snoc_cases out with rfl | ⟨r, k, rfl⟩
  · simp [pushT]
  · rw [pushT_snoc]; split <;> simp
theorem tidy_take (l : List Xt) (i : Nat) (h : i < l.length) : tidyS (l.take (i + 1)) = pushT (tidyS (l.take i)) l[i] := by
  rw [List.take_succ_eq_append_getElem h, tidyS, List.foldl_append]; rfl
theorem tidy_len (l : List Xt) : (tidyS l).length ≤ l.length := by
  have : ∀ (m out : List Xt), (m.foldl pushT out).length ≤ out.length + m.length := by
    intro m
    induction m with
    | nil => intro out; simp
    | cons e m ih => intro out; rw [List.foldl_cons]; have := ih (pushT out e); have := pushT_len out e; simp; omega
  simpa [tidyS] using this l []
theorem chain_take {i : Nat} : ∀ {l : List Xt} {lo : Int}, Chain lo l → Chain lo (l.take i) := by
  induction i with
  | zero => intros; exact trivial
  | succ i ih =>
    intro l lo h
    cases l with
    | nil => exact trivial
    | cons e t => exact ⟨h.1, h.2.1, ih h.2.2⟩

/- how many sectors -/
def cntS : List Xt → Int
  | [] => 0
  | e :: t => e.n + cntS t
theorem cnt_append (a b : List Xt) : cntS (a ++ b) = cntS a + cntS b := by
  induction a with
  | nil => simp [cntS]
  | cons e t ih => simp only [List.cons_append, cntS, ih]; omega
theorem cnt_take (l : List Xt) (i : Nat) (h : i < l.length) : cntS (l.take (i + 1)) = cntS (l.take i) + l[i].n := by
  rw [List.take_succ_eq_append_getElem h, cnt_append]; simp [cntS]
theorem cnt_bound : ∀ {l : List Xt} {lo : Int}, Chain lo l → 0 ≤ lo → lo ≤ 16777216 → 0 ≤ cntS l ∧ lo + cntS l ≤ 16777216
  | [], lo, _, _, h => by simp [cntS, h]
  | e :: t, lo, ⟨h1, h2, h3⟩, h, _ => by
    have h4 : endE e ≤ 16777216 := by simp only [endE]; have := h1.2.2.2.1; omega
    have := cnt_bound h3 (by simp only [endE]; have := h1.1; have := h1.2.1; omega) h4
    have := h1.2.1
    simp only [endE] at *
    simp only [cntS]; omega
/-- The pages of a list, one by one. -/
def pgE (e : Xt) : List Int := if e.kd = 2 then (List.range e.n.toNat).map fun k : Nat => e.at_ + (k : Int) else []
def pgS (l : List Xt) : List Int := l.flatMap pgE
theorem pg_len (l : List Xt) (h : ∀ e ∈ l, OneP e) : ((pgS l).length : Int) ≤ cntS l := by
  induction l with
  | nil => simp [pgS, cntS]
  | cons e t ih =>
    have := ih fun x hx => h x (List.mem_cons_of_mem _ hx)
    have h1 := (h e (by simp)).2.1
    simp only [pgS, List.flatMap_cons, List.length_append, cntS] at *
    have : ((pgE e).length : Int) ≤ e.n := by unfold pgE; split <;> simp <;> omega
    push_cast at *; omega
end Go.Proofs.Ytlkpceacmfndlaa.Aw
