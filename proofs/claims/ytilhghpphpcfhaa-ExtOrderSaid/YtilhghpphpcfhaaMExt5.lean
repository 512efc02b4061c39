/-
  What layer 7's statements say of lists that may be. Plain Lean.
-/
import Derived.Test.YtilhghpphpcfhaaMExt4
namespace Go.Proofs.Ytilhghpphpcfhaa.Aw
open Go.RowKit

theorem spanOne {e : Xt} (h : OneP e) : SpanP e.fr e.n := ⟨h.1, by have := h.2.1; omega, h.2.2.1, h.2.2.2.1⟩
/- once -/
theorem over_over {l : List Xt} {e : Xt} (h : OkL l) (he : OneP e) : overS (overS l e) e = overS l e :=
  ok_same (over_ok (over_ok h he) he) (over_ok h he) fun s => by
    rw [over_say (over_ok h he) he, over_say h he]; split <;> rfl
theorem cut_over {l : List Xt} {e : Xt} (h : OkL l) (he : OneP e) : cutS (overS l e) e.fr e.n = cutS l e.fr e.n :=
  ok_same (cut_ok (over_ok h he) (spanOne he)) (cut_ok h (spanOne he)) fun s => by
    rw [cut_say (over_ok h he) (spanOne he), cut_say h (spanOne he), over_say h he]
    split <;> rfl
theorem cut_cut {l : List Xt} {f n : Int} (h : OkL l) (hs : SpanP f n) : cutS (cutS l f n) f n = cutS l f n :=
  ok_same (cut_ok (cut_ok h hs) hs) (cut_ok h hs) fun s => by
    rw [cut_say (cut_ok h hs) hs, cut_say h hs]; split <;> rfl
theorem over_swap {l : List Xt} {a b : Xt} (h : OkL l) (ha : OneP a) (hb : OneP b) (hd : ¬ (a.fr - b.fr < b.n ∧ b.fr - a.fr < a.n)) : overS (overS l a) b = overS (overS l b) a :=
  ok_same (over_ok (over_ok h ha) hb) (over_ok (over_ok h hb) ha) fun s => by
    rw [over_say (over_ok h ha) hb, over_say (over_ok h hb) ha, over_say h ha, over_say h hb]
    by_cases h1 : b.fr ≤ s ∧ s < b.fr + b.n
    · rw [if_pos h1, if_neg (by omega), if_pos h1]
    · rw [if_neg h1]
      by_cases h2 : a.fr ≤ s ∧ s < a.fr + a.n
      · rw [if_pos h2, if_pos h2]
      · rw [if_neg h2, if_neg h2, if_neg h1]
/- order -/
theorem cut_swap {l : List Xt} {f n g m : Int} (h : OkL l) (hs : SpanP f n) (ht : SpanP g m) : cutS (cutS l f n) g m = cutS (cutS l g m) f n :=
  ok_same (cut_ok (cut_ok h hs) ht) (cut_ok (cut_ok h ht) hs) fun s => by
    rw [cut_say (cut_ok h hs) ht, cut_say (cut_ok h ht) hs, cut_say h hs, cut_say h ht]
    by_cases h1 : g ≤ s ∧ s < g + m
    · rw [if_pos h1]; split <;> first | rfl | rw [if_pos h1]
    · rw [if_neg h1]; split <;> first | rfl | rw [if_neg h1]
/- whole -/
theorem fold_over {c : List Xt} (hc : OkL c) : ∀ (m : List Xt) (lo : Int), Chain lo m → OkL (m.foldl overS c) ∧ ∀ s, say (m.foldl overS c) s = if say m s = (0, 0) then say c s else say m s := by
  intro m
  induction m generalizing c with
  | nil => intro lo _; exact ⟨hc, fun s => by simp [say]⟩
  | cons e t ih =>
    intro lo ⟨h1, h2, h3⟩
    obtain ⟨k1, k2⟩ := ih (over_ok hc h1) _ h3
    refine ⟨k1, fun s => ?_⟩
    rw [List.foldl_cons, k2 s, over_say hc h1]
    by_cases hs : e.fr ≤ s ∧ s < e.fr + e.n
    · rw [say_low h3 (by simp only [endE]; omega), if_pos rfl, if_pos hs, say_head hs.1 hs.2, if_neg (tells_ne h1 s)]
    · rw [if_neg hs, say_tail hs]
theorem whole {l : List Xt} {f n : Int} (h : OkL l) (hs : SpanP f n) : (clipS l f n).foldl overS (cutS l f n) = l := by
  obtain ⟨k1, k2⟩ := fold_over (cut_ok h hs) (clipS l f n) 0 (clip_ok h).1
  refine ok_same k1 h fun s => ?_
  rw [k2 s, clip_say h, cut_say h hs]
  by_cases hr : f ≤ s ∧ s < f + n
  · simp only [if_pos hr]
    split
    · rename_i h0; rw [h0]
    · rfl
  · simp only [if_neg hr, if_true]
/- counting -/
theorem countP_add {α : Type} (p q : α → Bool) : ∀ (l : List α), (∀ x ∈ l, ¬ (p x = true ∧ q x = true)) → l.countP (fun x => p x || q x) = l.countP p + l.countP q
  | [], _ => rfl
  | x :: l, h => by
    have ih := countP_add p q l fun y hy => h y (List.mem_cons_of_mem _ hy)
    have h0 := h x (by simp)
    rw [List.countP_cons, List.countP_cons, List.countP_cons, ih]
    cases hp : p x <;> cases hq : q x <;> simp_all <;> omega
theorem countP_iv' (a b : Nat) (hab : a ≤ b) : ∀ N, (List.range N).countP (fun s => decide (a ≤ s ∧ s < b)) = min N b - min N a
  | 0 => by simp
  | N + 1 => by
    rw [List.range_succ, List.countP_append, countP_iv' a b hab N]
    by_cases h : a ≤ N ∧ N < b
    · have : [N].countP (fun s => decide (a ≤ s ∧ s < b)) = 1 := by simp [List.countP_cons, h]
      rw [this]; omega
    · have : [N].countP (fun s => decide (a ≤ s ∧ s < b)) = 0 := by rw [List.countP_eq_zero]; intro x hx; simp only [List.mem_singleton] at hx; subst hx; simpa using h
      rw [this]; omega
theorem countP_iv (a b : Nat) (hab : a ≤ b) (N : Nat) (h : b ≤ N) : (List.range N).countP (fun s => decide (a ≤ s ∧ s < b)) = b - a := by
  rw [countP_iv' a b hab N]; omega
def some_ (l : List Xt) (s : Nat) : Bool := decide (say l (s : Int) ≠ (0, 0))
theorem cnt_say {N : Nat} (hN : 16777216 ≤ N) : ∀ {l : List Xt} {lo : Int}, Chain lo l → cntS l = (((List.range N).countP (some_ l) : Nat) : Int)
  | [], _, _ => by
    have : (List.range N).countP (some_ []) = 0 := by
      rw [List.countP_eq_zero]; intro x _; simp [some_, say]
    rw [this]; rfl
  | e :: t, lo, ⟨h1, h2, h3⟩ => by
    have ih := cnt_say hN h3
    have h1' := h1
    obtain ⟨a1, a2, a3, a4, _⟩ := h1'
    have hiv := countP_iv e.fr.toNat (e.fr + e.n).toNat (by omega) N (by omega)
    have hsum := countP_add (fun s => decide (e.fr.toNat ≤ s ∧ s < (e.fr + e.n).toNat)) (some_ t) (List.range N) (fun x _ hx => by
      simp only [decide_eq_true_eq, some_, ne_eq] at hx
      exact hx.2 (say_low h3 (by simp only [endE]; omega)))
    have hcong : (List.range N).countP (some_ (e :: t)) = (List.range N).countP (fun s => decide (e.fr.toNat ≤ s ∧ s < (e.fr + e.n).toNat) || some_ t s) := by
      apply List.countP_congr
      intro x _
      simp only [some_, Bool.or_eq_true, decide_eq_true_eq]
      by_cases hx : e.fr ≤ (x : Int) ∧ (x : Int) < e.fr + e.n
      · rw [say_head hx.1 hx.2]
        have := tells_ne h1 (x : Int)
        constructor
        · intro _; exact .inl (by omega)
        · intro _; exact this
      · rw [say_tail hx]
        constructor
        · intro h; exact .inr h
        · intro h
          rcases h with h | h
          · omega
          · exact h
    rw [cntS, ih, hcong, hsum, hiv]
    omega
/-- As many sectors, if the same ones are said. -/
theorem cnt_same {l m : List Xt} (h : OkL l) (g : OkL m) (hs : ∀ s, say l s = (0, 0) ↔ say m s = (0, 0)) : cntS l = cntS m := by
  obtain ⟨N, hN⟩ : ∃ N : Nat, 16777216 ≤ N := ⟨16777216, Nat.le_refl _⟩
  rw [cnt_say hN h.1, cnt_say hN g.1]
  congr 1
  apply List.countP_congr
  intro x _
  simp only [some_, decide_eq_true_eq, ne_eq, hs]
theorem run_says {l : List Xt} {lo s : Int} (h : Chain lo l) (hk : (say l s).1 = 2) : lo ≤ s ∧ s < 16777216 := by
  by_cases h1 : s < lo
  · rw [say_low h h1] at hk; exact absurd hk (by decide)
  · by_cases h2 : 16777216 ≤ s
    · rw [say_high h h2] at hk; exact absurd hk (by decide)
    · omega
theorem move_cnt {l : List Xt} {s p : Int} (h : OkL l) (hk : (say l s).1 = 2) (he : OneP ⟨s, 1, 2, p⟩) : cntS (overS l ⟨s, 1, 2, p⟩) = cntS l :=
  cnt_same (over_ok h he) h fun x => by
    rw [over_say h he]
    by_cases hx : s ≤ x ∧ x < s + 1
    · have : x = s := by omega
      subst this
      rw [if_pos hx]
      constructor
      · intro h0; exact absurd h0 (tells_ne he x)
      · intro h0; rw [h0] at hk; exact absurd hk (by decide)
    · rw [if_neg hx]
theorem cut_len (l : List Xt) (f n : Int) : (cutS l f n).length ≤ 2 * l.length := by
  have h1 := parts_len' l 0 f
  have h2 := parts_len' l (f + n) 16777216
  have := tidy_len (partsS l 0 f ++ partsS l (f + n) 16777216)
  rw [List.length_append] at this
  simp only [cutS]; omega
where parts_len' (l : List Xt) (f t : Int) : (partsS l f t).length ≤ l.length := List.length_filterMap_le _ _
theorem over_len (l : List Xt) (e : Xt) : (overS l e).length ≤ 2 * l.length + 1 := by
  have h1 : (partsS l 0 e.fr).length ≤ l.length := List.length_filterMap_le _ _
  have h2 : (partsS l (endE e) 16777216).length ≤ l.length := List.length_filterMap_le _ _
  have := tidy_len (partsS l 0 e.fr ++ ([e] ++ partsS l (endE e) 16777216))
  simp only [List.length_append, List.length_cons, List.length_nil] at this
  simp only [overS]; omega
theorem clip_len (l : List Xt) (f n : Int) : (clipS l f n).length ≤ l.length := List.length_filterMap_le _ _
end Go.Proofs.Ytilhghpphpcfhaa.Aw
