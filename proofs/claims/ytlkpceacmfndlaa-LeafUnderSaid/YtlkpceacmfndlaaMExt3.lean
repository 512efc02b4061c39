/-
  Cutting, laying over and clipping, by what the lists say. Plain Lean.
-/
import Derived.Test.YtlkpceacmfndlaaMExt2
namespace Go.Proofs.Ytlkpceacmfndlaa.Aw
open Go.RowKit

theorem chain_append {m : Int} : ∀ {a b : List Xt} {lo : Int}, Chain lo a → (∀ e ∈ a, endE e ≤ m) → lo ≤ m → Chain m b → Chain lo (a ++ b)
  | [], _, _, _, _, h, hb => hb.mono h
  | e :: a, b, lo, ⟨h1, h2, h3⟩, hm, hl, hb => ⟨h1, h2, chain_append h3 (fun x hx => hm x (List.mem_cons_of_mem _ hx)) (hm e (by simp)) hb⟩
theorem chain_one : ∀ {l : List Xt} {lo : Int}, Chain lo l → ∀ e ∈ l, OneP e
  | _ :: _, _, ⟨h1, _, h3⟩, e, he => (List.mem_cons.1 he).elim (fun h => h ▸ h1) (chain_one h3 e)
theorem parts_ends {l : List Xt} {lo f t : Int} (h : Chain lo l) : ∀ e ∈ partsS l f t, endE e ≤ t := by
  intro p hp
  obtain ⟨e, he, h2⟩ := List.mem_filterMap.1 hp
  exact (part_some (chain_one h e he) h2).2.2.2.2.1
theorem say_append : ∀ (a b : List Xt) (s : Int), say (a ++ b) s = if say a s = (0, 0) ∧ (∀ e ∈ a, covers e s = false) then say b s else say a s
  | [], b, s => by simp [say]
  | e :: a, b, s => by
    rw [List.cons_append, say, say, say_append a b s]
    by_cases h : covers e s = true
    · rw [if_pos h, if_pos h, if_neg]
      intro hh
      have := hh.2 e (by simp)
      rw [h] at this; cases this
    · rw [if_neg h, if_neg h]
      simp only [Bool.not_eq_true] at h
      simp [h]
theorem say_none : ∀ {l : List Xt} {s : Int}, (∀ e ∈ l, covers e s = false) → say l s = (0, 0)
  | [], _, _ => rfl
  | e :: l, s, h => by
    rw [say, h e (by simp)]
    simpa using say_none fun x hx => h x (List.mem_cons_of_mem _ hx)
theorem say_some : ∀ {l : List Xt} {lo s : Int}, Chain lo l → say l s = (0, 0) → ∀ e ∈ l, covers e s = false
  | e :: l, lo, s, ⟨h1, _, h3⟩, h, x, hx => by
    by_cases hc : covers e s = true
    · rw [say, if_pos hc] at h
      exact absurd h (tells_ne h1 s)
    · rw [say, if_neg hc] at h
      rcases List.mem_cons.1 hx with rfl | hx
      · simpa using hc
      · exact say_some h3 h x hx
theorem say_app {a b : List Xt} {lo : Int} (h : Chain lo a) (s : Int) : say (a ++ b) s = if say a s = (0, 0) then say b s else say a s := by
  rw [say_append]
  by_cases h0 : say a s = (0, 0)
  · rw [if_pos ⟨h0, say_some h h0⟩, if_pos h0]
  · rw [if_neg (fun hh => h0 hh.1), if_neg h0]
/-- All that a list says lies between 0 and the last sector. -/
theorem say_high : ∀ {l : List Xt} {lo s : Int}, Chain lo l → 16777216 ≤ s → say l s = (0, 0)
  | [], _, _, _, _ => rfl
  | e :: t, lo, s, ⟨h1, h2, h3⟩, hs => by
    rw [say_tail (by have := h1.2.2.2.1; omega)]
    exact say_high h3 hs

def cutS (l : List Xt) (f n : Int) : List Xt := tidyS (partsS l 0 f ++ partsS l (f + n) 16777216)
def overS (l : List Xt) (e : Xt) : List Xt := tidyS (partsS l 0 e.fr ++ ([e] ++ partsS l (endE e) 16777216))
def clipS (l : List Xt) (f n : Int) : List Xt := partsS l f (f + n)
def SpanP (f n : Int) : Prop := 0 ≤ f ∧ 0 ≤ n ∧ f ≤ 16777216 ∧ n ≤ 16777216 - f

theorem parts0 {l : List Xt} {f t : Int} (h : Chain 0 l) : Chain 0 (partsS l f t) := (parts_chain h).mono (by omega)
theorem cut_chain {l : List Xt} {f n : Int} (h : OkL l) (hs : SpanP f n) : Chain 0 (partsS l 0 f ++ partsS l (f + n) 16777216) :=
  chain_append (parts0 h.1) (parts_ends h.1) hs.1 ((parts_chain (f := f + n) h.1).mono (by have := hs.2.1; omega))
theorem cut_ok {l : List Xt} {f n : Int} (h : OkL l) (hs : SpanP f n) : OkL (cutS l f n) := ⟨(tidy_ok (cut_chain h hs)).1, (tidy_ok (cut_chain h hs)).2.1⟩
theorem cut_say {l : List Xt} {f n : Int} (h : OkL l) (hs : SpanP f n) (s : Int) : say (cutS l f n) s = if f ≤ s ∧ s < f + n then (0, 0) else say l s := by
  rw [cutS, (tidy_ok (cut_chain h hs)).2.2, say_app (parts0 h.1), parts_say s h.1, parts_say s h.1]
  obtain ⟨a, b, c, d⟩ := hs
  by_cases h1 : 0 ≤ s ∧ s < f
  · rw [if_pos h1, if_neg (show ¬ (f + n ≤ s ∧ s < 16777216) by omega), if_neg (show ¬ (f ≤ s ∧ s < f + n) by omega)]
    split
    · rename_i hh; rw [hh]
    · rfl
  · rw [if_neg h1, if_pos rfl]
    by_cases h2 : f + n ≤ s ∧ s < 16777216
    · rw [if_pos h2, if_neg (by omega)]
    · rw [if_neg h2]
      by_cases h3 : f ≤ s ∧ s < f + n
      · rw [if_pos h3]
      · rw [if_neg h3]
        by_cases h4 : s < 0
        · rw [say_low h.1 h4]
        · rw [say_high h.1 (by omega)]
theorem over_chain {l : List Xt} {e : Xt} (h : OkL l) (he : OneP e) : Chain 0 (partsS l 0 e.fr ++ ([e] ++ partsS l (endE e) 16777216)) :=
  chain_append (parts0 h.1) (parts_ends h.1) he.1 ⟨he, Int.le_refl _, (parts_chain (f := endE e) h.1).mono (by omega)⟩
theorem over_ok {l : List Xt} {e : Xt} (h : OkL l) (he : OneP e) : OkL (overS l e) := ⟨(tidy_ok (over_chain h he)).1, (tidy_ok (over_chain h he)).2.1⟩
theorem over_say {l : List Xt} {e : Xt} (h : OkL l) (he : OneP e) (s : Int) : say (overS l e) s = if e.fr ≤ s ∧ s < e.fr + e.n then tells e s else say l s := by
  rw [overS, (tidy_ok (over_chain h he)).2.2, say_app (parts0 h.1), parts_say s h.1]
  have h0 := he
  obtain ⟨a, b, c, d, _⟩ := he
  by_cases h1 : 0 ≤ s ∧ s < e.fr
  · rw [if_pos h1, if_neg (by omega : ¬ (e.fr ≤ s ∧ s < e.fr + e.n))]
    split
    · rename_i hh
      rw [hh, List.singleton_append, say_tail (by omega), parts_say s h.1, if_neg (by simp only [endE]; omega)]
    · rfl
  · rw [if_neg h1, if_pos rfl, List.singleton_append]
    by_cases h2 : e.fr ≤ s ∧ s < e.fr + e.n
    · rw [if_pos h2, say_head h2.1 h2.2]
    · rw [if_neg h2, say_tail h2, parts_say s h.1]
      have ee : endE e = e.fr + e.n := rfl
      by_cases h3 : endE e ≤ s ∧ s < 16777216
      · rw [if_pos h3]
      · rw [if_neg h3]
        by_cases h4 : s < 0
        · rw [say_low h.1 h4]
        · rw [say_high h.1 (by omega)]
theorem clip_ok {l : List Xt} {f n : Int} (h : OkL l) : OkL (clipS l f n) := ⟨parts0 h.1, parts_tight h.1 h.2⟩
theorem clip_say {l : List Xt} {f n : Int} (h : OkL l) (s : Int) : say (clipS l f n) s = if f ≤ s ∧ s < f + n then say l s else (0, 0) := parts_say s h.1
/-- Two lists that may be and say the same are the same. -/
theorem ok_same {l m : List Xt} (h : OkL l) (g : OkL m) (hs : ∀ s, say l s = say m s) : l = m := same_list h.1 h.2 g.1 g.2 hs
end Go.Proofs.Ytlkpceacmfndlaa.Aw
