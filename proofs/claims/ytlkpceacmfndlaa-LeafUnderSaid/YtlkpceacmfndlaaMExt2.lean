/-
  Parts of lists of extents, and tidying them. Plain Lean.
-/
import Derived.Test.YtlkpceacmfndlaaMExt
namespace Go.Proofs.Ytlkpceacmfndlaa.Aw
open Go.RowKit

def partS (e : Xt) (f t : Int) : Option Xt :=
  if min (endE e) t ≤ max e.fr f then none else some ⟨max e.fr f, min (endE e) t - max e.fr f, e.kd, if e.kd = 2 then e.at_ + max e.fr f - e.fr else 0⟩
def partsS (l : List Xt) (f t : Int) : List Xt := l.filterMap fun e => partS e f t
theorem partsS_cons (e : Xt) (l f t) : partsS (e :: l) f t = match partS e f t with | none => partsS l f t | some p => p :: partsS l f t := by
  simp only [partsS, List.filterMap_cons]; cases partS e f t <;> rfl
theorem part_none {e : Xt} {f t : Int} (h : min (endE e) t ≤ max e.fr f) : partS e f t = none := by rw [partS, if_pos h]
/-- What a part is. -/
theorem part_some {e p : Xt} {f t : Int} (he : OneP e) (h : partS e f t = some p) : OneP p ∧ e.fr ≤ p.fr ∧ f ≤ p.fr ∧ endE p ≤ endE e ∧ endE p ≤ t ∧ p.kd = e.kd ∧ (p.fr = e.fr ∨ p.fr = f) ∧ (endE p = endE e ∨ endE p = t) ∧ (∀ s, tells p s = tells e s) ∧ p.at_ = (if e.kd = 2 then e.at_ + (p.fr - e.fr) else 0) := by
  rw [partS] at h
  split at h
  · cases h
  · rename_i hh
    simp only [Option.some.injEq] at h
    subst h
    simp only [endE] at hh ⊢
    have h1 := he
    obtain ⟨a1, a2, a3, a4, a5⟩ := he
    have m1 : max e.fr f = e.fr ∨ max e.fr f = f := by omega
    have m2 : min (e.fr + e.n) t = e.fr + e.n ∨ min (e.fr + e.n) t = t := by omega
    have m3 : e.fr ≤ max e.fr f := by omega
    have m4 : f ≤ max e.fr f := by omega
    have m5 : min (e.fr + e.n) t ≤ e.fr + e.n := by omega
    have m6 : min (e.fr + e.n) t ≤ t := by omega
    generalize max e.fr f = a at *
    generalize min (e.fr + e.n) t = b at *
    refine ⟨⟨by simp only []; omega, by simp only []; omega, by simp only []; omega, by simp only []; omega, ?_⟩, m3, m4, by omega, by omega, trivial, m1, by omega, fun s => ?_, ?_⟩
    · rcases a5 with q | q
      · exact .inl ⟨q.1, by simp only []; rw [if_neg (by omega)]⟩
      · refine .inr ⟨q.1, ?_⟩
        simp only [q.1, if_true]; omega
    · simp only [tells]
      by_cases hk : e.kd = 2
      · simp only [hk, if_true, Prod.mk.injEq, true_and]; omega
      · simp only [hk, if_false]
    · by_cases hk : e.kd = 2
      · simp only [hk, if_true]; omega
      · simp only [hk, if_false]
theorem parts_chain : ∀ {l : List Xt} {lo f t : Int}, Chain lo l → Chain (max lo f) (partsS l f t)
  | [], _, _, _, _ => trivial
  | e :: l, lo, f, t, ⟨h1, h2, h3⟩ => by
    rw [partsS_cons]
    have h4 := parts_chain (f := f) (t := t) h3
    have hen : e.fr < endE e := by simp only [endE]; have := h1.2.1; omega
    cases hp : partS e f t with
    | none => exact h4.mono (by omega)
    | some p =>
      obtain ⟨g1, g2, g3, g4, g5, _⟩ := part_some h1 hp
      refine ⟨g1, by omega, h4.mono ?_⟩
      have : p.fr < endE p := by simp only [endE]; have := g1.2.1; omega
      omega
/-- Beyond the range nothing is left. -/
theorem parts_end : ∀ {l : List Xt} {lo f t : Int}, Chain lo l → t ≤ lo → partsS l f t = []
  | [], _, _, _, _, _ => rfl
  | e :: l, lo, f, t, ⟨h1, h2, h3⟩, h => by
    rw [partsS_cons, part_none (by simp only [endE]; omega)]
    exact parts_end h3 (by simp only [endE]; have := h1.2.1; omega)
theorem parts_say : ∀ {l : List Xt} {lo f t : Int} (s : Int), Chain lo l → say (partsS l f t) s = if f ≤ s ∧ s < t then say l s else (0, 0)
  | [], _, _, _, _, _ => by simp [partsS, say]
  | e :: l, lo, f, t, s, ⟨h1, h2, h3⟩ => by
    rw [partsS_cons]
    have ih := parts_say (f := f) (t := t) s h3
    have hn := h1.2.1
    cases hp : partS e f t with
    | none =>
      simp only []
      rw [ih]
      have hno : min (endE e) t ≤ max e.fr f := by
        rw [partS] at hp
        split at hp
        · assumption
        · cases hp
      simp only [endE] at hno
      by_cases hr : f ≤ s ∧ s < t
      · rw [if_pos hr, if_pos hr, say_tail (by omega)]
      · rw [if_neg hr, if_neg hr]
    | some p =>
      simp only []
      obtain ⟨g1, g2, g3, g4, g5, g6, g7, g8, g9, _⟩ := part_some h1 hp
      simp only [endE] at g4 g5 g8
      by_cases hc : p.fr ≤ s ∧ s < p.fr + p.n
      · rw [say_head hc.1 hc.2, g9, if_pos (by omega), say_head (by omega) (by omega)]
      · rw [say_tail hc, ih]
        by_cases hr : f ≤ s ∧ s < t
        · rw [if_pos hr, if_pos hr]
          by_cases he : e.fr ≤ s ∧ s < e.fr + e.n
          · omega
          · rw [say_tail he]
        · rw [if_neg hr, if_neg hr]
theorem parts_tight : ∀ {l : List Xt} {lo f t : Int}, Chain lo l → Tight l → Tight (partsS l f t)
  | [], _, _, _, _, _ => trivial
  | [e], _, f, t, _, _ => by
    rw [partsS_cons]
    cases partS e f t <;> exact trivial
  | e :: g :: l, lo, f, t, ⟨h1, h2, h3⟩, ht => by
    have ih := parts_tight (f := f) (t := t) h3 ht.2
    rw [partsS_cons]
    cases hp : partS e f t with
    | none => exact ih
    | some p =>
      simp only []
      obtain ⟨g1, g2, g3, g4, g5, g6, g7, g8, g9, g10⟩ := part_some h1 hp
      obtain ⟨k1, k2, k3⟩ := h3
      rw [partsS_cons] at ih ⊢
      cases hq : partS g f t with
      | none =>
        have hno : min (endE g) t ≤ max g.fr f := by
          rw [partS] at hq
          split at hq
          · assumption
          · cases hq
        have hpn : p.fr < endE p := by simp only [endE]; have := g1.2.1; omega
        have hgn : g.fr < endE g := by simp only [endE]; have := k1.2.1; omega
        have hend : partsS l f t = [] := parts_end k3 (by omega)
        rw [hq] at ih
        simp only [] at ih ⊢
        rw [hend]; exact trivial
      | some q =>
        rw [hq] at ih
        simp only [] at ih ⊢
        obtain ⟨r1, r2, r3, r4, r5, r6, r7, r8, r9, r10⟩ := part_some k1 hq
        refine ⟨fun htog => ht.1 ?_, ih⟩
        obtain ⟨t1, t2, t3⟩ := htog
        have hqn : q.fr < endE q := by simp only [endE]; have := r1.2.1; omega
        have hpn : p.fr < endE p := by simp only [endE]; have := g1.2.1; omega
        simp only [endE] at *
        have hpe : p.fr + p.n = e.fr + e.n := by omega
        have hqe : q.fr = g.fr := by omega
        refine ⟨by omega, by omega, ?_⟩
        rw [g6] at t3
        by_cases hk : e.kd = 2
        · have hk2 : g.kd = 2 := by omega
          rw [if_pos hk] at t3 g10 ⊢
          rw [if_pos hk2] at r10
          omega
        · have hk2 : ¬ g.kd = 2 := by omega
          rw [if_neg hk]
          rcases k1.2.2.2.2 with z | z
          · exact z.2
          · omega
/- tidying -/
/-- One more behind: joined, or put there. -/
def pushT (out : List Xt) (e : Xt) : List Xt :=
  match out.getLast? with
  | some k => if TogP k e then out.dropLast ++ [{ k with n := k.n + e.n }] else out ++ [e]
  | none => out ++ [e]
def tidyS (l : List Xt) : List Xt := l.foldl pushT []
theorem pushT_nil {e} : pushT [] e = [e] := rfl
theorem pushT_snoc {r k e} : pushT (r ++ [k]) e = if TogP k e then r ++ [{ k with n := k.n + e.n }] else r ++ [k, e] := by
  simp [pushT]
theorem merge_one {k e : Xt} (hk : OneP k) (he : OneP e) (ht : TogP k e) : OneP { k with n := k.n + e.n } := by
  obtain ⟨a1, a2, a3, a4, a5⟩ := hk
  obtain ⟨b1, b2, b3, b4, b5⟩ := he
  obtain ⟨t1, t2, t3⟩ := ht
  refine ⟨a1, by simp only []; omega, a3, by simp only []; omega, ?_⟩
  rcases a5 with q | q
  · exact .inl q
  · have := q.1
    rw [if_pos this] at t3
    refine .inr ⟨q.1, q.2.1, q.2.2.1, ?_⟩
    simp only []
    rcases b5 with z | z <;> omega
theorem merge_chain {k e : Xt} {l : List Xt} (ht : TogP k e) : ∀ {r : List Xt} {lo : Int}, Chain lo (r ++ k :: e :: l) → Chain lo (r ++ { k with n := k.n + e.n } :: l)
  | [], lo, ⟨h1, h2, h3, h4, h5⟩ => ⟨merge_one h1 h3 ht, h2, by
      have : endE { k with n := k.n + e.n } = endE e := by simp only [endE, ht.1]; omega
      rw [this]; exact h5⟩
  | a :: r, lo, ⟨h1, h2, h3⟩ => ⟨h1, h2, merge_chain ht h3⟩
theorem merge_say {k e : Xt} {l : List Xt} (hk : OneP k) (he : OneP e) (ht : TogP k e) (s : Int) : ∀ (r : List Xt), say (r ++ { k with n := k.n + e.n } :: l) s = say (r ++ k :: e :: l) s
  | [] => by
    simp only [List.nil_append]
    obtain ⟨t1, t2, t3⟩ := ht
    have a2 := hk.2.1
    have b2 := he.2.1
    by_cases h1 : k.fr ≤ s ∧ s < k.fr + k.n
    · rw [say_head (e := { k with n := k.n + e.n }) h1.1 (by show s < k.fr + (k.n + e.n); omega), say_head h1.1 h1.2]; rfl
    · rw [say_tail h1]
      by_cases h2 : e.fr ≤ s ∧ s < e.fr + e.n
      · rw [say_head (e := { k with n := k.n + e.n }) (by show k.fr ≤ s; omega) (by show s < k.fr + (k.n + e.n); omega), say_head h2.1 h2.2]
        simp only [tells, t2]
        by_cases hq : k.kd = 2
        · rw [if_pos hq] at t3
          simp only [hq, if_true, Prod.mk.injEq, true_and]; omega
        · simp only [hq, if_false]
      · rw [say_tail h2, say_tail (e := { k with n := k.n + e.n }) (by show ¬ (k.fr ≤ s ∧ s < k.fr + (k.n + e.n)); omega)]
  | a :: r => by
    rw [List.cons_append, List.cons_append, say, say, merge_say hk he ht s r]
theorem tight_swap {k k' : Xt} (h1 : k'.fr = k.fr) (h2 : k'.kd = k.kd) (h3 : k'.at_ = k.at_) : ∀ {r : List Xt}, Tight (r ++ [k]) → Tight (r ++ [k'])
  | [], _ => trivial
  | [a], h => ⟨fun ht => h.1 ⟨by rw [← h1]; exact ht.1, by rw [← h2]; exact ht.2.1, by rw [← h3]; exact ht.2.2⟩, trivial⟩
  | a :: b :: r, h => ⟨h.1, tight_swap (r := b :: r) h1 h2 h3 h.2⟩
theorem tight_snoc {k e : Xt} (h : ¬ TogP k e) : ∀ {r : List Xt}, Tight (r ++ [k]) → Tight (r ++ [k, e])
  | [], _ => ⟨h, trivial⟩
  | [a], h1 => ⟨h1.1, h, trivial⟩
  | a :: b :: r, h1 => ⟨h1.1, tight_snoc (r := b :: r) h h1.2⟩
theorem chain_mem : ∀ {r l : List Xt} {lo : Int} {k : Xt}, Chain lo (r ++ k :: l) → OneP k
  | [], _, _, _, h => h.1
  | _ :: r, _, _, _, h => chain_mem (r := r) h.2.2
theorem snoc_cases (l : List Xt) : l = [] ∨ ∃ r k, l = r ++ [k] := by
  by_cases h : l = []
  · exact .inl h
  · exact .inr ⟨l.dropLast, l.getLast h, (List.dropLast_concat_getLast h).symm⟩
theorem fold_ok : ∀ (l out : List Xt) (lo : Int), Chain lo (out ++ l) → Tight out → Chain lo (l.foldl pushT out) ∧ Tight (l.foldl pushT out) ∧ ∀ s, say (l.foldl pushT out) s = say (out ++ l) s
  | [], out, lo, h, ht => by simpa using ⟨by simpa using h, ht⟩
  | e :: l, out, lo, h, ht => by
    rw [List.foldl_cons]
    rcases snoc_cases out with rfl | ⟨r, k, rfl⟩
    · rw [pushT_nil]
      exact fold_ok l [e] lo h trivial
    · rw [pushT_snoc]
      have h' : Chain lo (r ++ k :: e :: l) := by simpa using h
      by_cases hq : TogP k e
      · rw [if_pos hq]
        have hk := chain_mem h'
        have he : OneP e := chain_mem (r := r ++ [k]) (l := l) (lo := lo) h
        have := fold_ok l (r ++ [{ k with n := k.n + e.n }]) lo (by simpa using merge_chain hq h') (tight_swap (k := k) (k' := { k with n := k.n + e.n }) rfl rfl rfl ht)
        refine ⟨this.1, this.2.1, fun s => ?_⟩
        rw [this.2.2 s]
        have := merge_say (l := l) hk he hq s r
        simpa using this
      · rw [if_neg hq]
        have := fold_ok l (r ++ [k, e]) lo (by simpa using h') (tight_snoc hq ht)
        refine ⟨this.1, this.2.1, fun s => ?_⟩
        rw [this.2.2 s]; simp
theorem tidy_ok {l : List Xt} {lo : Int} (h : Chain lo l) : Chain lo (tidyS l) ∧ Tight (tidyS l) ∧ ∀ s, say (tidyS l) s = say l s := fold_ok l [] lo h trivial
end Go.Proofs.Ytlkpceacmfndlaa.Aw
