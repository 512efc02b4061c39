/-
  LeafUnder: under which kid a sector stands.
-/
import Derived.Test.YtlkpceacmfndlaaBack
import Derived.Test.YtlkpceacmfndlaaL09
set_option linter.unusedSimpArgs false
set_option linter.unusedVariables false
namespace Go.Proofs.Ytlkpceacmfndlaa.Aw
open Go.RowKit

def kv (k : Kd) : Int × Int := (k.ky, k.at_)
/-- The last of the first k that is not above. -/
def refU (l : List Kd) (sector : Int) : Nat → Int
  | 0 => 0
  | k + 1 => match l[k]? with
    | some x => if x.ky ≤ sector then (k : Int) else refU l sector k
    | none => refU l sector k
theorem refU_none (l : List Kd) (sector : Int) : ∀ k, (∀ j, j < k → ∀ x, l[j]? = some x → ¬ x.ky ≤ sector) → refU l sector k = 0
  | 0, _ => rfl
  | k + 1, h => by
    have ih := refU_none l sector k fun j hj => h j (by omega)
    rw [refU]
    split
    · rename_i x hx
      rw [if_neg (h k (by omega) x hx), ih]
    · exact ih
theorem refU_at (l : List Kd) (sector : Int) {i : Nat} {x : Kd} (hx : l[i]? = some x) (hle : x.ky ≤ sector) : ∀ k, i < k → (∀ j, i < j → j < k → ∀ y, l[j]? = some y → ¬ y.ky ≤ sector) → refU l sector k = (i : Int)
  | 0, h, _ => by omega
  | k + 1, h, hh => by
    rw [refU]
    by_cases e : i = k
    · subst e
      rw [hx]; simp only; rw [if_pos hle]
    · have ih := refU_at l sector hx hle k (by omega) fun j h1 h2 => hh j h1 (by omega)
      split
      · rename_i y hy
        rw [if_neg (hh k (by omega) (by omega) y hy), ih]
      · exact ih
theorem kidAt_map (l : List Kd) {j : Nat} {x : Kd} (h : l[j]? = some x) : kidAt (l.map kv) j = kv x := by simp [kidAt, h]
theorem under_ref {l : List Kd} {sector r : Int} (h : Under (l.map kv) sector r) : r = refU l sector l.length := by
  have hlm : (l.map kv).length = l.length := by simp
  have mem_up : ∀ k j, j < k → ((l.length : Int) - 1 - (j : Int), kidAt (l.map kv) (l.length - 1 - j)) ∈ uptoB (l.map kv) k := fun k j hj => by
    simp only [uptoB, List.mem_map, List.mem_range, hlm]; exact ⟨j, hj, rfl⟩
  rcases h with ⟨ha, rfl⟩ | ⟨k, hk, ini, last, e1, e2, e3, e4⟩
  · symm
    refine refU_none l sector _ fun j hj x hx => ?_
    have := ha _ (mem_up _ (l.length - 1 - j) (by omega))
    rw [show l.length - 1 - (l.length - 1 - j) = j by omega, kidAt_map l hx] at this
    exact this
  · rw [hlm] at hk
    obtain ⟨k', rfl⟩ : ∃ k', k = k' + 1 := by
      cases k with
      | zero => simp [uptoB] at e1
      | succ k' => exact ⟨k', rfl⟩
    rw [uptoB_succ] at e1
    obtain ⟨rfl, e5⟩ := List.append_inj' e1 rfl
    rw [hlm] at e5
    obtain rfl : ((l.length : Int) - 1 - (k' : Int), kidAt (l.map kv) (l.length - 1 - k')) = last := by simpa using e5
    have hlt : l.length - 1 - k' < l.length := by omega
    have hx : l[l.length - 1 - k']? = some l[l.length - 1 - k'] := List.getElem?_eq_getElem hlt
    rw [kidAt_map l hx] at e3
    rw [refU_at l sector hx e3 l.length hlt fun j h1 h2 y hy => ?_]
    · subst e4; simp only; omega
    · have := e2 _ (mem_up k' (l.length - 1 - j) (by omega))
      rw [show l.length - 1 - (l.length - 1 - j) = j by omega, kidAt_map l hy] at this
      exact this

theorem under_spec (l : List Kd) (sector : Int) (hl : l.length ≤ 1000000) : PCall Try.prog 22 [.slc (l.map rowK), .int .i64 sector] (.int .i64 (refU l sector l.length)) := by
  refine ⟨okFn_spec (by kernel_rfl), fun w F vs hF hv => ?_⟩
  obtain ⟨v1, vs', rfl, h1, h2⟩ := hv.cons_inv
  obtain ⟨v2, vs'', rfl, h3, h4⟩ := h2.cons_inv
  have := h4.nil_inv; subst this
  have := h3.int_inv; subst this
  have hK : ∃ a len cap, v1 = .slice a len cap ∧ Kids w.heap.size w v1 (l.map kv) := by
    cases l with
    | nil =>
      cases h1 with
      | slc0 a cap => exact ⟨a, 0, cap, rfl, .inl ⟨rfl, a, cap, rfl⟩⟩
      | slcN hne => exact absurd rfl hne
    | cons x0 rest =>
      have key : ∀ {j : Nat} {x : Kd}, (x0 :: rest)[j]? = some x → ∃ b off cap, v1 = .slice (some ⟨b, off, none⟩) ((x0 :: rest).map rowK).length cap ∧ b < w.heap.size ∧ w.cell? ⟨b, off + j * 2, none⟩ = some (.int .i64 x.ky) ∧ w.cell? ⟨b, off + j * 2 + 1, none⟩ = some (.int .i64 x.at_) := by
        intro j x hx
        have hrow : ((x0 :: rest).map rowK)[j]? = some (rowK x) := by rw [List.getElem?_map, hx]; rfl
        obtain ⟨b, off, cap, e, hp⟩ := h1.slc_row hrow
        refine ⟨b, off, cap, e, ?_⟩
        rw [rowK_len] at hp
        cases hp with
        | fptr hFb hc hl hh =>
          rename_i cv
          obtain ⟨⟨c, e2, fr, g1, g2⟩, g3⟩ := hc
          obtain ⟨u1, us, rfl, k1, k2⟩ := RL.cons_inv (⟨hl, hh⟩ : RL w F (fun _ => none) (rowK x) cv)
          obtain ⟨u2, us2, rfl, k3, k4⟩ := k2.cons_inv
          have := k1.int_inv; subst this
          have := k3.int_inv; subst this
          have q0 := g2 0 (by simp)
          have q1 := g2 1 (by simp)
          refine ⟨hF _ hFb, ?_, ?_⟩
          · simp only [World.cell?, g1]; simpa using q0
          · simp only [World.cell?, g1]; simpa using q1
      obtain ⟨b, off, cap, e, hb, _⟩ := key (j := 0) (x := x0) rfl
      refine ⟨_, _, _, e, .inr ⟨b, off, cap, by rw [e]; simp, hb, fun j hj => ?_⟩⟩
      have hj' : j < (x0 :: rest).length := by simpa using hj
      have hx := List.getElem?_eq_getElem hj'
      obtain ⟨b', off', cap', e', _, q1, q2⟩ := key hx
      rw [e] at e'
      cases e'
      rw [kidAt_map _ hx]
      exact ⟨q1, q2⟩
  obtain ⟨a, len, cap, rfl, hKids⟩ := hK
  have hh := under_in Fence.wide 5 trivial trivial trivial rfl (by omega) a len cap (l.map kv) (by simpa using hl) sector w hKids
  refine ((callsIn_wide (n := 5)).1 hh).mono ?_
  rintro e w' ⟨r, hU, rfl, hB⟩
  rw [under_ref hU]
  exact ⟨_, F, rfl, hB, fun _ h => h, fun _ h => .inl h, fun b hb => Nat.lt_of_lt_of_le (hF b hb) hB.size, R1.int _ _⟩
theorem runder_spec (l : List Kd) (sector : Int) (hl : l.length ≤ 1000000) : PCall Try.prog 23 [.slc (l.map rowK), .int .i64 sector] (.int .i64 (refU l sector l.length)) := by
  refine pcall_dr Try.func23 comp_ref09_Under ?_
  simp (config := {maxSteps := 4000000}) only [U_ref09_Under, reduceIte, reduceCtorEq, Nat.reduceEqDiff, Nat.reduceAdd, Int.reduceLT, Int.reduceLE, Int.reduceNeg, Int.reduceEq, Nat.reduceLT, Nat.reduceSub, Nat.reduceMul, Nat.reduceBEq, Nat.reduceLeDiff, Int.reduceBEq, Int.reduceBNe, Int.reduceToNat, ne_eq, implies_true, bA]
  refine loopF (fun i : Nat => ⟨ofL [(0, .slc (l.map rowK)), (1, .int .i64 sector), (5, .int .i64 (refU l sector i)), (6, .int .i64 (i : Int))], []⟩) (fun i => i ≤ l.length) (fun i => l.length - i) 0 ?_ (Nat.zero_le _) ?_
  · simp (config := {maxSteps := 4000000}) only [U_ref09_Under, reduceIte, reduceCtorEq, Nat.reduceEqDiff, Nat.reduceAdd, Int.reduceLT, Int.reduceLE, Int.reduceNeg, Int.reduceEq, Nat.reduceLT, Nat.reduceSub, Nat.reduceMul, Nat.reduceBEq, Nat.reduceLeDiff, Int.reduceBEq, Int.reduceBNe, Int.reduceToNat, ne_eq, implies_true, bA]
    all_goals rfl
  · intro i hi
    by_cases h : i < l.length
    · have d : decide ((i : Int) < (l.length : Int)) = true := by simpa using h
      have hx : l[i]? = some l[i] := List.getElem?_eq_getElem h
      have e1 : IntKind.i64.wrap ((i : Int) + 1) = ((i + 1 : Nat) : Int) := by rw [wrapI (by omega) (by omega)]; omega
      have isl := fun ob fb => islV_map (ob := ob) (fb := fb) (k := .i64) (g := rowK) h (rowK_len _)
      by_cases c : l[i].ky ≤ sector
      · have dc : decide (l[i].ky ≤ sector) = true := by simpa using c
        have hr : refU l sector (i + 1) = (i : Int) := by rw [refU, hx]; simp only; rw [if_pos c]
        simp (config := {maxSteps := 4000000}) only [U_ref09_Under, d, isl, rowK, dc, e1, reduceIte, reduceCtorEq, Nat.reduceEqDiff, Nat.reduceAdd, Int.reduceLT, Int.reduceLE, Int.reduceNeg, Int.reduceEq, Nat.reduceLT, Nat.reduceSub, Nat.reduceMul, Nat.reduceBEq, Nat.reduceLeDiff, Int.reduceBEq, Int.reduceBNe, Int.reduceToNat, ne_eq, implies_true, bA]
        exact ⟨i + 1, by rw [hr], h, by omega⟩
      · have dc : decide (l[i].ky ≤ sector) = false := by simpa using c
        have hr : refU l sector (i + 1) = refU l sector i := by rw [refU, hx]; simp only; rw [if_neg c]
        simp (config := {maxSteps := 4000000}) only [U_ref09_Under, d, isl, rowK, dc, e1, reduceIte, reduceCtorEq, Nat.reduceEqDiff, Nat.reduceAdd, Int.reduceLT, Int.reduceLE, Int.reduceNeg, Int.reduceEq, Nat.reduceLT, Nat.reduceSub, Nat.reduceMul, Nat.reduceBEq, Nat.reduceLeDiff, Int.reduceBEq, Int.reduceBNe, Int.reduceToNat, ne_eq, implies_true, bA]
        exact ⟨i + 1, by rw [hr], h, by omega⟩
    · obtain rfl : i = l.length := by omega
      have d : decide ((l.length : Int) < (l.length : Int)) = false := by simp
      simp (config := {maxSteps := 4000000}) only [U_ref09_Under, d, reduceIte, reduceCtorEq, Nat.reduceEqDiff, Nat.reduceAdd, Int.reduceLT, Int.reduceLE, Int.reduceNeg, Int.reduceEq, Nat.reduceLT, Nat.reduceSub, Nat.reduceMul, Nat.reduceBEq, Nat.reduceLeDiff, Int.reduceBEq, Int.reduceBNe, Int.reduceToNat, ne_eq, implies_true, bA]
theorem under_law (l : List Kd) (sector : Int) : PCall Try.prog 8 [.slc (l.map rowK), .int .i64 sector] (.bool true) := by
  refine pcall_dr Try.func8 comp_law09_LeafUnder ?_
  by_cases c : 300 < l.length
  · have d : decide (300 < (l.length : Int)) = true := by simp; omega
    simp (config := {maxSteps := 4000000}) only [U_law09_LeafUnder, d, reduceIte, reduceCtorEq, Nat.reduceEqDiff, Nat.reduceAdd, Int.reduceLT, Int.reduceLE, Int.reduceNeg, Int.reduceEq, Nat.reduceLT, Nat.reduceSub, Nat.reduceMul, Nat.reduceBEq, Nat.reduceLeDiff, Int.reduceBEq, Int.reduceBNe, Int.reduceToNat, ne_eq, implies_true, bA]
    refine callI awake09_spec ?_
    simp (config := {maxSteps := 4000000}) only [U_law09_LeafUnder, reduceIte, reduceCtorEq, Nat.reduceEqDiff, Nat.reduceAdd, Int.reduceLT, Int.reduceLE, Int.reduceNeg, Int.reduceEq, Nat.reduceLT, Nat.reduceSub, Nat.reduceMul, Nat.reduceBEq, Nat.reduceLeDiff, Int.reduceBEq, Int.reduceBNe, Int.reduceToNat, ne_eq, implies_true, bA]
  · have d : decide (300 < (l.length : Int)) = false := by simp; omega
    have eqI : ∀ a : Int, (a == a) = true := fun a => by simp
    simp (config := {maxSteps := 4000000}) only [U_law09_LeafUnder, d, reduceIte, reduceCtorEq, Nat.reduceEqDiff, Nat.reduceAdd, Int.reduceLT, Int.reduceLE, Int.reduceNeg, Int.reduceEq, Nat.reduceLT, Nat.reduceSub, Nat.reduceMul, Nat.reduceBEq, Nat.reduceLeDiff, Int.reduceBEq, Int.reduceBNe, Int.reduceToNat, ne_eq, implies_true, bA]
    refine callI awake09_spec ?_
    simp (config := {maxSteps := 4000000}) only [U_law09_LeafUnder, reduceIte, reduceCtorEq, Nat.reduceEqDiff, Nat.reduceAdd, Int.reduceLT, Int.reduceLE, Int.reduceNeg, Int.reduceEq, Nat.reduceLT, Nat.reduceSub, Nat.reduceMul, Nat.reduceBEq, Nat.reduceLeDiff, Int.reduceBEq, Int.reduceBNe, Int.reduceToNat, ne_eq, implies_true, bA]
    refine callI (under_spec l sector (by omega)) ?_
    simp (config := {maxSteps := 4000000}) only [U_law09_LeafUnder, reduceIte, reduceCtorEq, Nat.reduceEqDiff, Nat.reduceAdd, Int.reduceLT, Int.reduceLE, Int.reduceNeg, Int.reduceEq, Nat.reduceLT, Nat.reduceSub, Nat.reduceMul, Nat.reduceBEq, Nat.reduceLeDiff, Int.reduceBEq, Int.reduceBNe, Int.reduceToNat, ne_eq, implies_true, bA]
    refine callI (refsKid_spec l (by omega)) ?_
    simp (config := {maxSteps := 4000000}) only [U_law09_LeafUnder, reduceIte, reduceCtorEq, Nat.reduceEqDiff, Nat.reduceAdd, Int.reduceLT, Int.reduceLE, Int.reduceNeg, Int.reduceEq, Nat.reduceLT, Nat.reduceSub, Nat.reduceMul, Nat.reduceBEq, Nat.reduceLeDiff, Int.reduceBEq, Int.reduceBNe, Int.reduceToNat, ne_eq, implies_true, bA]
    refine callI (runder_spec l sector (by omega)) ?_
    simp (config := {maxSteps := 4000000}) only [U_law09_LeafUnder, eqI, reduceIte, reduceCtorEq, Nat.reduceEqDiff, Nat.reduceAdd, Int.reduceLT, Int.reduceLE, Int.reduceNeg, Int.reduceEq, Nat.reduceLT, Nat.reduceSub, Nat.reduceMul, Nat.reduceBEq, Nat.reduceLeDiff, Int.reduceBEq, Int.reduceBNe, Int.reduceToNat, ne_eq, implies_true, bA]
theorem under_fit (ps : List PV) (h : fitVs [.sl shK, .int .i64] ps) : PCall Try.prog 8 ps (.bool true) := by
  obtain ⟨_, _, rfl, ⟨rows, hr, hl, hf⟩, _, _, rfl, ⟨s, hs, _⟩, rfl⟩ := h
  cases hr; cases hs
  obtain ⟨l, rfl⟩ := rows_kid rows hf
  exact under_law l s
end Go.Proofs.Ytlkpceacmfndlaa.Aw
