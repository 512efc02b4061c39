/-
  What comes in, shape by shape.
-/
import Derived.Test.YtlkpceacmfndlaaAwOpen
import Derived.Test.YtlkpceacmfndlaaAwNum
namespace Go.Proofs.Ytlkpceacmfndlaa.Aw
open Go.RowKit

theorem bounds_i64 {n : Int} (wn : (Lit.int .i64 n).wf = true) : -9223372036854775808 ≤ n ∧ n ≤ 9223372036854775807 := by
  have e0 : IntKind.i64.min = -9223372036854775808 := by decide
  have e1 : IntKind.i64.max = 9223372036854775807 := by decide
  simpa only [Lit.wf, e0, e1, Bool.and_eq_true, decide_eq_true_eq] using wn
theorem u64_nat {n : Int} (wn : (Lit.int .u64 n).wf = true) : ∃ m : Nat, n = (m : Int) ∧ m < 18446744073709551616 := by
  have e0 : IntKind.u64.min = 0 := by decide
  have e1 : IntKind.u64.max = 18446744073709551615 := by decide
  simp only [Lit.wf, e0, e1, Bool.and_eq_true, decide_eq_true_eq] at wn
  exact ⟨n.toNat, by omega, by omega⟩
theorem rows_int {k : IntKind} : ∀ (rows : List (List PV)), (∀ r ∈ rows, (Sh.int k).fit r) → ∃ l : List Int, rows = rowsZ k l ∧ ∀ x ∈ l, (Lit.int k x).wf = true
  | [], _ => ⟨[], rfl, fun _ h => by cases h⟩
  | r :: rows, h => by
    obtain ⟨l, h1, h2⟩ := rows_int rows fun x hx => h x (List.mem_cons_of_mem _ hx)
    obtain ⟨n, h3, h4⟩ := h r (by simp)
    exact ⟨n :: l, by rw [h1, h3]; rfl, fun x hx => (List.mem_cons.1 hx).elim (fun e => e ▸ h4) (h2 x)⟩
theorem rows_u64 (rows : List (List PV)) (h : ∀ r ∈ rows, (Sh.int .u64).fit r) : ∃ l : List Nat, rows = rowsN .u64 l ∧ ∀ x ∈ l, x < 18446744073709551616 := by
  induction rows with
  | nil => exact ⟨[], rfl, fun _ h => by cases h⟩
  | cons r rows ih =>
    obtain ⟨l, h1, h2⟩ := ih fun x hx => h x (List.mem_cons_of_mem _ hx)
    obtain ⟨n, h3, h4⟩ := h r (by simp)
    obtain ⟨m, rfl, h5⟩ := u64_nat h4
    exact ⟨m :: l, by rw [h1, h3]; rfl, fun x hx => (List.mem_cons.1 hx).elim (fun e => e ▸ h5) (h2 x)⟩

end Go.Proofs.Ytlkpceacmfndlaa.Aw
