/-
  What the laws of layer 17 are handed.
-/
import Derived.Test.YthjnfjgejdlbfaaL17b
import Derived.Test.YthjnfjgejdlbfaaL17c
import Derived.Test.YthjnfjgejdlbfaaL17a
import Derived.Test.YthjnfjgejdlbfaaAwFit
set_option linter.unusedSimpArgs false
set_option linter.unusedVariables false
namespace Go.Proofs.Ythjnfjgejdlbfaa.Aw
open Go.RowKit

theorem rows_u8 : ∀ (rows : List (List PV)), (∀ r ∈ rows, (Sh.int .u8).fit r) → ∃ l : List UInt8, rows = byteRows l
  | [], _ => ⟨[], rfl⟩
  | r :: rows, h => by
    obtain ⟨l, h1⟩ := rows_u8 rows fun x hx => h x (List.mem_cons_of_mem _ hx)
    obtain ⟨n, h3, h4⟩ := h r (by simp)
    have e0 : IntKind.u8.min = 0 := by decide
    have e1 : IntKind.u8.max = 255 := by decide
    simp only [Lit.wf, e0, e1, Bool.and_eq_true, decide_eq_true_eq] at h4
    refine ⟨UInt8.ofNat n.toNat :: l, ?_⟩
    rw [h1, h3]
    simp only [byteRows, List.map_cons]
    rw [UInt8.toNat_ofNat_of_lt' (by show n.toNat < 256; omega), Int.toNat_of_nonneg h4.1]
theorem fit_rq {cs : List PV} (h : (Sh.st [.int .i64, .int .i64, .int .i64, .int .i64, .str]).fit cs) : ∃ q : Rq, cs = rowQ q ∧ q.d.length ≤ 9223372036854775807 := by
  obtain ⟨_, _, h3, ⟨a, rfl, _⟩, _, _, rfl, ⟨b, rfl, _⟩, _, _, rfl, ⟨c, rfl, _⟩, _, _, rfl, ⟨d, rfl, _⟩, _, _, rfl, ⟨s, rfl, hl⟩, rfl⟩ := h
  exact ⟨⟨a, b, c, d, s⟩, h3, by simpa [maxLen] using hl⟩
theorem nil_fit (ps : List PV) (h : fitVs [.st [.int .i64, .int .i64, .int .i64, .int .i64, .str], .int .i64] ps) : PCall Try.prog 9 ps (.bool true) := by
  obtain ⟨_, _, rfl, ⟨cs, rfl, hx⟩, _, _, rfl, ⟨b, hb, _⟩, rfl⟩ := h
  obtain ⟨q, rfl, _⟩ := fit_rq hx
  cases hb
  exact nil_law q b
theorem last_fit (ps : List PV) (h : fitVs [.int .i64, .sl (.int .u8)] ps) : PCall Try.prog 4 ps (.bool true) := by
  obtain ⟨_, _, rfl, ⟨a, ha, _⟩, _, _, rfl, ⟨rows, hr, hl, hf⟩, rfl⟩ := h
  cases ha; cases hr
  obtain ⟨l, rfl⟩ := rows_u8 rows hf
  exact last_law a l
theorem rows_rq : ∀ (rows : List (List PV)), (∀ r ∈ rows, (Sh.st [.int .i64, .int .i64, .int .i64, .int .i64, .str]).fit r) → ∃ l : List Rq, rows = l.map rowQ ∧ ∀ q ∈ l, q.d.length ≤ 9223372036854775807
  | [], _ => ⟨[], rfl, fun _ h => by cases h⟩
  | r :: rows, h => by
    obtain ⟨l, h1, h2⟩ := rows_rq rows fun x hx => h x (List.mem_cons_of_mem _ hx)
    obtain ⟨q, h3, h4⟩ := fit_rq (h r (by simp))
    exact ⟨q :: l, by rw [h1, h3]; rfl, fun x hx => (List.mem_cons.1 hx).elim (fun e => by rw [e]; exact h4) (h2 x)⟩
theorem counts_fit (ps : List PV) (h : fitVs [.sl (.st [.int .i64, .int .i64, .int .i64, .int .i64, .str])] ps) : PCall Try.prog 3 ps (.bool true) := by
  obtain ⟨_, _, rfl, ⟨rows, hr, hl, hf⟩, rfl⟩ := h
  cases hr
  obtain ⟨l, rfl, h2⟩ := rows_rq rows hf
  exact counts_law l h2
theorem twice_fit (ps : List PV) (h : fitVs [.int .i64, .sl (.st [.int .i64, .int .i64, .int .i64, .int .i64, .str]), .st [.int .i64, .int .i64, .int .i64, .int .i64, .str]] ps) : PCall Try.prog 7 ps (.bool true) := by
  obtain ⟨_, _, rfl, ⟨a, ha, _⟩, _, _, rfl, ⟨rows, hr, hl, hf⟩, _, _, rfl, ⟨cs, rfl, hx⟩, rfl⟩ := h
  cases ha; cases hr
  obtain ⟨l, rfl, h2⟩ := rows_rq rows hf
  obtain ⟨q, rfl, _⟩ := fit_rq hx
  exact twice_law a l q
theorem apart_fit (ps : List PV) (h : fitVs [.int .i64, .sl (.st [.int .i64, .int .i64, .int .i64, .int .i64, .str]), .st [.int .i64, .int .i64, .int .i64, .int .i64, .str]] ps) : PCall Try.prog 6 ps (.bool true) := by
  obtain ⟨_, _, rfl, ⟨a, ha, _⟩, _, _, rfl, ⟨rows, hr, hl, hf⟩, _, _, rfl, ⟨cs, rfl, hx⟩, rfl⟩ := h
  cases ha; cases hr
  obtain ⟨l, rfl, h2⟩ := rows_rq rows hf
  obtain ⟨q, rfl, _⟩ := fit_rq hx
  exact apart_law a l q
end Go.Proofs.Ythjnfjgejdlbfaa.Aw
