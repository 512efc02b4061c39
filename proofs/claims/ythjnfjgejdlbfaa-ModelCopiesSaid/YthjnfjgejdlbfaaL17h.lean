/-
  What ModelCopies is handed.
-/
import Derived.Test.YthjnfjgejdlbfaaL17d
import Derived.Test.YthjnfjgejdlbfaaAwFit
set_option linter.unusedSimpArgs false
set_option linter.unusedVariables false
namespace Go.Proofs.Ythjnfjgejdlbfaa.Aw
open Go.RowKit

theorem fit_rq {cs : List PV} (h : (Sh.st [.int .i64, .int .i64, .int .i64, .int .i64, .str]).fit cs) : ∃ q : Rq, cs = rowQ q := by
  obtain ⟨_, _, h3, ⟨a, rfl, _⟩, _, _, rfl, ⟨b, rfl, _⟩, _, _, rfl, ⟨c, rfl, _⟩, _, _, rfl, ⟨d, rfl, _⟩, _, _, rfl, ⟨s, rfl, hl⟩, rfl⟩ := h
  exact ⟨⟨a, b, c, d, s⟩, h3⟩
theorem rows_rq : ∀ (rows : List (List PV)), (∀ r ∈ rows, (Sh.st [.int .i64, .int .i64, .int .i64, .int .i64, .str]).fit r) → ∃ l : List Rq, rows = l.map rowQ
  | [], _ => ⟨[], rfl⟩
  | r :: rows, h => by
    obtain ⟨l, h1⟩ := rows_rq rows fun x hx => h x (List.mem_cons_of_mem _ hx)
    obtain ⟨q, h3⟩ := fit_rq (h r (by simp))
    exact ⟨q :: l, by rw [h1, h3]; rfl⟩
theorem copies_fit (ps : List PV) (h : fitVs [.int .i64, .sl (.st [.int .i64, .int .i64, .int .i64, .int .i64, .str]), .sl (.st [.int .i64, .int .i64, .int .i64, .int .i64, .str])] ps) : PCall Try.prog 8 ps (.bool true) := by
  obtain ⟨_, _, rfl, ⟨a, ha, _⟩, _, _, rfl, ⟨rows, hr, hl, hf⟩, _, _, rfl, ⟨rows2, hr2, hl2, hf2⟩, rfl⟩ := h
  cases ha; cases hr; cases hr2
  obtain ⟨l, rfl⟩ := rows_rq rows hf
  obtain ⟨l2, rfl⟩ := rows_rq rows2 hf2
  exact copies_law a l l2
end Go.Proofs.Ythjnfjgejdlbfaa.Aw
