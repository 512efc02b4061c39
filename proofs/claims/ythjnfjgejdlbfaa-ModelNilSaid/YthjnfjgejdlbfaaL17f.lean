/-
  What the laws of layer 17 are handed.
-/
import Derived.Test.YthjnfjgejdlbfaaL17b
import Derived.Test.YthjnfjgejdlbfaaAwFit
set_option linter.unusedSimpArgs false
set_option linter.unusedVariables false
namespace Go.Proofs.Ythjnfjgejdlbfaa.Aw
open Go.RowKit

theorem rows_u8 : ∀ (rows : List (List PV)), (∀ r ∈ rows, (Sh.int .u8).fit r) → ∃ l : List UInt8, rows = byteRows l
  | [], _ => ⟨[], rfl⟩
  | r :: rows, h => by
    obtain ⟨l, h1⟩ := rows_u8 rows fun x hx => h x (List.mem_cons_of_mem _ hx)
    obtain ⟨n, h3, h4⟩ := h r (by simp)
    have e0 : IntKind.u8.min = 0 := by decide
    have e1 : IntKind.u8.max = 255 := by decide
    simp only [Lit.wf, e0, e1, Bool.and_eq_true, decide_eq_true_eq] at h4
    refine ⟨UInt8.ofNat n.toNat :: l, ?_⟩
    rw [h1, h3]
    simp only [byteRows, List.map_cons]
    rw [UInt8.toNat_ofNat_of_lt' (by show n.toNat < 256; omega), Int.toNat_of_nonneg h4.1]
theorem fit_rq {cs : List PV} (h : (Sh.st [.int .i64, .int .i64, .int .i64, .int .i64, .str]).fit cs) : ∃ q : Rq, cs = rowQ q := by
  obtain ⟨_, _, h3, ⟨a, rfl, _⟩, _, _, rfl, ⟨b, rfl, _⟩, _, _, rfl, ⟨c, rfl, _⟩, _, _, rfl, ⟨d, rfl, _⟩, _, _, rfl, ⟨s, rfl, _⟩, rfl⟩ := h
  exact ⟨⟨a, b, c, d, s⟩, h3⟩
theorem nil_fit (ps : List PV) (h : fitVs [.st [.int .i64, .int .i64, .int .i64, .int .i64, .str], .int .i64] ps) : PCall Try.prog 9 ps (.bool true) := by
  obtain ⟨_, _, rfl, ⟨cs, rfl, hx⟩, _, _, rfl, ⟨b, hb, _⟩, rfl⟩ := h
  obtain ⟨q, rfl⟩ := fit_rq hx
  cases hb
  exact nil_law q b
theorem last_fit (ps : List PV) (h : fitVs [.int .i64, .sl (.int .u8)] ps) : PCall Try.prog 4 ps (.bool true) := by
  obtain ⟨_, _, rfl, ⟨a, ha, _⟩, _, _, rfl, ⟨rows, hr, hl, hf⟩, rfl⟩ := h
  cases ha; cases hr
  obtain ⟨l, rfl⟩ := rows_u8 rows hf
  exact last_law a l
end Go.Proofs.Ythjnfjgejdlbfaa.Aw
