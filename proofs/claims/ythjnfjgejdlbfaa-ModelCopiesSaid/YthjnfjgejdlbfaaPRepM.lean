/-
  strings.Repeat, by the shelf's contract.
-/
import Derived.Test.YthjnfjgejdlbfaaLayM
import Derived.Test.YthjnfjgejdlbfaaAwBun
set_option linter.unusedSimpArgs false
set_option linter.unusedVariables false
namespace Go.Proofs.Ythjnfjgejdlbfaa.Aw
open Go.RowKit

def repB (l : List UInt8) (c : Nat) : List UInt8 := Lib.repeatL l c
theorem repB_len (l : List UInt8) (c : Nat) : (repB l c).length = c * l.length := Lib.repeatL_length l c
theorem repB_one (b : UInt8) : ∀ c, repB [b] c = List.replicate c b
  | 0 => rfl
  | c + 1 => by
    have h := repB_one b c
    simp only [repB] at h ⊢
    simp only [Lib.repeatL, h, List.replicate_succ]; rfl
theorem repeat_spec (l : List UInt8) (c : Nat) (h : c * l.length ≤ 1000000) (hc : c ≤ 1000000) (hl : l.length ≤ 1000000) : PCall Try.prog 79 [.str l, .int .i64 (c : Int)] (.str (repB l c)) := by
  refine ⟨okFn_spec (by kernel_rfl), fun w F vs hF hv => ?_⟩
  obtain ⟨v1, vs', rfl, h1, h2⟩ := hv.cons_inv
  obtain ⟨v2, vs'', rfl, h3, h4⟩ := h2.cons_inv
  have := h4.nil_inv; subst this
  cases h1
  cases h3
  have hh := Any.strings_Repeat Try.repA Try.repX ⟨l.toArray⟩ c w (by omega) (by
    show l.toArray.size * c ≤ _
    rw [List.size_toArray, Nat.mul_comm]; omega)
  refine hh.mono ?_
  rintro e w' ⟨rfl, hB⟩
  refine ⟨_, F, rfl, hB, fun _ h => h, fun _ h => .inl h, fun b hb => Nat.lt_of_lt_of_le (hF b hb) hB.size, ?_⟩
  show R1 w' F (fun _ => none) (.str (repB l c)) _
  exact .str _
end Go.Proofs.Ythjnfjgejdlbfaa.Aw
