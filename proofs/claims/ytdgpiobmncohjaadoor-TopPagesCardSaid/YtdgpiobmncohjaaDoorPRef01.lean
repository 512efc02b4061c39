/-
  What the document's functions of layer 1 compute: the same.
-/
import Derived.Test.YtdgpiobmncohjaaDoorPFld2
set_option linter.unusedSimpArgs false
set_option linter.unusedVariables false
namespace Go.Proofs.YtdgpiobmncohjaaDoor.Aw
open Go.RowKit

theorem ofNat_mod (n : Nat) : UInt8.ofNat (n % 256) = UInt8.ofNat n := by
  apply UInt8.toNat_inj.1
  simp only [UInt8.toNat_ofNat']; omega
theorem div64 (n : Nat) (h : n < 18446744073709551616) : IntKind.u64.wrap ((n : Int).tdiv 256) = ((n / 256 : Nat) : Int) := by
  rw [show (256 : Int) = ((256 : Nat) : Int) from rfl, tdivN, w64 (by omega)]
theorem mod64 (n : Nat) : (n : Int).tmod 256 = ((n % 256 : Nat) : Int) := by
  rw [show (256 : Int) = ((256 : Nat) : Int) from rfl, tmodN]
theorem div_pow (n i : Nat) : n / 256 ^ i / 256 = n / 256 ^ (i + 1) := by rw [Nat.div_div_eq_div_mul, Nat.pow_succ]

end Go.Proofs.YtdgpiobmncohjaaDoor.Aw
