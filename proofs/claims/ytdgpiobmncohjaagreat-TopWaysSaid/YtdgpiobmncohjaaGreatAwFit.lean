/-
  What comes in, shape by shape.
-/
import Derived.Test.YtdgpiobmncohjaaGreatAwOpen
import Derived.Test.YtdgpiobmncohjaaGreatAwNum
namespace Go.Proofs.YtdgpiobmncohjaaGreat.Aw
open Go.RowKit

/- a nil slice is an empty one -/
mutual
def nz : PV → PV
  | .nils => .slc []
  | .agg cs => .agg (nzL cs)
  | .tup cs => .tup (nzL cs)
  | .bot => .bot
  | .int k n => .int k n
  | .bool b => .bool b
  | .str x => .str x
  | .slc r => .slc r
  | .osl a b c => .osl a b c
  | .ref a b => .ref a b
  | .lref a b c d => .lref a b c d
  | .bsl a b c => .bsl a b c
  | .fptr c => .fptr c
  | .nilp => .nilp
  | .fn f p q => .fn f p q
  | .nilf => .nilf
  | .ifc t p => .ifc t p
  | .nili => .nili
  | .mp o => .mp o
  | .nilm => .nilm
  | .own e r => .own e r
  | .asl a b c d => .asl a b c d
def nzL : List PV → List PV
  | [] => []
  | p :: r => nz p :: nzL r
end
theorem nzL_get : ∀ (cs : List PV) (i : Nat), (nzL cs)[i]? = (cs[i]?).map nz
  | [], i => by simp [nzL]
  | c :: cs, 0 => by simp [nzL]
  | c :: cs, i + 1 => by simpa [nzL] using nzL_get cs i
theorem nzL_len : ∀ (cs : List PV), (nzL cs).length = cs.length
  | [] => rfl
  | c :: cs => by simp [nzL, nzL_len cs]
theorem R1_nz {w : World} {F : Nat → Prop} {l : Locs} {p : PV} {v : Value} (h : R1 w F l p v) : R1 w F l (nz p) v := by
  induction h with
  | nils => exact .slc0 _ _
  | agg hl h ih =>
    refine .agg (by rw [nzL_len]; exact hl) fun i c x h1 h2 => ?_
    rw [nzL_get] at h1
    obtain ⟨c', h3, rfl⟩ := Option.map_eq_some_iff.1 h1
    exact ih i c' x h3 h2
  | tup hl h ih =>
    refine .tup (by rw [nzL_len]; exact hl) fun i c x h1 h2 => ?_
    rw [nzL_get] at h1
    obtain ⟨c', h3, rfl⟩ := Option.map_eq_some_iff.1 h1
    exact ih i c' x h3 h2
  | bot v => exact .bot v
  | int k n => exact .int k n
  | bool b => exact .bool b
  | str x => exact .str x
  | slc0 a c => exact .slc0 a c
  | slcN a b c d e f g => exact .slcN a b c d e f g
  | osl a b c d e => exact .osl a b c d e
  | ref a b => exact .ref a b
  | lref a b c d e => exact .lref a b c d e
  | bsl a b c => exact .bsl a b c
  | fptr a b c d => exact .fptr a b c d
  | nilp => exact .nilp
  | fn a b c d => exact .fn a b c d
  | nilf => exact .nilf
  | ifc h => exact .ifc h
  | nili => exact .nili
  | mp a b => exact .mp a b
  | nilm => exact .nilm
  | asl a b c d => exact .asl a b c d
theorem PCall.nzA {P : Program} {f : Nat} {args args' : List PV} {r : PV} (h : PCall P f args r) (e : nzL args' = args) : PCall P f args' r := by
  subst e
  refine ⟨h.1, fun w F vs hg hF hv => h.2 w F vs hg hF ⟨by rw [nzL_len]; exact hv.1, fun i c x h1 h2 => ?_⟩⟩
  rw [nzL_get] at h1
  obtain ⟨c', h3, rfl⟩ := Option.map_eq_some_iff.1 h1
  exact R1_nz (hv.2 i c' x h3 h2)

end Go.Proofs.YtdgpiobmncohjaaGreat.Aw
