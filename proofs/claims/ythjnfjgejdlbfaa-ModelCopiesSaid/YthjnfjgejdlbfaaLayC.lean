/-
  The shelf's contracts, laid at this translation: plain words (written by layplain.py out of the commands).
-/
import Derived.Shelf.SlMaps.Clone
import Derived.Test.YthjnfjgejdlbfaaProg
namespace Go.Proofs.Ythjnfjgejdlbfaa
open Go.RowKit Go.Shelf
def Try.cloneA_ren : Go.Shelf.Ren := ⟨fun | 5 => 42 | 7 => 65 | n => n, fun | 23 => 67 | 25 => 3 | 3 => 9 | 4 => 4 | 20 => 20 | n => n, fun | n => n⟩
theorem Try.cloneA : Go.Proofs.SlLaysW.n5 Try.prog Try.cloneA_ren := {
  mixed := by kernel_rfl
  f5 := ⟨Try.f42.name, by decide, Try.func42.trans (congrArg some (by kernel_rfl))⟩
  f7 := Try.func65.trans (congrArg some (by kernel_rfl))
  t4 := Try.underlying4
  a4 := Try.isAgg4
  z4 := Try.sizeOf4
  v4 := Try.zeroValue4
  t20 := Try.underlying20
  a20 := Try.isAgg20
  z20 := Try.sizeOf20
  v20 := Try.zeroValue20
  t23 := Try.underlying67
  a23 := Try.isAgg67
  z23 := Try.sizeOf67
  v23 := Try.zeroValue67 }
end Go.Proofs.Ythjnfjgejdlbfaa
