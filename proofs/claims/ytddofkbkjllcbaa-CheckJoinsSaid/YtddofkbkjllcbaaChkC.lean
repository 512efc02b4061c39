/-
  The functions of the seat, translated to abstract code. Written by a program (wip/Gen.lean).
-/
import Derived.Test.YtddofkbkjllcbaaAwSimp
import Derived.Test.YtddofkbkjllcbaaProg
namespace Go.Proofs.Ytddofkbkjllcbaa.Aw
open Go.RowKit
/- scoria/check.next -/
def ac20p0 : AC :=
  .reg [⟨(some 4), .mv (.k (.int .u32 0)), none, none, []⟩]
def ac20p1 : AC :=
  .reg [⟨(some 5), .mv (.t 0), none, none, []⟩,
    ⟨(some 6), .mv (.t 1), none, none, []⟩,
    ⟨(some 7), .conv .u32 (.t 6), none, none, []⟩,
    ⟨(some 8), .bin .shl (.t 7) (.k (.int .u64 24)), none, none, []⟩,
    ⟨(some 9), .bin .xor (.t 5) (.t 8), none, none, []⟩,
    ⟨(some 0), .mv (.t 9), none, none, []⟩]
def ac20p2 : AC :=
  .reg [⟨(some 10), .mv (.k (.int .i64 0)), none, none, []⟩]
def ac20p3 : AC :=
  .block 0 (.loop [0, 10] 0 (.seq (.reg [⟨(some 11), .bin .lss (.t 10) (.k (.int .i64 8)), none, none, []⟩])
      (.seq (.cond (.t 11) (.skip)
      (.exit 0))
      (.seq (.block 1 (.seq (.reg [⟨(some 12), .mv (.t 0), none, none, []⟩,
          ⟨(some 13), .bin .shr (.t 12) (.k (.int .u64 31)), none, none, []⟩,
          ⟨(some 14), .bin .eql (.t 13) (.k (.int .u32 1)), none, none, []⟩])
        (.cond (.t 14) (.reg [⟨(some 15), .mv (.t 0), none, none, []⟩,
            ⟨(some 16), .bin .shl (.t 15) (.k (.int .u64 1)), none, none, []⟩,
            ⟨(some 17), .bin .xor (.t 16) (.k (.int .u32 79764919)), none, none, []⟩,
            ⟨(some 0), .mv (.t 17), none, none, []⟩])
        (.reg [⟨(some 18), .mv (.t 0), none, none, []⟩,
            ⟨(some 19), .bin .shl (.t 18) (.k (.int .u64 1)), none, none, []⟩,
            ⟨(some 0), .mv (.t 19), none, none, []⟩]))))
      (.reg [⟨(some 20), .bin .add (.t 10) (.k (.int .i64 1)), none, none, []⟩,
        ⟨(some 10), .mv (.t 20), none, none, []⟩])))))
def ac20p4 : AC :=
  .reg [⟨(some 21), .mv (.t 0), none, none, []⟩,
    ⟨(some 4), .mv (.t 21), none, none, []⟩]
def ac20p5 : AC :=
  .ret
def ac20 : AC := (.seq ac20p0 (.seq ac20p1 (.seq (.seq ac20p2 ac20p3) (.seq ac20p4 ac20p5))))
theorem comp20 : compF Try.prog [] noDr [([0, 10], 0)] 2 Try.f20 = some (ac20, [.t 4]) := by kernel_rfl

/- scoria/check.More -/
def ac13p0 : AC :=
  .reg [⟨(some 4), .mv (.k (.int .u32 0)), none, none, []⟩]
def ac13p1 : AC :=
  .reg [⟨(some 7), .mv (.t 0), none, none, []⟩,
    ⟨(some 8), .un .xor (.t 7), none, none, []⟩,
    ⟨(some 5), .mv (.t 8), none, none, []⟩]
def ac13p2 : AC :=
  .reg [⟨(some 9), .mv (.t 1), none, none, []⟩,
    ⟨(some 10), .lens (.t 9), none, none, []⟩,
    ⟨(some 11), .mv (.k (.int .i64 0)), none, none, []⟩]
def ac13p3 : AC :=
  .block 0 (.loop [1, 5, 10, 11] 0 (.seq (.reg [⟨(some 12), .bin .lss (.t 11) (.t 10), none, none, []⟩])
      (.seq (.cond (.t 12) (.skip)
      (.exit 0))
      (.seq (.block 1 (.seq (.reg [⟨(some 13), .mv (.t 11), none, none, []⟩,
          ⟨(some 6), .mv (.t 13), none, none, []⟩])
        (.reg [⟨(some 14), .mv (.t 5), none, none, []⟩,
          ⟨(some 15), .mv (.t 1), none, none, []⟩,
          ⟨(some 16), .mv (.t 6), none, none, []⟩,
          ⟨(some 17), .idxs (.t 15) (.t 16), none, none, []⟩,
          ⟨(some 18), .call false 20 [(.t 14), (.t 17)], none, none, []⟩,
          ⟨(some 5), .mv (.t 18), none, none, []⟩])))
      (.reg [⟨(some 19), .bin .add (.t 11) (.k (.int .i64 1)), none, none, []⟩,
        ⟨(some 11), .mv (.t 19), none, none, []⟩])))))
def ac13p4 : AC :=
  .reg [⟨(some 20), .mv (.t 5), none, none, []⟩,
    ⟨(some 21), .un .xor (.t 20), none, none, []⟩,
    ⟨(some 4), .mv (.t 21), none, none, []⟩]
def ac13p5 : AC :=
  .ret
def ac13 : AC := (.seq ac13p0 (.seq ac13p1 (.seq (.seq ac13p2 ac13p3) (.seq ac13p4 ac13p5))))
theorem comp13 : compF Try.prog [] noDr [([1, 5, 10, 11], 0)] 2 Try.f13 = some (ac13, [.t 4]) := by kernel_rfl

/- scoria/check.Sum -/
def ac11p0 : AC :=
  .reg [⟨(some 2), .mv (.k (.int .u32 0)), none, none, []⟩]
def ac11p1 : AC :=
  .reg [⟨(some 3), .mv (.t 0), none, none, []⟩,
    ⟨(some 4), .call false 13 [(.k (.int .u32 0)), (.t 3)], none, none, []⟩,
    ⟨(some 2), .mv (.t 4), none, none, []⟩]
def ac11p2 : AC :=
  .ret
def ac11 : AC := (.seq ac11p0 (.seq ac11p1 ac11p2))
theorem comp11 : compF Try.prog [] noDr [] 1 Try.f11 = some (ac11, [.t 2]) := by kernel_rfl

/- scoria/check.Seal -/
def ac15p0 : AC :=
  .reg [⟨(some 2), .mv (.k (.str [])), none, none, []⟩]
def ac15p1 : AC :=
  .reg [⟨(some 4), .mv (.t 0), none, none, []⟩,
    ⟨(some 5), .call false 11 [(.t 4)], none, none, []⟩,
    ⟨(some 3), .mv (.t 5), none, none, []⟩]
def ac15p2 : AC :=
  .reg [⟨(some 6), .mv (.t 0), none, none, []⟩,
    ⟨(some 7), .mv (.t 3), none, none, []⟩,
    ⟨(some 8), .bin .shr (.t 7) (.k (.int .u64 24)), none, none, []⟩,
    ⟨(some 9), .conv .u8 (.t 8), none, none, []⟩,
    ⟨(some 10), .mv (.t 3), none, none, []⟩,
    ⟨(some 11), .bin .shr (.t 10) (.k (.int .u64 16)), none, none, []⟩,
    ⟨(some 12), .conv .u8 (.t 11), none, none, []⟩,
    ⟨(some 13), .mv (.t 3), none, none, []⟩,
    ⟨(some 14), .bin .shr (.t 13) (.k (.int .u64 8)), none, none, []⟩,
    ⟨(some 15), .conv .u8 (.t 14), none, none, []⟩,
    ⟨(some 16), .mv (.t 3), none, none, []⟩,
    ⟨(some 17), .conv .u8 (.t 16), none, none, []⟩,
    ⟨(some 18), .blds false [(.int .u8 0)] 4 [(0, (.t 9)), (1, (.t 12)), (2, (.t 15)), (3, (.t 17))], none, none, []⟩,
    ⟨(some 19), .b2s (.t 18), none, none, []⟩,
    ⟨(some 20), .bin .add (.t 6) (.t 19), none, none, []⟩,
    ⟨(some 2), .mv (.t 20), none, none, []⟩]
def ac15p3 : AC :=
  .ret
def ac15 : AC := (.seq ac15p0 (.seq ac15p1 (.seq ac15p2 ac15p3)))
theorem comp15 : compF Try.prog [] noDr [] 1 Try.f15 = some (ac15, [.t 2]) := by kernel_rfl

/- scoria/check.Open -/
def ac17p0 : AC :=
  .reg [⟨(some 2), .mv (.k (.str [])), none, none, []⟩,
    ⟨(some 3), .mv (.k (.int .i64 0)), none, none, []⟩]
def ac17p1 : AC :=
  .reg [⟨(some 5), .mv (.t 0), none, none, []⟩,
    ⟨(some 6), .lens (.t 5), none, none, []⟩,
    ⟨(some 7), .bin .sub (.t 6) (.k (.int .i64 4)), none, none, []⟩,
    ⟨(some 4), .mv (.t 7), none, none, []⟩]
def ac17p2 : AC :=
  .block 0 (.seq (.reg [⟨(some 9), .mv (.t 4), none, none, []⟩,
      ⟨(some 10), .bin .lss (.t 9) (.k (.int .i64 0)), none, none, []⟩,
      ⟨(some 8), .mv (.t 10), none, none, []⟩])
    (.cond (.t 8) (.seq (.reg [⟨(some 2), .mv (.k (.str [])), none, none, []⟩,
        ⟨(some 3), .mv (.k (.int .i64 5)), none, none, []⟩])
      (.ret))
    (.seq (.reg [⟨(some 12), .mv (.t 0), none, none, []⟩,
        ⟨(some 13), .mv (.t 4), none, none, []⟩,
        ⟨(some 14), .sstr (.t 12) none (some (.t 13)), none, none, []⟩,
        ⟨(some 15), .call false 15 [(.t 14)], none, none, []⟩,
        ⟨(some 16), .mv (.t 0), none, none, []⟩,
        ⟨(some 17), .bin .neq (.t 15) (.t 16), none, none, []⟩,
        ⟨(some 11), .mv (.t 17), none, none, []⟩])
      (.cond (.t 11) (.seq (.reg [⟨(some 2), .mv (.k (.str [])), none, none, []⟩,
          ⟨(some 3), .mv (.k (.int .i64 6)), none, none, []⟩])
        (.ret))
      (.skip)))))
def ac17p3 : AC :=
  .reg [⟨(some 18), .mv (.t 0), none, none, []⟩,
    ⟨(some 19), .mv (.t 4), none, none, []⟩,
    ⟨(some 20), .sstr (.t 18) none (some (.t 19)), none, none, []⟩,
    ⟨(some 2), .mv (.t 20), none, none, []⟩,
    ⟨(some 3), .mv (.k (.int .i64 0)), none, none, []⟩]
def ac17p4 : AC :=
  .ret
def ac17 : AC := (.seq ac17p0 (.seq ac17p1 (.seq ac17p2 (.seq ac17p3 ac17p4))))
theorem comp17 : compF Try.prog [] noDr [] 1 Try.f17 = some (ac17, [.t 2, .t 3]) := by kernel_rfl

/- scoria/scorialaw02.awake -/
def ac10p0 : AC :=
  .reg [⟨(some 0), .mv (.k (.bool false)), none, none, []⟩]
def ac10p1 : AC :=
  .reg [⟨(some 4), .call false 15 [(.k (.str [97]))], none, none, []⟩,
    ⟨(some 5), .call false 17 [(.t 4)], none, none, []⟩,
    ⟨(some 3), .mv (.t 5), none, none, []⟩,
    ⟨(some 6), .ext 0 (.t 3), none, none, []⟩,
    ⟨(some 7), .ext 1 (.t 3), none, none, []⟩,
    ⟨(some 1), .mv (.t 6), none, none, []⟩,
    ⟨(some 2), .mv (.t 7), none, none, []⟩]
def ac10p2 : AC :=
  .reg [⟨(some 8), .call false 11 [(.k (.str [49, 50, 51, 52, 53, 54, 55, 56, 57]))], none, none, []⟩,
    ⟨(some 9), .bin .eql (.t 8) (.k (.int .u32 4236843288)), none, none, []⟩,
    ⟨(some 10), .mv (.t 9), none, none, []⟩,
    ⟨(some 11), .call false 15 [(.k (.str []))], (some (10, true)), none, []⟩,
    ⟨(some 12), .bin .eql (.t 11) (.k (.str [0, 0, 0, 0])), (some (10, true)), none, []⟩,
    ⟨(some 13), .pick (.t 10) (.t 12) (.k (.bool false)), none, none, []⟩,
    ⟨(some 14), .mv (.t 13), none, none, []⟩,
    ⟨(some 15), .mv (.t 1), (some (14, true)), none, []⟩,
    ⟨(some 16), .bin .eql (.t 15) (.k (.str [97])), (some (14, true)), none, []⟩,
    ⟨(some 17), .pick (.t 14) (.t 16) (.k (.bool false)), none, none, []⟩,
    ⟨(some 18), .mv (.t 17), none, none, []⟩,
    ⟨(some 19), .mv (.t 2), (some (18, true)), none, []⟩,
    ⟨(some 20), .bin .eql (.t 19) (.k (.int .i64 0)), (some (18, true)), none, []⟩,
    ⟨(some 21), .pick (.t 18) (.t 20) (.k (.bool false)), none, none, []⟩,
    ⟨(some 0), .mv (.t 21), none, none, []⟩]
def ac10p3 : AC :=
  .ret
def ac10 : AC := (.seq ac10p0 (.seq ac10p1 (.seq ac10p2 ac10p3)))
theorem comp10 : compF Try.prog [] noDr [] 0 Try.f10 = some (ac10, [.t 0]) := by kernel_rfl

/- scoria/scoriaref02.divided -/
def ac19p0 : AC :=
  .reg [⟨(some 4), .mv (.k (.int .u32 0)), none, none, []⟩]
def ac19p1 : AC :=
  .reg [⟨(some 5), .mv (.k (.int .i64 0)), none, none, []⟩]
def ac19p2 : AC :=
  .block 0 (.loop [0, 1, 5] 0 (.seq (.seq (.reg [⟨(some 9), .mv (.t 5), none, none, []⟩,
        ⟨(some 10), .mv (.t 1), none, none, []⟩,
        ⟨(some 11), .lens (.t 10), none, none, []⟩,
        ⟨(some 12), .bin .lss (.t 9) (.t 11), none, none, []⟩])
      (.cond (.t 12) (.skip)
      (.exit 0)))
      (.seq (.block 1 (.seq (.reg [⟨(some 6), .mv (.k (.int .i64 7)), none, none, []⟩])
        (.block 2 (.loop [0, 1, 5, 6] 0 (.seq (.seq (.reg [⟨(some 15), .mv (.t 6), none, none, []⟩,
              ⟨(some 16), .bin .geq (.t 15) (.k (.int .i64 0)), none, none, []⟩])
            (.cond (.t 16) (.skip)
            (.exit 2)))
            (.seq (.block 3 (.seq (.reg [⟨(some 19), .mv (.t 1), none, none, []⟩,
                ⟨(some 20), .mv (.t 5), none, none, []⟩,
                ⟨(some 21), .idxs (.t 19) (.t 20), none, none, []⟩,
                ⟨(some 22), .mv (.t 6), none, none, []⟩,
                ⟨(some 23), .conv .u64 (.t 22), none, none, []⟩,
                ⟨(some 24), .bin .shr (.t 21) (.t 23), none, none, []⟩,
                ⟨(some 25), .conv .u32 (.t 24), none, none, []⟩,
                ⟨(some 26), .bin .and (.t 25) (.k (.int .u32 1)), none, none, []⟩,
                ⟨(some 7), .mv (.t 26), none, none, []⟩])
              (.seq (.reg [⟨(some 27), .mv (.t 0), none, none, []⟩,
                ⟨(some 28), .bin .shr (.t 27) (.k (.int .u64 31)), none, none, []⟩,
                ⟨(some 8), .mv (.t 28), none, none, []⟩])
              (.seq (.reg [⟨(some 29), .mv (.t 0), none, none, []⟩,
                ⟨(some 30), .bin .shl (.t 29) (.k (.int .u64 1)), none, none, []⟩,
                ⟨(some 0), .mv (.t 30), none, none, []⟩])
              (.seq (.reg [⟨(some 31), .mv (.t 8), none, none, []⟩,
                ⟨(some 32), .mv (.t 7), none, none, []⟩,
                ⟨(some 33), .bin .neq (.t 31) (.t 32), none, none, []⟩])
              (.cond (.t 33) (.reg [⟨(some 34), .mv (.t 0), none, none, []⟩,
                  ⟨(some 35), .bin .xor (.t 34) (.k (.int .u32 79764919)), none, none, []⟩,
                  ⟨(some 0), .mv (.t 35), none, none, []⟩])
              (.skip)))))))
            (.reg [⟨(some 17), .mv (.t 6), none, none, []⟩,
              ⟨(some 18), .bin .sub (.t 17) (.k (.int .i64 1)), none, none, []⟩,
              ⟨(some 6), .mv (.t 18), none, none, []⟩])))))))
      (.reg [⟨(some 13), .mv (.t 5), none, none, []⟩,
        ⟨(some 14), .bin .add (.t 13) (.k (.int .i64 1)), none, none, []⟩,
        ⟨(some 5), .mv (.t 14), none, none, []⟩]))))
def ac19p3 : AC :=
  .reg [⟨(some 36), .mv (.t 0), none, none, []⟩,
    ⟨(some 4), .mv (.t 36), none, none, []⟩]
def ac19p4 : AC :=
  .ret
def ac19 : AC := (.seq ac19p0 (.seq (.seq ac19p1 ac19p2) (.seq ac19p3 ac19p4)))
theorem comp19 : compF Try.prog [] noDr [([0, 1, 5], 0), ([0, 1, 5, 6], 0)] 2 Try.f19 = some (ac19, [.t 4]) := by kernel_rfl

/- scoria/scoriaref02.Sum -/
def ac12p0 : AC :=
  .reg [⟨(some 2), .mv (.k (.int .u32 0)), none, none, []⟩]
def ac12p1 : AC :=
  .reg [⟨(some 3), .mv (.t 0), none, none, []⟩,
    ⟨(some 4), .call false 19 [(.k (.int .u32 4294967295)), (.t 3)], none, none, []⟩,
    ⟨(some 5), .bin .xor (.t 4) (.k (.int .u32 4294967295)), none, none, []⟩,
    ⟨(some 2), .mv (.t 5), none, none, []⟩]
def ac12p2 : AC :=
  .ret
def ac12 : AC := (.seq ac12p0 (.seq ac12p1 ac12p2))
theorem comp12 : compF Try.prog [] noDr [] 1 Try.f12 = some (ac12, [.t 2]) := by kernel_rfl

/- scoria/scoriaref02.More -/
def ac14p0 : AC :=
  .reg [⟨(some 4), .mv (.k (.int .u32 0)), none, none, []⟩]
def ac14p1 : AC :=
  .reg [⟨(some 5), .mv (.t 0), none, none, []⟩,
    ⟨(some 6), .bin .xor (.t 5) (.k (.int .u32 4294967295)), none, none, []⟩,
    ⟨(some 7), .mv (.t 1), none, none, []⟩,
    ⟨(some 8), .call false 19 [(.t 6), (.t 7)], none, none, []⟩,
    ⟨(some 9), .bin .xor (.t 8) (.k (.int .u32 4294967295)), none, none, []⟩,
    ⟨(some 4), .mv (.t 9), none, none, []⟩]
def ac14p2 : AC :=
  .ret
def ac14 : AC := (.seq ac14p0 (.seq ac14p1 ac14p2))
theorem comp14 : compF Try.prog [] noDr [] 2 Try.f14 = some (ac14, [.t 4]) := by kernel_rfl

/- scoria/scoriaref02.Seal -/
def ac16p0 : AC :=
  .reg [⟨(some 2), .mv (.k (.str [])), none, none, []⟩]
def ac16p1 : AC :=
  .reg [⟨(some 4), .mv (.t 0), none, none, []⟩,
    ⟨(some 5), .call false 12 [(.t 4)], none, none, []⟩,
    ⟨(some 3), .mv (.t 5), none, none, []⟩]
def ac16p2 : AC :=
  .reg [⟨(some 6), .mv (.t 0), none, none, []⟩,
    ⟨(some 7), .mv (.t 3), none, none, []⟩,
    ⟨(some 8), .bin .quo (.t 7) (.k (.int .u32 16777216)), none, none, []⟩,
    ⟨(some 9), .conv .u8 (.t 8), none, none, []⟩,
    ⟨(some 10), .mv (.t 3), none, none, []⟩,
    ⟨(some 11), .bin .quo (.t 10) (.k (.int .u32 65536)), none, none, []⟩,
    ⟨(some 12), .bin .rem (.t 11) (.k (.int .u32 256)), none, none, []⟩,
    ⟨(some 13), .conv .u8 (.t 12), none, none, []⟩,
    ⟨(some 14), .mv (.t 3), none, none, []⟩,
    ⟨(some 15), .bin .quo (.t 14) (.k (.int .u32 256)), none, none, []⟩,
    ⟨(some 16), .bin .rem (.t 15) (.k (.int .u32 256)), none, none, []⟩,
    ⟨(some 17), .conv .u8 (.t 16), none, none, []⟩,
    ⟨(some 18), .mv (.t 3), none, none, []⟩,
    ⟨(some 19), .bin .rem (.t 18) (.k (.int .u32 256)), none, none, []⟩,
    ⟨(some 20), .conv .u8 (.t 19), none, none, []⟩,
    ⟨(some 21), .blds false [(.int .u8 0)] 4 [(0, (.t 9)), (1, (.t 13)), (2, (.t 17)), (3, (.t 20))], none, none, []⟩,
    ⟨(some 22), .b2s (.t 21), none, none, []⟩,
    ⟨(some 23), .bin .add (.t 6) (.t 22), none, none, []⟩,
    ⟨(some 2), .mv (.t 23), none, none, []⟩]
def ac16p3 : AC :=
  .ret
def ac16 : AC := (.seq ac16p0 (.seq ac16p1 (.seq ac16p2 ac16p3)))
theorem comp16 : compF Try.prog [] noDr [] 1 Try.f16 = some (ac16, [.t 2]) := by kernel_rfl

/- scoria/scoriaref02.Open -/
def ac18p0 : AC :=
  .reg [⟨(some 2), .mv (.k (.str [])), none, none, []⟩,
    ⟨(some 3), .mv (.k (.int .i64 0)), none, none, []⟩]
def ac18p1 : AC :=
  .reg [⟨(some 4), .mv (.t 0), none, none, []⟩,
    ⟨(some 5), .lens (.t 4), none, none, []⟩,
    ⟨(some 6), .bin .lss (.t 5) (.k (.int .i64 4)), none, none, []⟩]
def ac18p2 : AC :=
  .cond (.t 6) (.seq (.reg [⟨(some 2), .mv (.k (.str [])), none, none, []⟩,
      ⟨(some 3), .mv (.k (.int .i64 5)), none, none, []⟩])
    (.ret))
  (.skip)
def ac18p3 : AC :=
  .reg [⟨(some 7), .mv (.t 0), none, none, []⟩,
    ⟨(some 8), .mv (.t 0), none, none, []⟩,
    ⟨(some 9), .lens (.t 8), none, none, []⟩,
    ⟨(some 10), .bin .sub (.t 9) (.k (.int .i64 4)), none, none, []⟩,
    ⟨(some 11), .sstr (.t 7) none (some (.t 10)), none, none, []⟩,
    ⟨(some 12), .call false 16 [(.t 11)], none, none, []⟩,
    ⟨(some 13), .mv (.t 0), none, none, []⟩,
    ⟨(some 14), .bin .neq (.t 12) (.t 13), none, none, []⟩]
def ac18p4 : AC :=
  .cond (.t 14) (.seq (.reg [⟨(some 2), .mv (.k (.str [])), none, none, []⟩,
      ⟨(some 3), .mv (.k (.int .i64 6)), none, none, []⟩])
    (.ret))
  (.skip)
def ac18p5 : AC :=
  .reg [⟨(some 15), .mv (.t 0), none, none, []⟩,
    ⟨(some 16), .mv (.t 0), none, none, []⟩,
    ⟨(some 17), .lens (.t 16), none, none, []⟩,
    ⟨(some 18), .bin .sub (.t 17) (.k (.int .i64 4)), none, none, []⟩,
    ⟨(some 19), .sstr (.t 15) none (some (.t 18)), none, none, []⟩,
    ⟨(some 2), .mv (.t 19), none, none, []⟩,
    ⟨(some 3), .mv (.k (.int .i64 0)), none, none, []⟩]
def ac18p6 : AC :=
  .ret
def ac18 : AC := (.seq ac18p0 (.seq (.seq ac18p1 ac18p2) (.seq (.seq ac18p3 ac18p4) (.seq ac18p5 ac18p6))))
theorem comp18 : compF Try.prog [] noDr [] 1 Try.f18 = some (ac18, [.t 2, .t 3]) := by kernel_rfl

/- scoria/scorialaw02.CheckSums -/
def ac3p0 : AC :=
  .reg [⟨(some 4), .mv (.k (.bool false)), none, none, []⟩]
def ac3p1 : AC :=
  .reg [⟨(some 5), .mv (.t 0), none, none, []⟩,
    ⟨(some 6), .lens (.t 5), none, none, []⟩,
    ⟨(some 7), .bin .gtr (.t 6) (.k (.int .i64 20000)), none, none, []⟩]
def ac3p2 : AC :=
  .cond (.t 7) (.seq (.reg [⟨(some 8), .call false 10 [], none, none, []⟩,
      ⟨(some 4), .mv (.t 8), none, none, []⟩])
    (.ret))
  (.skip)
def ac3p3 : AC :=
  .reg [⟨(some 9), .call false 10 [], none, none, []⟩,
    ⟨(some 10), .mv (.t 9), none, none, []⟩,
    ⟨(some 11), .mv (.t 0), (some (10, true)), none, []⟩,
    ⟨(some 12), .call false 11 [(.t 11)], (some (10, true)), none, []⟩,
    ⟨(some 13), .mv (.t 0), (some (10, true)), none, []⟩,
    ⟨(some 14), .call false 12 [(.t 13)], (some (10, true)), none, []⟩,
    ⟨(some 15), .bin .eql (.t 12) (.t 14), (some (10, true)), none, []⟩,
    ⟨(some 16), .pick (.t 10) (.t 15) (.k (.bool false)), none, none, []⟩,
    ⟨(some 17), .mv (.t 16), none, none, []⟩,
    ⟨(some 18), .mv (.t 1), (some (17, true)), none, []⟩,
    ⟨(some 19), .mv (.t 0), (some (17, true)), none, []⟩,
    ⟨(some 20), .call false 13 [(.t 18), (.t 19)], (some (17, true)), none, []⟩,
    ⟨(some 21), .mv (.t 1), (some (17, true)), none, []⟩,
    ⟨(some 22), .mv (.t 0), (some (17, true)), none, []⟩,
    ⟨(some 23), .call false 14 [(.t 21), (.t 22)], (some (17, true)), none, []⟩,
    ⟨(some 24), .bin .eql (.t 20) (.t 23), (some (17, true)), none, []⟩,
    ⟨(some 25), .pick (.t 17) (.t 24) (.k (.bool false)), none, none, []⟩,
    ⟨(some 4), .mv (.t 25), none, none, []⟩]
def ac3p4 : AC :=
  .ret
def ac3 : AC := (.seq ac3p0 (.seq (.seq ac3p1 ac3p2) (.seq ac3p3 ac3p4)))
theorem comp3 : compF Try.prog [] noDr [] 2 Try.f3 = some (ac3, [.t 4]) := by kernel_rfl

/- scoria/scorialaw02.CheckSeals -/
def ac4p0 : AC :=
  .reg [⟨(some 2), .mv (.k (.bool false)), none, none, []⟩]
def ac4p1 : AC :=
  .reg [⟨(some 3), .mv (.t 0), none, none, []⟩,
    ⟨(some 4), .lens (.t 3), none, none, []⟩,
    ⟨(some 5), .bin .gtr (.t 4) (.k (.int .i64 20000)), none, none, []⟩]
def ac4p2 : AC :=
  .cond (.t 5) (.seq (.reg [⟨(some 6), .call false 10 [], none, none, []⟩,
      ⟨(some 2), .mv (.t 6), none, none, []⟩])
    (.ret))
  (.skip)
def ac4p3 : AC :=
  .reg [⟨(some 7), .call false 10 [], none, none, []⟩,
    ⟨(some 8), .mv (.t 7), none, none, []⟩,
    ⟨(some 9), .mv (.t 0), (some (8, true)), none, []⟩,
    ⟨(some 10), .call false 15 [(.t 9)], (some (8, true)), none, []⟩,
    ⟨(some 11), .mv (.t 0), (some (8, true)), none, []⟩,
    ⟨(some 12), .call false 16 [(.t 11)], (some (8, true)), none, []⟩,
    ⟨(some 13), .bin .eql (.t 10) (.t 12), (some (8, true)), none, []⟩,
    ⟨(some 14), .pick (.t 8) (.t 13) (.k (.bool false)), none, none, []⟩,
    ⟨(some 2), .mv (.t 14), none, none, []⟩]
def ac4p4 : AC :=
  .ret
def ac4 : AC := (.seq ac4p0 (.seq (.seq ac4p1 ac4p2) (.seq ac4p3 ac4p4)))
theorem comp4 : compF Try.prog [] noDr [] 1 Try.f4 = some (ac4, [.t 2]) := by kernel_rfl

/- scoria/scorialaw02.CheckOpens -/
def ac5p0 : AC :=
  .reg [⟨(some 2), .mv (.k (.bool false)), none, none, []⟩]
def ac5p1 : AC :=
  .reg [⟨(some 7), .mv (.t 0), none, none, []⟩,
    ⟨(some 8), .lens (.t 7), none, none, []⟩,
    ⟨(some 9), .bin .gtr (.t 8) (.k (.int .i64 20000)), none, none, []⟩]
def ac5p2 : AC :=
  .cond (.t 9) (.seq (.reg [⟨(some 10), .call false 10 [], none, none, []⟩,
      ⟨(some 2), .mv (.t 10), none, none, []⟩])
    (.ret))
  (.skip)
def ac5p3 : AC :=
  .reg [⟨(some 12), .mv (.t 0), none, none, []⟩,
    ⟨(some 13), .call false 17 [(.t 12)], none, none, []⟩,
    ⟨(some 11), .mv (.t 13), none, none, []⟩,
    ⟨(some 14), .ext 0 (.t 11), none, none, []⟩,
    ⟨(some 15), .ext 1 (.t 11), none, none, []⟩,
    ⟨(some 3), .mv (.t 14), none, none, []⟩,
    ⟨(some 4), .mv (.t 15), none, none, []⟩]
def ac5p4 : AC :=
  .reg [⟨(some 17), .mv (.t 0), none, none, []⟩,
    ⟨(some 18), .call false 18 [(.t 17)], none, none, []⟩,
    ⟨(some 16), .mv (.t 18), none, none, []⟩,
    ⟨(some 19), .ext 0 (.t 16), none, none, []⟩,
    ⟨(some 20), .ext 1 (.t 16), none, none, []⟩,
    ⟨(some 5), .mv (.t 19), none, none, []⟩,
    ⟨(some 6), .mv (.t 20), none, none, []⟩]
def ac5p5 : AC :=
  .reg [⟨(some 21), .call false 10 [], none, none, []⟩,
    ⟨(some 22), .mv (.t 21), none, none, []⟩,
    ⟨(some 23), .mv (.t 3), (some (22, true)), none, []⟩,
    ⟨(some 24), .mv (.t 5), (some (22, true)), none, []⟩,
    ⟨(some 25), .bin .eql (.t 23) (.t 24), (some (22, true)), none, []⟩,
    ⟨(some 26), .pick (.t 22) (.t 25) (.k (.bool false)), none, none, []⟩,
    ⟨(some 27), .mv (.t 26), none, none, []⟩,
    ⟨(some 28), .mv (.t 4), (some (27, true)), none, []⟩,
    ⟨(some 29), .mv (.t 6), (some (27, true)), none, []⟩,
    ⟨(some 30), .bin .eql (.t 28) (.t 29), (some (27, true)), none, []⟩,
    ⟨(some 31), .pick (.t 27) (.t 30) (.k (.bool false)), none, none, []⟩,
    ⟨(some 2), .mv (.t 31), none, none, []⟩]
def ac5p6 : AC :=
  .ret
def ac5 : AC := (.seq ac5p0 (.seq (.seq ac5p1 ac5p2) (.seq ac5p3 (.seq ac5p4 (.seq ac5p5 ac5p6)))))
theorem comp5 : compF Try.prog [] noDr [] 1 Try.f5 = some (ac5, [.t 2]) := by kernel_rfl

/- scoria/scorialaw02.CheckBack -/
def ac6p0 : AC :=
  .reg [⟨(some 2), .mv (.k (.bool false)), none, none, []⟩]
def ac6p1 : AC :=
  .reg [⟨(some 7), .mv (.t 0), none, none, []⟩,
    ⟨(some 8), .lens (.t 7), none, none, []⟩,
    ⟨(some 9), .bin .gtr (.t 8) (.k (.int .i64 20000)), none, none, []⟩]
def ac6p2 : AC :=
  .cond (.t 9) (.seq (.reg [⟨(some 10), .call false 10 [], none, none, []⟩,
      ⟨(some 2), .mv (.t 10), none, none, []⟩])
    (.ret))
  (.skip)
def ac6p3 : AC :=
  .reg [⟨(some 12), .mv (.t 0), none, none, []⟩,
    ⟨(some 13), .call false 15 [(.t 12)], none, none, []⟩,
    ⟨(some 14), .call false 17 [(.t 13)], none, none, []⟩,
    ⟨(some 11), .mv (.t 14), none, none, []⟩,
    ⟨(some 15), .ext 0 (.t 11), none, none, []⟩,
    ⟨(some 16), .ext 1 (.t 11), none, none, []⟩,
    ⟨(some 3), .mv (.t 15), none, none, []⟩,
    ⟨(some 4), .mv (.t 16), none, none, []⟩]
def ac6p4 : AC :=
  .reg [⟨(some 18), .mv (.t 0), none, none, []⟩,
    ⟨(some 19), .call false 17 [(.t 18)], none, none, []⟩,
    ⟨(some 17), .mv (.t 19), none, none, []⟩,
    ⟨(some 20), .ext 0 (.t 17), none, none, []⟩,
    ⟨(some 21), .ext 1 (.t 17), none, none, []⟩,
    ⟨(some 5), .mv (.t 20), none, none, []⟩,
    ⟨(some 6), .mv (.t 21), none, none, []⟩]
def ac6p5 : AC :=
  .reg [⟨(some 22), .call false 10 [], none, none, []⟩,
    ⟨(some 23), .mv (.t 22), none, none, []⟩,
    ⟨(some 24), .mv (.t 4), (some (23, true)), none, []⟩,
    ⟨(some 25), .bin .eql (.t 24) (.k (.int .i64 0)), (some (23, true)), none, []⟩,
    ⟨(some 26), .pick (.t 23) (.t 25) (.k (.bool false)), none, none, []⟩,
    ⟨(some 27), .mv (.t 26), none, none, []⟩,
    ⟨(some 28), .mv (.t 3), (some (27, true)), none, []⟩,
    ⟨(some 29), .mv (.t 0), (some (27, true)), none, []⟩,
    ⟨(some 30), .bin .eql (.t 28) (.t 29), (some (27, true)), none, []⟩,
    ⟨(some 31), .pick (.t 27) (.t 30) (.k (.bool false)), none, none, []⟩,
    ⟨(some 32), .mv (.t 31), none, none, []⟩,
    ⟨(some 33), .mv (.t 6), (some (32, true)), none, []⟩,
    ⟨(some 34), .bin .neq (.t 33) (.k (.int .i64 0)), (some (32, true)), none, []⟩,
    ⟨(some 35), .mv (.t 34), (some (32, true)), none, []⟩,
    ⟨(some 36), .mv (.t 5), (some (35, false)), none, []⟩,
    ⟨(some 37), .call false 15 [(.t 36)], (some (35, false)), none, []⟩,
    ⟨(some 38), .mv (.t 0), (some (35, false)), none, []⟩,
    ⟨(some 39), .bin .eql (.t 37) (.t 38), (some (35, false)), none, []⟩,
    ⟨(some 40), .pick (.t 35) (.k (.bool true)) (.t 39), (some (32, true)), none, []⟩,
    ⟨(some 41), .pick (.t 32) (.t 40) (.k (.bool false)), none, none, []⟩,
    ⟨(some 2), .mv (.t 41), none, none, []⟩]
def ac6p6 : AC :=
  .ret
def ac6 : AC := (.seq ac6p0 (.seq (.seq ac6p1 ac6p2) (.seq ac6p3 (.seq ac6p4 (.seq ac6p5 ac6p6)))))
theorem comp6 : compF Try.prog [] noDr [] 1 Try.f6 = some (ac6, [.t 2]) := by kernel_rfl

/- scoria/scorialaw02.CheckJoins -/
def ac7p0 : AC :=
  .reg [⟨(some 4), .mv (.k (.bool false)), none, none, []⟩]
def ac7p1 : AC :=
  .reg [⟨(some 5), .mv (.t 0), none, none, []⟩,
    ⟨(some 6), .lens (.t 5), none, none, []⟩,
    ⟨(some 7), .bin .gtr (.t 6) (.k (.int .i64 20000)), none, none, []⟩,
    ⟨(some 8), .mv (.t 7), none, none, []⟩,
    ⟨(some 9), .mv (.t 1), (some (8, false)), none, []⟩,
    ⟨(some 10), .lens (.t 9), (some (8, false)), none, []⟩,
    ⟨(some 11), .bin .gtr (.t 10) (.k (.int .i64 20000)), (some (8, false)), none, []⟩,
    ⟨(some 12), .pick (.t 8) (.k (.bool true)) (.t 11), none, none, []⟩]
def ac7p2 : AC :=
  .cond (.t 12) (.seq (.reg [⟨(some 13), .call false 10 [], none, none, []⟩,
      ⟨(some 4), .mv (.t 13), none, none, []⟩])
    (.ret))
  (.skip)
def ac7p3 : AC :=
  .reg [⟨(some 14), .call false 10 [], none, none, []⟩,
    ⟨(some 15), .mv (.t 14), none, none, []⟩,
    ⟨(some 16), .mv (.t 0), (some (15, true)), none, []⟩,
    ⟨(some 17), .call false 11 [(.t 16)], (some (15, true)), none, []⟩,
    ⟨(some 18), .mv (.t 1), (some (15, true)), none, []⟩,
    ⟨(some 19), .call false 13 [(.t 17), (.t 18)], (some (15, true)), none, []⟩,
    ⟨(some 20), .mv (.t 0), (some (15, true)), none, []⟩,
    ⟨(some 21), .mv (.t 1), (some (15, true)), none, []⟩,
    ⟨(some 22), .bin .add (.t 20) (.t 21), (some (15, true)), none, []⟩,
    ⟨(some 23), .call false 11 [(.t 22)], (some (15, true)), none, []⟩,
    ⟨(some 24), .bin .eql (.t 19) (.t 23), (some (15, true)), none, []⟩,
    ⟨(some 25), .pick (.t 15) (.t 24) (.k (.bool false)), none, none, []⟩,
    ⟨(some 26), .mv (.t 25), none, none, []⟩,
    ⟨(some 27), .mv (.t 0), (some (26, true)), none, []⟩,
    ⟨(some 28), .call false 11 [(.t 27)], (some (26, true)), none, []⟩,
    ⟨(some 29), .call false 13 [(.t 28), (.k (.str []))], (some (26, true)), none, []⟩,
    ⟨(some 30), .mv (.t 0), (some (26, true)), none, []⟩,
    ⟨(some 31), .call false 11 [(.t 30)], (some (26, true)), none, []⟩,
    ⟨(some 32), .bin .eql (.t 29) (.t 31), (some (26, true)), none, []⟩,
    ⟨(some 33), .pick (.t 26) (.t 32) (.k (.bool false)), none, none, []⟩,
    ⟨(some 4), .mv (.t 33), none, none, []⟩]
def ac7p4 : AC :=
  .ret
def ac7 : AC := (.seq ac7p0 (.seq (.seq ac7p1 ac7p2) (.seq ac7p3 ac7p4)))
theorem comp7 : compF Try.prog [] noDr [] 2 Try.f7 = some (ac7, [.t 4]) := by kernel_rfl

/- scoria/scorialaw02.CheckBurst -/
def ac8p0 : AC :=
  .reg [⟨(some 6), .mv (.k (.bool false)), none, none, []⟩]
def ac8p1 : AC :=
  .reg [⟨(some 14), .mv (.t 0), none, none, []⟩,
    ⟨(some 15), .lens (.t 14), none, none, []⟩,
    ⟨(some 16), .bin .gtr (.t 15) (.k (.int .i64 20000)), none, none, []⟩]
def ac8p2 : AC :=
  .cond (.t 16) (.seq (.reg [⟨(some 17), .call false 10 [], none, none, []⟩,
      ⟨(some 6), .mv (.t 17), none, none, []⟩])
    (.ret))
  (.skip)
def ac8p3 : AC :=
  .reg [⟨(some 18), .mv (.t 0), none, none, []⟩,
    ⟨(some 19), .call false 15 [(.t 18)], none, none, []⟩,
    ⟨(some 7), .mv (.t 19), none, none, []⟩]
def ac8p4 : AC :=
  .reg [⟨(some 20), .mv (.t 7), none, none, []⟩,
    ⟨(some 21), .lens (.t 20), none, none, []⟩,
    ⟨(some 22), .mv (.t 0), none, none, []⟩,
    ⟨(some 23), .lens (.t 22), none, none, []⟩,
    ⟨(some 24), .bin .add (.t 23) (.k (.int .i64 4)), none, none, []⟩,
    ⟨(some 25), .bin .neq (.t 21) (.t 24), none, none, []⟩]
def ac8p5 : AC :=
  .cond (.t 25) (.seq (.reg [⟨(some 6), .mv (.k (.bool false)), none, none, []⟩])
    (.ret))
  (.skip)
def ac8p6 : AC :=
  .reg [⟨(some 26), .mv (.t 7), none, none, []⟩,
    ⟨(some 27), .s2b true (.t 26), none, none, []⟩,
    ⟨(some 8), .mv (.t 27), none, none, []⟩]
def ac8p7 : AC :=
  .reg [⟨(some 28), .mv (.t 8), none, none, []⟩,
    ⟨(some 29), .len (.t 28), none, none, []⟩,
    ⟨(some 30), .bin .mul (.k (.int .i64 8)) (.t 29), none, none, []⟩,
    ⟨(some 9), .mv (.t 30), none, none, []⟩]
def ac8p8 : AC :=
  .reg [⟨(some 31), .mv (.t 1), none, none, []⟩,
    ⟨(some 32), .mv (.t 9), none, none, []⟩,
    ⟨(some 33), .bin .rem (.t 31) (.t 32), none, none, []⟩,
    ⟨(some 34), .mv (.t 9), none, none, []⟩,
    ⟨(some 35), .bin .add (.t 33) (.t 34), none, none, []⟩,
    ⟨(some 36), .mv (.t 9), none, none, []⟩,
    ⟨(some 37), .bin .rem (.t 35) (.t 36), none, none, []⟩,
    ⟨(some 10), .mv (.t 37), none, none, []⟩]
def ac8p9 : AC :=
  .reg [⟨(some 11), .mv (.k (.int .i64 0)), none, none, []⟩]
def ac8p10 : AC :=
  .block 0 (.loop [0, 2, 7, 8, 9, 10, 11] 1 (.seq (.seq (.reg [⟨(some 38), .mv (.t 11), none, none, []⟩,
        ⟨(some 39), .bin .lss (.t 38) (.k (.int .i64 32)), none, none, []⟩])
      (.cond (.t 39) (.skip)
      (.exit 0)))
      (.seq (.block 1 (.seq (.reg [⟨(some 42), .mv (.t 10), none, none, []⟩,
          ⟨(some 43), .mv (.t 11), none, none, []⟩,
          ⟨(some 44), .bin .add (.t 42) (.t 43), none, none, []⟩,
          ⟨(some 45), .mv (.t 9), none, none, []⟩,
          ⟨(some 46), .bin .lss (.t 44) (.t 45), none, none, []⟩,
          ⟨(some 47), .mv (.t 46), none, none, []⟩,
          ⟨(some 48), .mv (.t 2), (some (47, true)), none, []⟩,
          ⟨(some 49), .mv (.t 11), (some (47, true)), none, []⟩,
          ⟨(some 50), .bin .sub (.k (.int .i64 31)) (.t 49), (some (47, true)), none, []⟩,
          ⟨(some 51), .conv .u64 (.t 50), (some (47, true)), none, []⟩,
          ⟨(some 52), .bin .shr (.t 48) (.t 51), (some (47, true)), none, []⟩,
          ⟨(some 53), .bin .and (.t 52) (.k (.int .u32 1)), (some (47, true)), none, []⟩,
          ⟨(some 54), .bin .eql (.t 53) (.k (.int .u32 1)), (some (47, true)), none, []⟩,
          ⟨(some 55), .pick (.t 47) (.t 54) (.k (.bool false)), none, none, []⟩])
        (.cond (.t 55) (.reg [⟨(some 56), .mv (.t 8), none, none, []⟩,
            ⟨(some 57), .mv (.t 10), none, none, []⟩,
            ⟨(some 58), .mv (.t 11), none, none, []⟩,
            ⟨(some 59), .bin .add (.t 57) (.t 58), none, none, []⟩,
            ⟨(some 60), .bin .quo (.t 59) (.k (.int .i64 8)), none, none, []⟩,
            ⟨(some 61), .mv (.t 8), none, none, []⟩,
            ⟨(some 62), .mv (.t 10), none, none, []⟩,
            ⟨(some 63), .mv (.t 11), none, none, []⟩,
            ⟨(some 64), .bin .add (.t 62) (.t 63), none, none, []⟩,
            ⟨(some 65), .bin .quo (.t 64) (.k (.int .i64 8)), none, none, []⟩,
            ⟨(some 66), .isl 1 (.t 61) (.t 65), none, none, []⟩,
            ⟨(some 67), .load none (.t 66), none, none, []⟩,
            ⟨(some 68), .mv (.t 10), none, none, []⟩,
            ⟨(some 69), .mv (.t 11), none, none, []⟩,
            ⟨(some 70), .bin .add (.t 68) (.t 69), none, none, []⟩,
            ⟨(some 71), .bin .rem (.t 70) (.k (.int .i64 8)), none, none, []⟩,
            ⟨(some 72), .conv .u64 (.t 71), none, none, []⟩,
            ⟨(some 73), .bin .shr (.k (.int .u8 128)) (.t 72), none, none, []⟩,
            ⟨(some 74), .bin .xor (.t 67) (.t 73), none, none, []⟩,
            ⟨(some 75), .isl 1 (.t 56) (.t 60), none, none, []⟩,
            ⟨none, .store 1 (.t 75) (.t 74), none, none, []⟩])
        (.skip))))
      (.reg [⟨(some 40), .mv (.t 11), none, none, []⟩,
        ⟨(some 41), .bin .add (.t 40) (.k (.int .i64 1)), none, none, []⟩,
        ⟨(some 11), .mv (.t 41), none, none, []⟩]))))
def ac8p11 : AC :=
  .reg [⟨(some 77), .mv (.t 8), none, none, []⟩,
    ⟨(some 78), .b2s (.t 77), none, none, []⟩,
    ⟨(some 79), .call false 17 [(.t 78)], none, none, []⟩,
    ⟨(some 76), .mv (.t 79), none, none, []⟩,
    ⟨(some 80), .ext 0 (.t 76), none, none, []⟩,
    ⟨(some 81), .ext 1 (.t 76), none, none, []⟩,
    ⟨(some 12), .mv (.t 80), none, none, []⟩,
    ⟨(some 13), .mv (.t 81), none, none, []⟩]
def ac8p12 : AC :=
  .reg [⟨(some 82), .mv (.t 8), none, none, []⟩,
    ⟨(some 83), .b2s (.t 82), none, none, []⟩,
    ⟨(some 84), .mv (.t 7), none, none, []⟩,
    ⟨(some 85), .bin .eql (.t 83) (.t 84), none, none, []⟩]
def ac8p13 : AC :=
  .cond (.t 85) (.seq (.reg [⟨(some 86), .call false 10 [], none, none, []⟩,
      ⟨(some 87), .mv (.t 86), none, none, []⟩,
      ⟨(some 88), .mv (.t 13), (some (87, true)), none, []⟩,
      ⟨(some 89), .bin .eql (.t 88) (.k (.int .i64 0)), (some (87, true)), none, []⟩,
      ⟨(some 90), .pick (.t 87) (.t 89) (.k (.bool false)), none, none, []⟩,
      ⟨(some 91), .mv (.t 90), none, none, []⟩,
      ⟨(some 92), .mv (.t 12), (some (91, true)), none, []⟩,
      ⟨(some 93), .mv (.t 0), (some (91, true)), none, []⟩,
      ⟨(some 94), .bin .eql (.t 92) (.t 93), (some (91, true)), none, []⟩,
      ⟨(some 95), .pick (.t 91) (.t 94) (.k (.bool false)), none, none, []⟩,
      ⟨(some 6), .mv (.t 95), none, none, []⟩])
    (.ret))
  (.skip)
def ac8p14 : AC :=
  .reg [⟨(some 96), .call false 10 [], none, none, []⟩,
    ⟨(some 97), .mv (.t 96), none, none, []⟩,
    ⟨(some 98), .mv (.t 13), (some (97, true)), none, []⟩,
    ⟨(some 99), .bin .eql (.t 98) (.k (.int .i64 6)), (some (97, true)), none, []⟩,
    ⟨(some 100), .pick (.t 97) (.t 99) (.k (.bool false)), none, none, []⟩,
    ⟨(some 101), .mv (.t 100), none, none, []⟩,
    ⟨(some 102), .mv (.t 12), (some (101, true)), none, []⟩,
    ⟨(some 103), .bin .eql (.t 102) (.k (.str [])), (some (101, true)), none, []⟩,
    ⟨(some 104), .pick (.t 101) (.t 103) (.k (.bool false)), none, none, []⟩,
    ⟨(some 6), .mv (.t 104), none, none, []⟩]
def ac8p15 : AC :=
  .ret
def ac8 : AC := (.seq ac8p0 (.seq (.seq ac8p1 ac8p2) (.seq ac8p3 (.seq (.seq ac8p4 ac8p5) (.seq ac8p6 (.seq ac8p7 (.seq ac8p8 (.seq (.seq ac8p9 ac8p10) (.seq ac8p11 (.seq (.seq ac8p12 ac8p13) (.seq ac8p14 ac8p15)))))))))))
theorem comp8 : compF Try.prog [27] noDr [([0, 2, 7, 8, 9, 10, 11], 1)] 3 Try.f8 = some (ac8, [.t 6]) := by kernel_rfl

end Go.Proofs.Ytddofkbkjllcbaa.Aw
