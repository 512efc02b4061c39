/-
  The functions of the seat, translated to abstract code. Written by a program (wip/Gen2.lean).
-/
import Derived.Test.YtoofeppepahpfaaCode
import Derived.Test.YtoofeppepahpfaaProg
set_option maxRecDepth 100000
set_option linter.all false
namespace Go.Proofs.Ytoofeppepahpfaa.Aw
open Go.RowKit
/- scoria/scorialaw16.ReqKinds -/
def l_law16_ReqKinds_0 : List AOp := [⟨(some 2), .mv (.k (.bool false)), none, none, [], none⟩]
def ac_law16_ReqKinds_0 : AC := .reg l_law16_ReqKinds_0
def l_law16_ReqKinds_1 : List AOp := [⟨(some 5), .blds false [(.str [])] 10 [(0, (.k (.str [99, 114, 101, 97, 116, 101]))), (1, (.k (.str [114, 101, 115, 105, 122, 101]))), (2, (.k (.str [100, 101, 108, 101, 116, 101]))), (3, (.k (.str [119, 114, 105, 116, 101]))), (4, (.k (.str [122, 101, 114, 111]))), (5, (.k (.str [116, 114, 105, 109]))), (6, (.k (.str [114, 101, 97, 100]))), (7, (.k (.str [102, 108, 117, 115, 104]))), (8, (.k (.str [105, 110, 102, 111]))), (9, (.k (.str [108, 105, 115, 116])))], none, none, [], none⟩,
  ⟨(some 3), .mv (.t 5), none, none, [], none⟩]
def ac_law16_ReqKinds_1 : AC := .reg l_law16_ReqKinds_1
def l_law16_ReqKinds_2 : List AOp := [⟨(some 4), .mv (.k (.str [63])), none, none, [], none⟩]
def ac_law16_ReqKinds_2 : AC := .reg l_law16_ReqKinds_2
def l_law16_ReqKinds_3 : List AOp := [⟨(some 6), .mv (.t 0), none, none, [], none⟩,
  ⟨(some 7), .bin .geq (.t 6) (.k (.int .i64 1)), none, none, [], none⟩,
  ⟨(some 8), .mv (.t 7), none, none, [], none⟩,
  ⟨(some 9), .mv (.t 0), (some (8, true)), none, [], none⟩,
  ⟨(some 10), .bin .leq (.t 9) (.k (.int .i64 10)), (some (8, true)), none, [], none⟩,
  ⟨(some 11), .pick (.t 8) (.t 10) (.k (.bool false)), none, none, [], none⟩]
def ac_law16_ReqKinds_3 : AC := .reg l_law16_ReqKinds_3
def l_law16_ReqKinds_4 : List AOp := [⟨(some 12), .mv (.t 3), none, none, [], none⟩,
  ⟨(some 13), .mv (.t 0), none, none, [], none⟩,
  ⟨(some 14), .bin .sub (.t 13) (.k (.int .i64 1)), none, none, [], none⟩,
  ⟨(some 15), .isl 1 (.t 12) (.t 14), none, none, [], none⟩,
  ⟨(some 16), .load none (.t 15), none, none, [], none⟩,
  ⟨(some 4), .mv (.t 16), none, none, [], none⟩]
def ac_law16_ReqKinds_4 : AC := .reg l_law16_ReqKinds_4
def ac_law16_ReqKinds_5 : AC := .cond (.t 11) ac_law16_ReqKinds_4 .skip
def ac_law16_ReqKinds_6 : AC := .seq ac_law16_ReqKinds_3 ac_law16_ReqKinds_5
def l_law16_ReqKinds_7 : List AOp := [⟨(some 17), .call false 8 [], none, none, [], none⟩,
  ⟨(some 18), .mv (.t 17), none, none, [], none⟩,
  ⟨(some 19), .mv (.t 0), (some (18, true)), none, [], none⟩,
  ⟨(some 20), .call false 9 [(.t 19)], (some (18, true)), none, [], none⟩,
  ⟨(some 21), .mv (.t 4), (some (18, true)), none, [], none⟩,
  ⟨(some 22), .bin .eql (.t 20) (.t 21), (some (18, true)), none, [], none⟩,
  ⟨(some 23), .pick (.t 18) (.t 22) (.k (.bool false)), none, none, [], none⟩,
  ⟨(some 24), .mv (.t 23), none, none, [], none⟩,
  ⟨(some 25), .mv (.t 0), (some (24, true)), none, [], none⟩,
  ⟨(some 26), .call false 10 [(.t 25)], (some (24, true)), none, [], none⟩,
  ⟨(some 27), .mv (.t 0), (some (24, true)), none, [], none⟩,
  ⟨(some 28), .bin .geq (.t 27) (.k (.int .i64 1)), (some (24, true)), none, [], none⟩,
  ⟨(some 29), .mv (.t 28), (some (24, true)), none, [], none⟩,
  ⟨(some 30), .mv (.t 0), (some (29, true)), none, [], none⟩,
  ⟨(some 31), .bin .leq (.t 30) (.k (.int .i64 6)), (some (29, true)), none, [], none⟩,
  ⟨(some 32), .pick (.t 29) (.t 31) (.k (.bool false)), (some (24, true)), none, [], none⟩,
  ⟨(some 33), .eqb false (.t 26) (.t 32), (some (24, true)), none, [], none⟩,
  ⟨(some 34), .pick (.t 24) (.t 33) (.k (.bool false)), none, none, [], none⟩,
  ⟨(some 2), .mv (.t 34), none, none, [], none⟩]
def ac_law16_ReqKinds_7 : AC := .reg l_law16_ReqKinds_7
def ac_law16_ReqKinds_8 : AC := .seq ac_law16_ReqKinds_7 .ret
def ac_law16_ReqKinds_9 : AC := .seq ac_law16_ReqKinds_6 ac_law16_ReqKinds_8
def ac_law16_ReqKinds_10 : AC := .seq ac_law16_ReqKinds_2 ac_law16_ReqKinds_9
def ac_law16_ReqKinds_11 : AC := .seq ac_law16_ReqKinds_1 ac_law16_ReqKinds_10
def ac_law16_ReqKinds_12 : AC := .seq ac_law16_ReqKinds_0 ac_law16_ReqKinds_11
def ac_law16_ReqKinds : AC := ac_law16_ReqKinds_12
theorem comp_law16_ReqKinds : compF Try.prog [] (drawR Try.prog [] Try.f3.ntmps) [] 1 Try.f3 = some (ac_law16_ReqKinds, [.t 2]) := by kernel_rfl
def U_law16_ReqKinds := (And.intro (And.intro (And.intro (And.intro (And.intro @ac_law16_ReqKinds.eq_1 (@mR _ _ ac_law16_ReqKinds_0.eq_1)) (@mR _ _ ac_law16_ReqKinds_1.eq_1)) (And.intro (@mR _ _ ac_law16_ReqKinds_2.eq_1) (@mR _ _ ac_law16_ReqKinds_3.eq_1))) (And.intro (And.intro (And.intro (@mR _ _ ac_law16_ReqKinds_4.eq_1) (@mU _ _ ac_law16_ReqKinds_5.eq_1)) (@mU _ _ ac_law16_ReqKinds_6.eq_1)) (And.intro (@mR _ _ ac_law16_ReqKinds_7.eq_1) (@mU _ _ ac_law16_ReqKinds_8.eq_1)))) (And.intro (And.intro (And.intro (And.intro (@mU _ _ ac_law16_ReqKinds_9.eq_1) (@mU _ _ ac_law16_ReqKinds_10.eq_1)) (@mU _ _ ac_law16_ReqKinds_11.eq_1)) (And.intro (@mU _ _ ac_law16_ReqKinds_12.eq_1) @l_law16_ReqKinds_0.eq_1)) (And.intro (And.intro (And.intro @l_law16_ReqKinds_1.eq_1 @l_law16_ReqKinds_2.eq_1) @l_law16_ReqKinds_3.eq_1) (And.intro @l_law16_ReqKinds_4.eq_1 @l_law16_ReqKinds_7.eq_1))))

/- scoria/scorialaw16.ReqWrites -/
def l_law16_ReqWrites_0 : List AOp := [⟨(some 2), .box (.t 0), none, none, [], none⟩,
  ⟨(some 3), .box (.t 1), none, none, [], none⟩,
  ⟨(some 4), .mv (.k (.bool false)), none, none, [], none⟩]
def ac_law16_ReqWrites_0 : AC := .reg l_law16_ReqWrites_0
def l_law16_ReqWrites_1 : List AOp := [⟨(some 13), .faddr 4 (.t 2), none, none, [], none⟩,
  ⟨(some 14), .load none (.t 13), none, none, [], none⟩,
  ⟨(some 15), .lens (.t 14), none, none, [], none⟩,
  ⟨(some 16), .bin .gtr (.t 15) (.k (.int .i64 5000)), none, none, [], none⟩,
  ⟨(some 17), .mv (.t 16), none, none, [], none⟩,
  ⟨(some 18), .load (some 5) (.t 3), (some (17, false)), none, [], none⟩,
  ⟨(some 19), .call false 11 [(.t 18)], (some (17, false)), none, [], none⟩,
  ⟨(some 20), .un .not (.t 19), (some (17, false)), none, [], none⟩,
  ⟨(some 21), .pick (.t 17) (.k (.bool true)) (.t 20), none, none, [], none⟩]
def ac_law16_ReqWrites_1 : AC := .reg l_law16_ReqWrites_1
def l_law16_ReqWrites_2 : List AOp := [⟨(some 22), .call false 8 [], none, none, [], none⟩,
  ⟨(some 4), .mv (.t 22), none, none, [], none⟩]
def ac_law16_ReqWrites_2 : AC := .reg l_law16_ReqWrites_2
def ac_law16_ReqWrites_3 : AC := .seq ac_law16_ReqWrites_2 .ret
def ac_law16_ReqWrites_4 : AC := .cond (.t 21) ac_law16_ReqWrites_3 .skip
def ac_law16_ReqWrites_5 : AC := .seq ac_law16_ReqWrites_1 ac_law16_ReqWrites_4
def l_law16_ReqWrites_6 : List AOp := [⟨(some 24), .load (some 5) (.t 2), none, none, [], none⟩,
  ⟨(some 25), .call false 12 [(.t 24)], none, none, [], none⟩,
  ⟨(some 23), .mv (.t 25), none, none, [], none⟩,
  ⟨(some 26), .ext 0 (.t 23), none, none, [], none⟩,
  ⟨(some 27), .ext 1 (.t 23), none, none, [], none⟩,
  ⟨(some 5), .mv (.t 26), none, none, [], none⟩,
  ⟨(some 6), .mv (.t 27), none, none, [], none⟩]
def ac_law16_ReqWrites_6 : AC := .reg l_law16_ReqWrites_6
def l_law16_ReqWrites_7 : List AOp := [⟨(some 29), .load (some 5) (.t 2), none, none, [], none⟩,
  ⟨(some 30), .call false 13 [(.t 29)], none, none, [], none⟩,
  ⟨(some 28), .mv (.t 30), none, none, [], none⟩,
  ⟨(some 31), .ext 0 (.t 28), none, none, [], none⟩,
  ⟨(some 32), .ext 1 (.t 28), none, none, [], none⟩,
  ⟨(some 7), .mv (.t 31), none, none, [], none⟩,
  ⟨(some 8), .mv (.t 32), none, none, [], none⟩]
def ac_law16_ReqWrites_7 : AC := .reg l_law16_ReqWrites_7
def l_law16_ReqWrites_8 : List AOp := [⟨(some 34), .load (some 5) (.t 3), none, none, [], none⟩,
  ⟨(some 35), .call false 14 [(.t 34)], none, none, [], none⟩,
  ⟨(some 33), .mv (.t 35), none, none, [], none⟩,
  ⟨(some 36), .ext 0 (.t 33), none, none, [], none⟩,
  ⟨(some 37), .ext 1 (.t 33), none, none, [], none⟩,
  ⟨(some 9), .mv (.t 36), none, none, [], none⟩,
  ⟨(some 10), .mv (.t 37), none, none, [], none⟩]
def ac_law16_ReqWrites_8 : AC := .reg l_law16_ReqWrites_8
def l_law16_ReqWrites_9 : List AOp := [⟨(some 39), .load (some 5) (.t 3), none, none, [], none⟩,
  ⟨(some 40), .call false 16 [(.t 39)], none, none, [], none⟩,
  ⟨(some 41), .call false 15 [(.t 40)], none, none, [], none⟩,
  ⟨(some 38), .mv (.t 41), none, none, [], none⟩,
  ⟨(some 42), .ext 0 (.t 38), none, none, [], none⟩,
  ⟨(some 43), .ext 1 (.t 38), none, none, [], none⟩,
  ⟨(some 11), .mv (.t 42), none, none, [], none⟩,
  ⟨(some 12), .mv (.t 43), none, none, [], none⟩]
def ac_law16_ReqWrites_9 : AC := .reg l_law16_ReqWrites_9
def l_law16_ReqWrites_10 : List AOp := [⟨(some 44), .call false 8 [], none, none, [], none⟩,
  ⟨(some 45), .mv (.t 44), none, none, [], none⟩,
  ⟨(some 46), .mv (.t 5), (some (45, true)), none, [], none⟩,
  ⟨(some 47), .mv (.t 7), (some (45, true)), none, [], none⟩,
  ⟨(some 48), .bin .eql (.t 46) (.t 47), (some (45, true)), none, [], none⟩,
  ⟨(some 49), .pick (.t 45) (.t 48) (.k (.bool false)), none, none, [], none⟩,
  ⟨(some 50), .mv (.t 49), none, none, [], none⟩,
  ⟨(some 51), .mv (.t 6), (some (50, true)), none, [], none⟩,
  ⟨(some 52), .mv (.t 8), (some (50, true)), none, [], none⟩,
  ⟨(some 53), .bin .eql (.t 51) (.t 52), (some (50, true)), none, [], none⟩,
  ⟨(some 54), .pick (.t 50) (.t 53) (.k (.bool false)), none, none, [], none⟩,
  ⟨(some 55), .mv (.t 54), none, none, [], none⟩,
  ⟨(some 56), .mv (.t 9), (some (55, true)), none, [], none⟩,
  ⟨(some 57), .mv (.t 11), (some (55, true)), none, [], none⟩,
  ⟨(some 58), .bin .eql (.t 56) (.t 57), (some (55, true)), none, [], none⟩,
  ⟨(some 59), .pick (.t 55) (.t 58) (.k (.bool false)), none, none, [], none⟩,
  ⟨(some 60), .mv (.t 59), none, none, [], none⟩,
  ⟨(some 61), .mv (.t 10), (some (60, true)), none, [], none⟩,
  ⟨(some 62), .mv (.t 12), (some (60, true)), none, [], none⟩,
  ⟨(some 63), .bin .eql (.t 61) (.t 62), (some (60, true)), none, [], none⟩,
  ⟨(some 64), .pick (.t 60) (.t 63) (.k (.bool false)), none, none, [], none⟩,
  ⟨(some 4), .mv (.t 64), none, none, [], none⟩]
def ac_law16_ReqWrites_10 : AC := .reg l_law16_ReqWrites_10
def ac_law16_ReqWrites_11 : AC := .seq ac_law16_ReqWrites_10 .ret
def ac_law16_ReqWrites_12 : AC := .seq ac_law16_ReqWrites_9 ac_law16_ReqWrites_11
def ac_law16_ReqWrites_13 : AC := .seq ac_law16_ReqWrites_8 ac_law16_ReqWrites_12
def ac_law16_ReqWrites_14 : AC := .seq ac_law16_ReqWrites_7 ac_law16_ReqWrites_13
def ac_law16_ReqWrites_15 : AC := .seq ac_law16_ReqWrites_6 ac_law16_ReqWrites_14
def ac_law16_ReqWrites_16 : AC := .seq ac_law16_ReqWrites_5 ac_law16_ReqWrites_15
def ac_law16_ReqWrites_17 : AC := .seq ac_law16_ReqWrites_0 ac_law16_ReqWrites_16
def ac_law16_ReqWrites : AC := ac_law16_ReqWrites_17
theorem comp_law16_ReqWrites : compF Try.prog [] (drawR Try.prog [] Try.f4.ntmps) [] 2 Try.f4 = some (ac_law16_ReqWrites, [.t 4]) := by kernel_rfl
def U_law16_ReqWrites := (And.intro (And.intro (And.intro (And.intro (And.intro @ac_law16_ReqWrites.eq_1 (@mR _ _ ac_law16_ReqWrites_0.eq_1)) (And.intro (@mR _ _ ac_law16_ReqWrites_1.eq_1) (@mR _ _ ac_law16_ReqWrites_2.eq_1))) (And.intro (And.intro (@mU _ _ ac_law16_ReqWrites_3.eq_1) (@mU _ _ ac_law16_ReqWrites_4.eq_1)) (@mU _ _ ac_law16_ReqWrites_5.eq_1))) (And.intro (And.intro (And.intro (@mR _ _ ac_law16_ReqWrites_6.eq_1) (@mR _ _ ac_law16_ReqWrites_7.eq_1)) (And.intro (@mR _ _ ac_law16_ReqWrites_8.eq_1) (@mR _ _ ac_law16_ReqWrites_9.eq_1))) (And.intro (And.intro (@mR _ _ ac_law16_ReqWrites_10.eq_1) (@mU _ _ ac_law16_ReqWrites_11.eq_1)) (@mU _ _ ac_law16_ReqWrites_12.eq_1)))) (And.intro (And.intro (And.intro (And.intro (@mU _ _ ac_law16_ReqWrites_13.eq_1) (@mU _ _ ac_law16_ReqWrites_14.eq_1)) (And.intro (@mU _ _ ac_law16_ReqWrites_15.eq_1) (@mU _ _ ac_law16_ReqWrites_16.eq_1))) (And.intro (And.intro (@mU _ _ ac_law16_ReqWrites_17.eq_1) @l_law16_ReqWrites_0.eq_1) @l_law16_ReqWrites_1.eq_1)) (And.intro (And.intro (And.intro @l_law16_ReqWrites_2.eq_1 @l_law16_ReqWrites_6.eq_1) @l_law16_ReqWrites_7.eq_1) (And.intro (And.intro @l_law16_ReqWrites_8.eq_1 @l_law16_ReqWrites_9.eq_1) @l_law16_ReqWrites_10.eq_1))))

/- scoria/scorialaw16.ReqTurned -/
def l_law16_ReqTurned_0 : List AOp := [⟨(some 3), .box (.t 0), none, none, [], none⟩,
  ⟨(some 6), .mv (.k (.bool false)), none, none, [], none⟩]
def ac_law16_ReqTurned_0 : AC := .reg l_law16_ReqTurned_0
def l_law16_ReqTurned_1 : List AOp := [⟨(some 16), .load (some 5) (.t 3), none, none, [], none⟩,
  ⟨(some 17), .call false 12 [(.t 16)], none, none, [], none⟩,
  ⟨(some 15), .mv (.t 17), none, none, [], none⟩,
  ⟨(some 18), .ext 0 (.t 15), none, none, [], none⟩,
  ⟨(some 19), .ext 1 (.t 15), none, none, [], none⟩,
  ⟨(some 7), .mv (.t 18), none, none, [], none⟩,
  ⟨(some 8), .mv (.t 19), none, none, [], none⟩]
def ac_law16_ReqTurned_1 : AC := .reg l_law16_ReqTurned_1
def l_law16_ReqTurned_2 : List AOp := [⟨(some 20), .mv (.t 8), none, none, [], none⟩,
  ⟨(some 21), .bin .neq (.t 20) (.k (.int .i64 0)), none, none, [], none⟩]
def ac_law16_ReqTurned_2 : AC := .reg l_law16_ReqTurned_2
def l_law16_ReqTurned_3 : List AOp := [⟨(some 22), .call false 8 [], none, none, [], none⟩,
  ⟨(some 23), .mv (.t 22), none, none, [], none⟩,
  ⟨(some 24), .mv (.t 7), (some (23, true)), none, [], none⟩,
  ⟨(some 25), .bin .eql (.t 24) (.k (.str [])), (some (23, true)), none, [], none⟩,
  ⟨(some 26), .pick (.t 23) (.t 25) (.k (.bool false)), none, none, [], none⟩,
  ⟨(some 6), .mv (.t 26), none, none, [], none⟩]
def ac_law16_ReqTurned_3 : AC := .reg l_law16_ReqTurned_3
def ac_law16_ReqTurned_4 : AC := .seq ac_law16_ReqTurned_3 .ret
def ac_law16_ReqTurned_5 : AC := .cond (.t 21) ac_law16_ReqTurned_4 .skip
def ac_law16_ReqTurned_6 : AC := .seq ac_law16_ReqTurned_2 ac_law16_ReqTurned_5
def l_law16_ReqTurned_7 : List AOp := [⟨(some 27), .mv (.t 7), none, none, [], none⟩,
  ⟨(some 28), .s2b true (.t 27), none, none, [], none⟩,
  ⟨(some 9), .mv (.t 28), none, none, [], none⟩]
def ac_law16_ReqTurned_7 : AC := .reg l_law16_ReqTurned_7
def l_law16_ReqTurned_8 : List AOp := [⟨(some 29), .mv (.t 9), none, none, [], none⟩,
  ⟨(some 30), .len (.t 29), none, none, [], none⟩,
  ⟨(some 31), .bin .mul (.k (.int .i64 8)) (.t 30), none, none, [], none⟩,
  ⟨(some 10), .mv (.t 31), none, none, [], none⟩]
def ac_law16_ReqTurned_8 : AC := .reg l_law16_ReqTurned_8
def l_law16_ReqTurned_9 : List AOp := [⟨(some 32), .mv (.t 10), none, none, [], none⟩,
  ⟨(some 33), .bin .eql (.t 32) (.k (.int .i64 0)), none, none, [], none⟩]
def ac_law16_ReqTurned_9 : AC := .reg l_law16_ReqTurned_9
def l_law16_ReqTurned_10 : List AOp := [⟨(some 6), .mv (.k (.bool false)), none, none, [], none⟩]
def ac_law16_ReqTurned_10 : AC := .reg l_law16_ReqTurned_10
def ac_law16_ReqTurned_11 : AC := .seq ac_law16_ReqTurned_10 .ret
def ac_law16_ReqTurned_12 : AC := .cond (.t 33) ac_law16_ReqTurned_11 .skip
def ac_law16_ReqTurned_13 : AC := .seq ac_law16_ReqTurned_9 ac_law16_ReqTurned_12
def l_law16_ReqTurned_14 : List AOp := [⟨(some 34), .mv (.t 1), none, none, [], none⟩,
  ⟨(some 35), .mv (.t 10), none, none, [], none⟩,
  ⟨(some 36), .bin .rem (.t 34) (.t 35), none, none, [], none⟩,
  ⟨(some 37), .mv (.t 10), none, none, [], none⟩,
  ⟨(some 38), .bin .add (.t 36) (.t 37), none, none, [], none⟩,
  ⟨(some 39), .mv (.t 10), none, none, [], none⟩,
  ⟨(some 40), .bin .rem (.t 38) (.t 39), none, none, [], none⟩,
  ⟨(some 11), .mv (.t 40), none, none, [], none⟩]
def ac_law16_ReqTurned_14 : AC := .reg l_law16_ReqTurned_14
def l_law16_ReqTurned_15 : List AOp := [⟨(some 12), .mv (.k (.int .i64 0)), none, none, [], none⟩]
def ac_law16_ReqTurned_15 : AC := .reg l_law16_ReqTurned_15
def l_law16_ReqTurned_16 : List AOp := [⟨(some 41), .mv (.t 12), none, none, [], none⟩,
  ⟨(some 42), .bin .lss (.t 41) (.k (.int .i64 32)), none, none, [], none⟩]
def ac_law16_ReqTurned_16 : AC := .reg l_law16_ReqTurned_16
def ac_law16_ReqTurned_17 : AC := .cond (.t 42) .skip (.exit 0)
def ac_law16_ReqTurned_18 : AC := .seq ac_law16_ReqTurned_16 ac_law16_ReqTurned_17
def l_law16_ReqTurned_19 : List AOp := [⟨(some 45), .mv (.t 11), none, none, [], none⟩,
  ⟨(some 46), .mv (.t 12), none, none, [], none⟩,
  ⟨(some 47), .bin .add (.t 45) (.t 46), none, none, [], none⟩,
  ⟨(some 48), .mv (.t 10), none, none, [], none⟩,
  ⟨(some 49), .bin .lss (.t 47) (.t 48), none, none, [], none⟩,
  ⟨(some 50), .mv (.t 49), none, none, [], none⟩,
  ⟨(some 51), .mv (.t 2), (some (50, true)), none, [], none⟩,
  ⟨(some 52), .mv (.t 12), (some (50, true)), none, [], none⟩,
  ⟨(some 53), .bin .sub (.k (.int .i64 31)) (.t 52), (some (50, true)), none, [], none⟩,
  ⟨(some 54), .conv .u64 (.t 53), (some (50, true)), none, [], none⟩,
  ⟨(some 55), .bin .shr (.t 51) (.t 54), (some (50, true)), none, [], none⟩,
  ⟨(some 56), .bin .and (.t 55) (.k (.int .u32 1)), (some (50, true)), none, [], none⟩,
  ⟨(some 57), .bin .eql (.t 56) (.k (.int .u32 1)), (some (50, true)), none, [], none⟩,
  ⟨(some 58), .pick (.t 50) (.t 57) (.k (.bool false)), none, none, [], none⟩]
def ac_law16_ReqTurned_19 : AC := .reg l_law16_ReqTurned_19
def l_law16_ReqTurned_20 : List AOp := [⟨(some 59), .mv (.t 9), none, none, [], none⟩,
  ⟨(some 60), .mv (.t 11), none, none, [], none⟩,
  ⟨(some 61), .mv (.t 12), none, none, [], none⟩,
  ⟨(some 62), .bin .add (.t 60) (.t 61), none, none, [], none⟩,
  ⟨(some 63), .bin .quo (.t 62) (.k (.int .i64 8)), none, none, [], none⟩,
  ⟨(some 64), .mv (.t 9), none, none, [], none⟩,
  ⟨(some 65), .mv (.t 11), none, none, [], none⟩,
  ⟨(some 66), .mv (.t 12), none, none, [], none⟩,
  ⟨(some 67), .bin .add (.t 65) (.t 66), none, none, [], none⟩,
  ⟨(some 68), .bin .quo (.t 67) (.k (.int .i64 8)), none, none, [], none⟩,
  ⟨(some 69), .isl 1 (.t 64) (.t 68), none, none, [], none⟩,
  ⟨(some 70), .load none (.t 69), none, none, [], none⟩,
  ⟨(some 71), .mv (.t 11), none, none, [], none⟩,
  ⟨(some 72), .mv (.t 12), none, none, [], none⟩,
  ⟨(some 73), .bin .add (.t 71) (.t 72), none, none, [], none⟩,
  ⟨(some 74), .bin .rem (.t 73) (.k (.int .i64 8)), none, none, [], none⟩,
  ⟨(some 75), .conv .u64 (.t 74), none, none, [], none⟩,
  ⟨(some 76), .bin .shr (.k (.int .u8 128)) (.t 75), none, none, [], none⟩,
  ⟨(some 77), .bin .xor (.t 70) (.t 76), none, none, [], none⟩,
  ⟨(some 78), .isl 1 (.t 59) (.t 63), none, none, [], none⟩,
  ⟨none, .store 1 (.t 78) (.t 77), none, none, [], none⟩]
def ac_law16_ReqTurned_20 : AC := .reg l_law16_ReqTurned_20
def ac_law16_ReqTurned_21 : AC := .cond (.t 58) ac_law16_ReqTurned_20 .skip
def ac_law16_ReqTurned_22 : AC := .seq ac_law16_ReqTurned_19 ac_law16_ReqTurned_21
def ac_law16_ReqTurned_23 : AC := .block 1 ac_law16_ReqTurned_22
def l_law16_ReqTurned_24 : List AOp := [⟨(some 43), .mv (.t 12), none, none, [], none⟩,
  ⟨(some 44), .bin .add (.t 43) (.k (.int .i64 1)), none, none, [], none⟩,
  ⟨(some 12), .mv (.t 44), none, none, [], none⟩]
def ac_law16_ReqTurned_24 : AC := .reg l_law16_ReqTurned_24
def ac_law16_ReqTurned_25 : AC := .seq ac_law16_ReqTurned_23 ac_law16_ReqTurned_24
def ac_law16_ReqTurned_26 : AC := .seq ac_law16_ReqTurned_18 ac_law16_ReqTurned_25
def ac_law16_ReqTurned_27 : AC := .loop [2, 3, 7, 9, 10, 11, 12] 2 ac_law16_ReqTurned_26
def ac_law16_ReqTurned_28 : AC := .block 0 ac_law16_ReqTurned_27
def ac_law16_ReqTurned_29 : AC := .seq ac_law16_ReqTurned_15 ac_law16_ReqTurned_28
def l_law16_ReqTurned_30 : List AOp := [⟨(some 80), .mv (.t 9), none, none, [], none⟩,
  ⟨(some 81), .b2s (.t 80), none, none, [], none⟩,
  ⟨(some 82), .call false 17 [(.t 81)], none, none, [], none⟩,
  ⟨(some 79), .mv (.t 82), none, none, [], none⟩,
  ⟨(some 83), .ext 0 (.t 79), none, none, [], none⟩,
  ⟨(some 84), .ext 1 (.t 79), none, none, [], none⟩,
  ⟨(some 13), .alloc [(.int .i64 0), (.int .i64 0), (.int .i64 0), (.int .i64 0), (.str [])], none, none, [], none⟩,
  ⟨none, .store 5 (.t 13) (.t 83), none, none, [], none⟩,
  ⟨(some 14), .mv (.t 84), none, none, [], none⟩]
def ac_law16_ReqTurned_30 : AC := .reg l_law16_ReqTurned_30
def l_law16_ReqTurned_31 : List AOp := [⟨(some 85), .mv (.t 9), none, none, [], none⟩,
  ⟨(some 86), .b2s (.t 85), none, none, [], none⟩,
  ⟨(some 87), .mv (.t 7), none, none, [], none⟩,
  ⟨(some 88), .bin .eql (.t 86) (.t 87), none, none, [], none⟩]
def ac_law16_ReqTurned_31 : AC := .reg l_law16_ReqTurned_31
def l_law16_ReqTurned_32 : List AOp := [⟨(some 89), .call false 8 [], none, none, [], none⟩,
  ⟨(some 90), .mv (.t 89), none, none, [], none⟩,
  ⟨(some 91), .mv (.t 14), (some (90, true)), none, [], none⟩,
  ⟨(some 92), .bin .eql (.t 91) (.k (.int .i64 0)), (some (90, true)), none, [], none⟩,
  ⟨(some 93), .pick (.t 90) (.t 92) (.k (.bool false)), none, none, [], none⟩,
  ⟨(some 94), .mv (.t 93), none, none, [], none⟩,
  ⟨(some 95), .load (some 5) (.t 13), (some (94, true)), none, [], none⟩,
  ⟨(some 96), .load (some 5) (.t 3), (some (94, true)), none, [], none⟩,
  ⟨(some 97), .eqs false [.i, .i, .i, .i, .s] (.t 95) (.t 96), (some (94, true)), none, [], none⟩,
  ⟨(some 98), .pick (.t 94) (.t 97) (.k (.bool false)), none, none, [], none⟩,
  ⟨(some 6), .mv (.t 98), none, none, [], none⟩]
def ac_law16_ReqTurned_32 : AC := .reg l_law16_ReqTurned_32
def ac_law16_ReqTurned_33 : AC := .seq ac_law16_ReqTurned_32 .ret
def ac_law16_ReqTurned_34 : AC := .cond (.t 88) ac_law16_ReqTurned_33 .skip
def ac_law16_ReqTurned_35 : AC := .seq ac_law16_ReqTurned_31 ac_law16_ReqTurned_34
def l_law16_ReqTurned_36 : List AOp := [⟨(some 99), .call false 8 [], none, none, [], none⟩,
  ⟨(some 100), .mv (.t 99), none, none, [], none⟩,
  ⟨(some 101), .mv (.t 14), (some (100, true)), none, [], none⟩,
  ⟨(some 102), .bin .eql (.t 101) (.k (.int .i64 6)), (some (100, true)), none, [], none⟩,
  ⟨(some 103), .pick (.t 100) (.t 102) (.k (.bool false)), none, none, [], none⟩,
  ⟨(some 104), .mv (.t 103), none, none, [], none⟩,
  ⟨(some 105), .load (some 5) (.t 13), (some (104, true)), none, [], none⟩,
  ⟨(some 106), .build [(.int .i64 0), (.int .i64 0), (.int .i64 0), (.int .i64 0), (.str [])] [], (some (104, true)), none, [], none⟩,
  ⟨(some 107), .eqs false [.i, .i, .i, .i, .s] (.t 105) (.t 106), (some (104, true)), none, [], none⟩,
  ⟨(some 108), .pick (.t 104) (.t 107) (.k (.bool false)), none, none, [], none⟩,
  ⟨(some 6), .mv (.t 108), none, none, [], none⟩]
def ac_law16_ReqTurned_36 : AC := .reg l_law16_ReqTurned_36
def ac_law16_ReqTurned_37 : AC := .seq ac_law16_ReqTurned_36 .ret
def ac_law16_ReqTurned_38 : AC := .seq ac_law16_ReqTurned_35 ac_law16_ReqTurned_37
def ac_law16_ReqTurned_39 : AC := .seq ac_law16_ReqTurned_30 ac_law16_ReqTurned_38
def ac_law16_ReqTurned_40 : AC := .seq ac_law16_ReqTurned_29 ac_law16_ReqTurned_39
def ac_law16_ReqTurned_41 : AC := .seq ac_law16_ReqTurned_14 ac_law16_ReqTurned_40
def ac_law16_ReqTurned_42 : AC := .seq ac_law16_ReqTurned_13 ac_law16_ReqTurned_41
def ac_law16_ReqTurned_43 : AC := .seq ac_law16_ReqTurned_8 ac_law16_ReqTurned_42
def ac_law16_ReqTurned_44 : AC := .seq ac_law16_ReqTurned_7 ac_law16_ReqTurned_43
def ac_law16_ReqTurned_45 : AC := .seq ac_law16_ReqTurned_6 ac_law16_ReqTurned_44
def ac_law16_ReqTurned_46 : AC := .seq ac_law16_ReqTurned_1 ac_law16_ReqTurned_45
def ac_law16_ReqTurned_47 : AC := .seq ac_law16_ReqTurned_0 ac_law16_ReqTurned_46
def ac_law16_ReqTurned : AC := ac_law16_ReqTurned_47
theorem comp_law16_ReqTurned : compF Try.prog [28] (drawR Try.prog [28] Try.f5.ntmps) [([2, 3, 7, 9, 10, 11, 12], 2)] 3 Try.f5 = some (ac_law16_ReqTurned, [.t 6]) := by kernel_rfl
def U_law16_ReqTurned := (And.intro (And.intro (And.intro (And.intro (And.intro (And.intro (And.intro @ac_law16_ReqTurned.eq_1 (@mR _ _ ac_law16_ReqTurned_0.eq_1)) (@mR _ _ ac_law16_ReqTurned_1.eq_1)) (And.intro (@mR _ _ ac_law16_ReqTurned_2.eq_1) (@mR _ _ ac_law16_ReqTurned_3.eq_1))) (And.intro (And.intro (@mU _ _ ac_law16_ReqTurned_4.eq_1) (@mU _ _ ac_law16_ReqTurned_5.eq_1)) (And.intro (@mU _ _ ac_law16_ReqTurned_6.eq_1) (@mR _ _ ac_law16_ReqTurned_7.eq_1)))) (And.intro (And.intro (And.intro (@mR _ _ ac_law16_ReqTurned_8.eq_1) (@mR _ _ ac_law16_ReqTurned_9.eq_1)) (And.intro (@mR _ _ ac_law16_ReqTurned_10.eq_1) (@mU _ _ ac_law16_ReqTurned_11.eq_1))) (And.intro (And.intro (@mU _ _ ac_law16_ReqTurned_12.eq_1) (@mU _ _ ac_law16_ReqTurned_13.eq_1)) (And.intro (@mR _ _ ac_law16_ReqTurned_14.eq_1) (@mR _ _ ac_law16_ReqTurned_15.eq_1))))) (And.intro (And.intro (And.intro (And.intro (And.intro (@mR _ _ ac_law16_ReqTurned_16.eq_1) (@mU _ _ ac_law16_ReqTurned_17.eq_1)) (@mU _ _ ac_law16_ReqTurned_18.eq_1)) (And.intro (@mR _ _ ac_law16_ReqTurned_19.eq_1) (@mR _ _ ac_law16_ReqTurned_20.eq_1))) (And.intro (And.intro (@mU _ _ ac_law16_ReqTurned_21.eq_1) (@mU _ _ ac_law16_ReqTurned_22.eq_1)) (And.intro (@mU _ _ ac_law16_ReqTurned_23.eq_1) (@mR _ _ ac_law16_ReqTurned_24.eq_1)))) (And.intro (And.intro (And.intro (@mU _ _ ac_law16_ReqTurned_25.eq_1) (@mU _ _ ac_law16_ReqTurned_26.eq_1)) (And.intro (@mU _ _ ac_law16_ReqTurned_27.eq_1) (@mU _ _ ac_law16_ReqTurned_28.eq_1))) (And.intro (And.intro (@mU _ _ ac_law16_ReqTurned_29.eq_1) (@mR _ _ ac_law16_ReqTurned_30.eq_1)) (And.intro (@mR _ _ ac_law16_ReqTurned_31.eq_1) (@mR _ _ ac_law16_ReqTurned_32.eq_1)))))) (And.intro (And.intro (And.intro (And.intro (And.intro (And.intro (@mU _ _ ac_law16_ReqTurned_33.eq_1) (@mU _ _ ac_law16_ReqTurned_34.eq_1)) (@mU _ _ ac_law16_ReqTurned_35.eq_1)) (And.intro (@mR _ _ ac_law16_ReqTurned_36.eq_1) (@mU _ _ ac_law16_ReqTurned_37.eq_1))) (And.intro (And.intro (@mU _ _ ac_law16_ReqTurned_38.eq_1) (@mU _ _ ac_law16_ReqTurned_39.eq_1)) (And.intro (@mU _ _ ac_law16_ReqTurned_40.eq_1) (@mU _ _ ac_law16_ReqTurned_41.eq_1)))) (And.intro (And.intro (And.intro (@mU _ _ ac_law16_ReqTurned_42.eq_1) (@mU _ _ ac_law16_ReqTurned_43.eq_1)) (And.intro (@mU _ _ ac_law16_ReqTurned_44.eq_1) (@mU _ _ ac_law16_ReqTurned_45.eq_1))) (And.intro (And.intro (@mU _ _ ac_law16_ReqTurned_46.eq_1) (@mU _ _ ac_law16_ReqTurned_47.eq_1)) (And.intro @l_law16_ReqTurned_0.eq_1 @l_law16_ReqTurned_1.eq_1)))) (And.intro (And.intro (And.intro (And.intro @l_law16_ReqTurned_2.eq_1 @l_law16_ReqTurned_3.eq_1) (And.intro @l_law16_ReqTurned_7.eq_1 @l_law16_ReqTurned_8.eq_1)) (And.intro (And.intro @l_law16_ReqTurned_9.eq_1 @l_law16_ReqTurned_10.eq_1) (And.intro @l_law16_ReqTurned_14.eq_1 @l_law16_ReqTurned_15.eq_1))) (And.intro (And.intro (And.intro @l_law16_ReqTurned_16.eq_1 @l_law16_ReqTurned_19.eq_1) (And.intro @l_law16_ReqTurned_20.eq_1 @l_law16_ReqTurned_24.eq_1)) (And.intro (And.intro @l_law16_ReqTurned_30.eq_1 @l_law16_ReqTurned_31.eq_1) (And.intro @l_law16_ReqTurned_32.eq_1 @l_law16_ReqTurned_36.eq_1))))))

/- scoria/scorialaw16.ReqReads -/
def l_law16_ReqReads_0 : List AOp := [⟨(some 2), .mv (.k (.bool false)), none, none, [], none⟩]
def ac_law16_ReqReads_0 : AC := .reg l_law16_ReqReads_0
def l_law16_ReqReads_1 : List AOp := [⟨(some 11), .mv (.t 0), none, none, [], none⟩,
  ⟨(some 12), .lens (.t 11), none, none, [], none⟩,
  ⟨(some 13), .bin .gtr (.t 12) (.k (.int .i64 5000)), none, none, [], none⟩]
def ac_law16_ReqReads_1 : AC := .reg l_law16_ReqReads_1
def l_law16_ReqReads_2 : List AOp := [⟨(some 14), .call false 8 [], none, none, [], none⟩,
  ⟨(some 2), .mv (.t 14), none, none, [], none⟩]
def ac_law16_ReqReads_2 : AC := .reg l_law16_ReqReads_2
def ac_law16_ReqReads_3 : AC := .seq ac_law16_ReqReads_2 .ret
def ac_law16_ReqReads_4 : AC := .cond (.t 13) ac_law16_ReqReads_3 .skip
def ac_law16_ReqReads_5 : AC := .seq ac_law16_ReqReads_1 ac_law16_ReqReads_4
def l_law16_ReqReads_6 : List AOp := [⟨(some 16), .mv (.t 0), none, none, [], none⟩,
  ⟨(some 17), .call false 17 [(.t 16)], none, none, [], none⟩,
  ⟨(some 15), .mv (.t 17), none, none, [], none⟩,
  ⟨(some 18), .ext 0 (.t 15), none, none, [], none⟩,
  ⟨(some 19), .ext 1 (.t 15), none, none, [], none⟩,
  ⟨(some 3), .alloc [(.int .i64 0), (.int .i64 0), (.int .i64 0), (.int .i64 0), (.str [])], none, none, [], none⟩,
  ⟨none, .store 5 (.t 3) (.t 18), none, none, [], none⟩,
  ⟨(some 4), .mv (.t 19), none, none, [], none⟩]
def ac_law16_ReqReads_6 : AC := .reg l_law16_ReqReads_6
def l_law16_ReqReads_7 : List AOp := [⟨(some 21), .mv (.t 0), none, none, [], none⟩,
  ⟨(some 22), .call false 18 [(.t 21)], none, none, [], none⟩,
  ⟨(some 20), .mv (.t 22), none, none, [], none⟩,
  ⟨(some 23), .ext 0 (.t 20), none, none, [], none⟩,
  ⟨(some 24), .ext 1 (.t 20), none, none, [], none⟩,
  ⟨(some 5), .alloc [(.int .i64 0), (.int .i64 0), (.int .i64 0), (.int .i64 0), (.str [])], none, none, [], none⟩,
  ⟨none, .store 5 (.t 5) (.t 23), none, none, [], none⟩,
  ⟨(some 6), .mv (.t 24), none, none, [], none⟩]
def ac_law16_ReqReads_7 : AC := .reg l_law16_ReqReads_7
def l_law16_ReqReads_8 : List AOp := [⟨(some 26), .mv (.t 0), none, none, [], none⟩,
  ⟨(some 27), .call false 19 [(.t 26)], none, none, [], none⟩,
  ⟨(some 25), .mv (.t 27), none, none, [], none⟩,
  ⟨(some 28), .ext 0 (.t 25), none, none, [], none⟩,
  ⟨(some 29), .ext 1 (.t 25), none, none, [], none⟩,
  ⟨(some 7), .alloc [(.int .i64 0), (.str []), (.int .i64 0), (.int .i64 0), (.slc [])], none, none, [], none⟩,
  ⟨none, .store 5 (.t 7) (.t 28), none, none, [], none⟩,
  ⟨(some 8), .mv (.t 29), none, none, [], none⟩]
def ac_law16_ReqReads_8 : AC := .reg l_law16_ReqReads_8
def l_law16_ReqReads_9 : List AOp := [⟨(some 31), .mv (.t 0), none, none, [], none⟩,
  ⟨(some 32), .call false 20 [(.t 31)], none, none, [], none⟩,
  ⟨(some 30), .mv (.t 32), none, none, [], none⟩,
  ⟨(some 33), .ext 0 (.t 30), none, none, [], none⟩,
  ⟨(some 34), .ext 1 (.t 30), none, none, [], none⟩,
  ⟨(some 9), .alloc [(.int .i64 0), (.str []), (.int .i64 0), (.int .i64 0), (.slc [])], none, none, [], none⟩,
  ⟨none, .store 5 (.t 9) (.t 33), none, none, [], none⟩,
  ⟨(some 10), .mv (.t 34), none, none, [], none⟩]
def ac_law16_ReqReads_9 : AC := .reg l_law16_ReqReads_9
def l_law16_ReqReads_10 : List AOp := [⟨(some 35), .call false 8 [], none, none, [], none⟩,
  ⟨(some 36), .mv (.t 35), none, none, [], none⟩,
  ⟨(some 37), .load (some 5) (.t 3), (some (36, true)), none, [], none⟩,
  ⟨(some 38), .load (some 5) (.t 5), (some (36, true)), none, [], none⟩,
  ⟨(some 39), .eqs false [.i, .i, .i, .i, .s] (.t 37) (.t 38), (some (36, true)), none, [], none⟩,
  ⟨(some 40), .pick (.t 36) (.t 39) (.k (.bool false)), none, none, [], none⟩,
  ⟨(some 41), .mv (.t 40), none, none, [], none⟩,
  ⟨(some 42), .mv (.t 4), (some (41, true)), none, [], none⟩,
  ⟨(some 43), .mv (.t 6), (some (41, true)), none, [], none⟩,
  ⟨(some 44), .bin .eql (.t 42) (.t 43), (some (41, true)), none, [], none⟩,
  ⟨(some 45), .pick (.t 41) (.t 44) (.k (.bool false)), none, none, [], none⟩,
  ⟨(some 46), .mv (.t 45), none, none, [], none⟩,
  ⟨(some 47), .load (some 5) (.t 7), (some (46, true)), none, [], none⟩,
  ⟨(some 48), .call false 16 [(.t 47)], (some (46, true)), none, [], none⟩,
  ⟨(some 49), .load (some 5) (.t 9), (some (46, true)), none, [], none⟩,
  ⟨(some 50), .call false 21 [(.t 48), (.t 49)], (some (46, true)), none, [], none⟩,
  ⟨(some 51), .pick (.t 46) (.t 50) (.k (.bool false)), none, none, [], none⟩,
  ⟨(some 52), .mv (.t 51), none, none, [], none⟩,
  ⟨(some 53), .mv (.t 8), (some (52, true)), none, [], none⟩,
  ⟨(some 54), .mv (.t 10), (some (52, true)), none, [], none⟩,
  ⟨(some 55), .bin .eql (.t 53) (.t 54), (some (52, true)), none, [], none⟩,
  ⟨(some 56), .pick (.t 52) (.t 55) (.k (.bool false)), none, none, [], none⟩,
  ⟨(some 2), .mv (.t 56), none, none, [], none⟩]
def ac_law16_ReqReads_10 : AC := .dreg 0 l_law16_ReqReads_10
def ac_law16_ReqReads_11 : AC := .seq ac_law16_ReqReads_10 .ret
def ac_law16_ReqReads_12 : AC := .seq ac_law16_ReqReads_9 ac_law16_ReqReads_11
def ac_law16_ReqReads_13 : AC := .seq ac_law16_ReqReads_8 ac_law16_ReqReads_12
def ac_law16_ReqReads_14 : AC := .seq ac_law16_ReqReads_7 ac_law16_ReqReads_13
def ac_law16_ReqReads_15 : AC := .seq ac_law16_ReqReads_6 ac_law16_ReqReads_14
def ac_law16_ReqReads_16 : AC := .seq ac_law16_ReqReads_5 ac_law16_ReqReads_15
def ac_law16_ReqReads_17 : AC := .seq ac_law16_ReqReads_0 ac_law16_ReqReads_16
def ac_law16_ReqReads : AC := ac_law16_ReqReads_17
theorem comp_law16_ReqReads : compF Try.prog [] (drawR Try.prog [] Try.f6.ntmps) [] 1 Try.f6 = some (ac_law16_ReqReads, [.t 2]) := by kernel_rfl
def U_law16_ReqReads := (And.intro (And.intro (And.intro (And.intro (And.intro @ac_law16_ReqReads.eq_1 (@mR _ _ ac_law16_ReqReads_0.eq_1)) (And.intro (@mR _ _ ac_law16_ReqReads_1.eq_1) (@mR _ _ ac_law16_ReqReads_2.eq_1))) (And.intro (And.intro (@mU _ _ ac_law16_ReqReads_3.eq_1) (@mU _ _ ac_law16_ReqReads_4.eq_1)) (@mU _ _ ac_law16_ReqReads_5.eq_1))) (And.intro (And.intro (And.intro (@mR _ _ ac_law16_ReqReads_6.eq_1) (@mR _ _ ac_law16_ReqReads_7.eq_1)) (And.intro (@mR _ _ ac_law16_ReqReads_8.eq_1) (@mR _ _ ac_law16_ReqReads_9.eq_1))) (And.intro (And.intro (@mD _ _ _ ac_law16_ReqReads_10.eq_1) (@mU _ _ ac_law16_ReqReads_11.eq_1)) (@mU _ _ ac_law16_ReqReads_12.eq_1)))) (And.intro (And.intro (And.intro (And.intro (@mU _ _ ac_law16_ReqReads_13.eq_1) (@mU _ _ ac_law16_ReqReads_14.eq_1)) (And.intro (@mU _ _ ac_law16_ReqReads_15.eq_1) (@mU _ _ ac_law16_ReqReads_16.eq_1))) (And.intro (And.intro (@mU _ _ ac_law16_ReqReads_17.eq_1) @l_law16_ReqReads_0.eq_1) @l_law16_ReqReads_1.eq_1)) (And.intro (And.intro (And.intro @l_law16_ReqReads_2.eq_1 @l_law16_ReqReads_6.eq_1) @l_law16_ReqReads_7.eq_1) (And.intro (And.intro @l_law16_ReqReads_8.eq_1 @l_law16_ReqReads_9.eq_1) @l_law16_ReqReads_10.eq_1))))

/- scoria/scorialaw16.ReqBack -/
def l_law16_ReqBack_0 : List AOp := [⟨(some 3), .box (.t 0), none, none, [], none⟩,
  ⟨(some 4), .box (.t 1), none, none, [], none⟩,
  ⟨(some 6), .mv (.k (.bool false)), none, none, [], none⟩]
def ac_law16_ReqBack_0 : AC := .reg l_law16_ReqBack_0
def l_law16_ReqBack_1 : List AOp := [⟨(some 23), .faddr 4 (.t 3), none, none, [], none⟩,
  ⟨(some 24), .load none (.t 23), none, none, [], none⟩,
  ⟨(some 25), .lens (.t 24), none, none, [], none⟩,
  ⟨(some 26), .bin .gtr (.t 25) (.k (.int .i64 5000)), none, none, [], none⟩,
  ⟨(some 27), .mv (.t 26), none, none, [], none⟩,
  ⟨(some 28), .load (some 5) (.t 4), (some (27, false)), none, [], none⟩,
  ⟨(some 29), .call false 11 [(.t 28)], (some (27, false)), none, [], none⟩,
  ⟨(some 30), .un .not (.t 29), (some (27, false)), none, [], none⟩,
  ⟨(some 31), .pick (.t 27) (.k (.bool true)) (.t 30), none, none, [], none⟩,
  ⟨(some 32), .mv (.t 31), none, none, [], none⟩,
  ⟨(some 33), .mv (.t 2), (some (32, false)), none, [], none⟩,
  ⟨(some 34), .lens (.t 33), (some (32, false)), none, [], none⟩,
  ⟨(some 35), .bin .gtr (.t 34) (.k (.int .i64 5000)), (some (32, false)), none, [], none⟩,
  ⟨(some 36), .pick (.t 32) (.k (.bool true)) (.t 35), none, none, [], none⟩]
def ac_law16_ReqBack_1 : AC := .reg l_law16_ReqBack_1
def l_law16_ReqBack_2 : List AOp := [⟨(some 37), .call false 8 [], none, none, [], none⟩,
  ⟨(some 6), .mv (.t 37), none, none, [], none⟩]
def ac_law16_ReqBack_2 : AC := .reg l_law16_ReqBack_2
def ac_law16_ReqBack_3 : AC := .seq ac_law16_ReqBack_2 .ret
def ac_law16_ReqBack_4 : AC := .cond (.t 36) ac_law16_ReqBack_3 .skip
def ac_law16_ReqBack_5 : AC := .seq ac_law16_ReqBack_1 ac_law16_ReqBack_4
def l_law16_ReqBack_6 : List AOp := [⟨(some 39), .load (some 5) (.t 3), none, none, [], none⟩,
  ⟨(some 40), .call false 12 [(.t 39)], none, none, [], none⟩,
  ⟨(some 38), .mv (.t 40), none, none, [], none⟩,
  ⟨(some 41), .ext 0 (.t 38), none, none, [], none⟩,
  ⟨(some 42), .ext 1 (.t 38), none, none, [], none⟩,
  ⟨(some 7), .mv (.t 41), none, none, [], none⟩,
  ⟨(some 8), .mv (.t 42), none, none, [], none⟩]
def ac_law16_ReqBack_6 : AC := .reg l_law16_ReqBack_6
def l_law16_ReqBack_7 : List AOp := [⟨(some 43), .mv (.t 8), none, none, [], none⟩,
  ⟨(some 44), .bin .eql (.t 43) (.k (.int .i64 0)), none, none, [], none⟩]
def ac_law16_ReqBack_7 : AC := .reg l_law16_ReqBack_7
def l_law16_ReqBack_8 : List AOp := [⟨(some 46), .mv (.t 7), none, none, [], none⟩,
  ⟨(some 47), .call false 17 [(.t 46)], none, none, [], none⟩,
  ⟨(some 45), .mv (.t 47), none, none, [], none⟩,
  ⟨(some 48), .ext 0 (.t 45), none, none, [], none⟩,
  ⟨(some 49), .ext 1 (.t 45), none, none, [], none⟩,
  ⟨(some 9), .alloc [(.int .i64 0), (.int .i64 0), (.int .i64 0), (.int .i64 0), (.str [])], none, none, [], none⟩,
  ⟨none, .store 5 (.t 9) (.t 48), none, none, [], none⟩,
  ⟨(some 10), .mv (.t 49), none, none, [], none⟩]
def ac_law16_ReqBack_8 : AC := .reg l_law16_ReqBack_8
def l_law16_ReqBack_9 : List AOp := [⟨(some 50), .mv (.t 10), none, none, [], none⟩,
  ⟨(some 51), .bin .neq (.t 50) (.k (.int .i64 0)), none, none, [], none⟩,
  ⟨(some 52), .mv (.t 51), none, none, [], none⟩,
  ⟨(some 53), .load (some 5) (.t 9), (some (52, false)), none, [], none⟩,
  ⟨(some 54), .load (some 5) (.t 3), (some (52, false)), none, [], none⟩,
  ⟨(some 55), .eqs true [.i, .i, .i, .i, .s] (.t 53) (.t 54), (some (52, false)), none, [], none⟩,
  ⟨(some 56), .pick (.t 52) (.k (.bool true)) (.t 55), none, none, [], none⟩]
def ac_law16_ReqBack_9 : AC := .reg l_law16_ReqBack_9
def l_law16_ReqBack_10 : List AOp := [⟨(some 6), .mv (.k (.bool false)), none, none, [], none⟩]
def ac_law16_ReqBack_10 : AC := .reg l_law16_ReqBack_10
def ac_law16_ReqBack_11 : AC := .seq ac_law16_ReqBack_10 .ret
def ac_law16_ReqBack_12 : AC := .cond (.t 56) ac_law16_ReqBack_11 .skip
def ac_law16_ReqBack_13 : AC := .seq ac_law16_ReqBack_9 ac_law16_ReqBack_12
def ac_law16_ReqBack_14 : AC := .seq ac_law16_ReqBack_8 ac_law16_ReqBack_13
def ac_law16_ReqBack_15 : AC := .cond (.t 44) ac_law16_ReqBack_14 .skip
def ac_law16_ReqBack_16 : AC := .seq ac_law16_ReqBack_7 ac_law16_ReqBack_15
def ac_law16_ReqBack_17 : AC := .seq ac_law16_ReqBack_6 ac_law16_ReqBack_16
def l_law16_ReqBack_18 : List AOp := [⟨(some 58), .load (some 5) (.t 4), none, none, [], none⟩,
  ⟨(some 59), .call false 14 [(.t 58)], none, none, [], none⟩,
  ⟨(some 57), .mv (.t 59), none, none, [], none⟩,
  ⟨(some 60), .ext 0 (.t 57), none, none, [], none⟩,
  ⟨(some 61), .ext 1 (.t 57), none, none, [], none⟩,
  ⟨(some 11), .mv (.t 60), none, none, [], none⟩,
  ⟨(some 12), .mv (.t 61), none, none, [], none⟩]
def ac_law16_ReqBack_18 : AC := .reg l_law16_ReqBack_18
def l_law16_ReqBack_19 : List AOp := [⟨(some 62), .mv (.t 12), none, none, [], none⟩,
  ⟨(some 63), .bin .eql (.t 62) (.k (.int .i64 0)), none, none, [], none⟩]
def ac_law16_ReqBack_19 : AC := .reg l_law16_ReqBack_19
def l_law16_ReqBack_20 : List AOp := [⟨(some 65), .mv (.t 11), none, none, [], none⟩,
  ⟨(some 66), .call false 19 [(.t 65)], none, none, [], none⟩,
  ⟨(some 64), .mv (.t 66), none, none, [], none⟩,
  ⟨(some 67), .ext 0 (.t 64), none, none, [], none⟩,
  ⟨(some 68), .ext 1 (.t 64), none, none, [], none⟩,
  ⟨(some 13), .alloc [(.int .i64 0), (.str []), (.int .i64 0), (.int .i64 0), (.slc [])], none, none, [], none⟩,
  ⟨none, .store 5 (.t 13) (.t 67), none, none, [], none⟩,
  ⟨(some 14), .mv (.t 68), none, none, [], none⟩]
def ac_law16_ReqBack_20 : AC := .reg l_law16_ReqBack_20
def l_law16_ReqBack_21 : List AOp := [⟨(some 69), .mv (.t 14), none, none, [], none⟩,
  ⟨(some 70), .bin .neq (.t 69) (.k (.int .i64 0)), none, none, [], none⟩,
  ⟨(some 71), .mv (.t 70), none, none, [], none⟩,
  ⟨(some 72), .load (some 5) (.t 13), (some (71, false)), none, [], none⟩,
  ⟨(some 73), .call false 16 [(.t 72)], (some (71, false)), none, [], none⟩,
  ⟨(some 74), .load (some 5) (.t 4), (some (71, false)), none, [], none⟩,
  ⟨(some 75), .call false 16 [(.t 74)], (some (71, false)), none, [], none⟩,
  ⟨(some 76), .call false 21 [(.t 73), (.t 75)], (some (71, false)), none, [], none⟩,
  ⟨(some 77), .un .not (.t 76), (some (71, false)), none, [], none⟩,
  ⟨(some 78), .pick (.t 71) (.k (.bool true)) (.t 77), none, none, [], none⟩]
def ac_law16_ReqBack_21 : AC := .dreg 0 l_law16_ReqBack_21
def l_law16_ReqBack_22 : List AOp := [⟨(some 6), .mv (.k (.bool false)), none, none, [], none⟩]
def ac_law16_ReqBack_22 : AC := .reg l_law16_ReqBack_22
def ac_law16_ReqBack_23 : AC := .seq ac_law16_ReqBack_22 .ret
def ac_law16_ReqBack_24 : AC := .cond (.t 78) ac_law16_ReqBack_23 .skip
def ac_law16_ReqBack_25 : AC := .seq ac_law16_ReqBack_21 ac_law16_ReqBack_24
def ac_law16_ReqBack_26 : AC := .seq ac_law16_ReqBack_20 ac_law16_ReqBack_25
def ac_law16_ReqBack_27 : AC := .cond (.t 63) ac_law16_ReqBack_26 .skip
def ac_law16_ReqBack_28 : AC := .seq ac_law16_ReqBack_19 ac_law16_ReqBack_27
def ac_law16_ReqBack_29 : AC := .seq ac_law16_ReqBack_18 ac_law16_ReqBack_28
def l_law16_ReqBack_30 : List AOp := [⟨(some 80), .mv (.t 2), none, none, [], none⟩,
  ⟨(some 81), .call false 17 [(.t 80)], none, none, [], none⟩,
  ⟨(some 79), .mv (.t 81), none, none, [], none⟩,
  ⟨(some 82), .ext 0 (.t 79), none, none, [], none⟩,
  ⟨(some 83), .ext 1 (.t 79), none, none, [], none⟩,
  ⟨(some 15), .alloc [(.int .i64 0), (.int .i64 0), (.int .i64 0), (.int .i64 0), (.str [])], none, none, [], none⟩,
  ⟨none, .store 5 (.t 15) (.t 82), none, none, [], none⟩,
  ⟨(some 16), .mv (.t 83), none, none, [], none⟩]
def ac_law16_ReqBack_30 : AC := .reg l_law16_ReqBack_30
def l_law16_ReqBack_31 : List AOp := [⟨(some 85), .load (some 5) (.t 15), none, none, [], none⟩,
  ⟨(some 86), .call false 12 [(.t 85)], none, none, [], none⟩,
  ⟨(some 84), .mv (.t 86), none, none, [], none⟩,
  ⟨(some 87), .ext 0 (.t 84), none, none, [], none⟩,
  ⟨(some 88), .ext 1 (.t 84), none, none, [], none⟩,
  ⟨(some 17), .mv (.t 87), none, none, [], none⟩,
  ⟨(some 18), .mv (.t 88), none, none, [], none⟩]
def ac_law16_ReqBack_31 : AC := .reg l_law16_ReqBack_31
def l_law16_ReqBack_32 : List AOp := [⟨(some 90), .mv (.t 2), none, none, [], none⟩,
  ⟨(some 91), .call false 19 [(.t 90)], none, none, [], none⟩,
  ⟨(some 89), .mv (.t 91), none, none, [], none⟩,
  ⟨(some 92), .ext 0 (.t 89), none, none, [], none⟩,
  ⟨(some 93), .ext 1 (.t 89), none, none, [], none⟩,
  ⟨(some 19), .alloc [(.int .i64 0), (.str []), (.int .i64 0), (.int .i64 0), (.slc [])], none, none, [], none⟩,
  ⟨none, .store 5 (.t 19) (.t 92), none, none, [], none⟩,
  ⟨(some 20), .mv (.t 93), none, none, [], none⟩]
def ac_law16_ReqBack_32 : AC := .reg l_law16_ReqBack_32
def l_law16_ReqBack_33 : List AOp := [⟨(some 95), .load (some 5) (.t 19), none, none, [], none⟩,
  ⟨(some 96), .call false 14 [(.t 95)], none, none, [], none⟩,
  ⟨(some 94), .mv (.t 96), none, none, [], none⟩,
  ⟨(some 97), .ext 0 (.t 94), none, none, [], none⟩,
  ⟨(some 98), .ext 1 (.t 94), none, none, [], none⟩,
  ⟨(some 21), .mv (.t 97), none, none, [], none⟩,
  ⟨(some 22), .mv (.t 98), none, none, [], none⟩]
def ac_law16_ReqBack_33 : AC := .reg l_law16_ReqBack_33
def l_law16_ReqBack_34 : List AOp := [⟨(some 99), .call false 8 [], none, none, [], none⟩,
  ⟨(some 100), .mv (.t 99), none, none, [], none⟩,
  ⟨(some 101), .mv (.t 16), (some (100, true)), none, [], none⟩,
  ⟨(some 102), .bin .neq (.t 101) (.k (.int .i64 0)), (some (100, true)), none, [], none⟩,
  ⟨(some 103), .mv (.t 102), (some (100, true)), none, [], none⟩,
  ⟨(some 104), .mv (.t 18), (some (103, false)), none, [], none⟩,
  ⟨(some 105), .bin .eql (.t 104) (.k (.int .i64 0)), (some (103, false)), none, [], none⟩,
  ⟨(some 106), .mv (.t 105), (some (103, false)), none, [], none⟩,
  ⟨(some 107), .mv (.t 17), (some (106, true)), none, [], none⟩,
  ⟨(some 108), .mv (.t 2), (some (106, true)), none, [], none⟩,
  ⟨(some 109), .bin .eql (.t 107) (.t 108), (some (106, true)), none, [], none⟩,
  ⟨(some 110), .pick (.t 106) (.t 109) (.k (.bool false)), (some (103, false)), none, [], none⟩,
  ⟨(some 111), .pick (.t 103) (.k (.bool true)) (.t 110), (some (100, true)), none, [], none⟩,
  ⟨(some 112), .pick (.t 100) (.t 111) (.k (.bool false)), none, none, [], none⟩,
  ⟨(some 113), .mv (.t 112), none, none, [], none⟩,
  ⟨(some 114), .mv (.t 20), (some (113, true)), none, [], none⟩,
  ⟨(some 115), .bin .neq (.t 114) (.k (.int .i64 0)), (some (113, true)), none, [], none⟩,
  ⟨(some 116), .mv (.t 115), (some (113, true)), none, [], none⟩,
  ⟨(some 117), .mv (.t 22), (some (116, false)), none, [], none⟩,
  ⟨(some 118), .bin .eql (.t 117) (.k (.int .i64 0)), (some (116, false)), none, [], none⟩,
  ⟨(some 119), .mv (.t 118), (some (116, false)), none, [], none⟩,
  ⟨(some 120), .mv (.t 21), (some (119, true)), none, [], none⟩,
  ⟨(some 121), .mv (.t 2), (some (119, true)), none, [], none⟩,
  ⟨(some 122), .bin .eql (.t 120) (.t 121), (some (119, true)), none, [], none⟩,
  ⟨(some 123), .pick (.t 119) (.t 122) (.k (.bool false)), (some (116, false)), none, [], none⟩,
  ⟨(some 124), .pick (.t 116) (.k (.bool true)) (.t 123), (some (113, true)), none, [], none⟩,
  ⟨(some 125), .pick (.t 113) (.t 124) (.k (.bool false)), none, none, [], none⟩,
  ⟨(some 6), .mv (.t 125), none, none, [], none⟩]
def ac_law16_ReqBack_34 : AC := .reg l_law16_ReqBack_34
def ac_law16_ReqBack_35 : AC := .seq ac_law16_ReqBack_34 .ret
def ac_law16_ReqBack_36 : AC := .seq ac_law16_ReqBack_33 ac_law16_ReqBack_35
def ac_law16_ReqBack_37 : AC := .seq ac_law16_ReqBack_32 ac_law16_ReqBack_36
def ac_law16_ReqBack_38 : AC := .seq ac_law16_ReqBack_31 ac_law16_ReqBack_37
def ac_law16_ReqBack_39 : AC := .seq ac_law16_ReqBack_30 ac_law16_ReqBack_38
def ac_law16_ReqBack_40 : AC := .seq ac_law16_ReqBack_29 ac_law16_ReqBack_39
def ac_law16_ReqBack_41 : AC := .seq ac_law16_ReqBack_17 ac_law16_ReqBack_40
def ac_law16_ReqBack_42 : AC := .seq ac_law16_ReqBack_5 ac_law16_ReqBack_41
def ac_law16_ReqBack_43 : AC := .seq ac_law16_ReqBack_0 ac_law16_ReqBack_42
def ac_law16_ReqBack : AC := ac_law16_ReqBack_43
theorem comp_law16_ReqBack : compF Try.prog [] (drawR Try.prog [] Try.f7.ntmps) [] 3 Try.f7 = some (ac_law16_ReqBack, [.t 6]) := by kernel_rfl
def U_law16_ReqBack := (And.intro (And.intro (And.intro (And.intro (And.intro (And.intro @ac_law16_ReqBack.eq_1 (@mR _ _ ac_law16_ReqBack_0.eq_1)) (And.intro (@mR _ _ ac_law16_ReqBack_1.eq_1) (@mR _ _ ac_law16_ReqBack_2.eq_1))) (And.intro (And.intro (@mU _ _ ac_law16_ReqBack_3.eq_1) (@mU _ _ ac_law16_ReqBack_4.eq_1)) (And.intro (@mU _ _ ac_law16_ReqBack_5.eq_1) (@mR _ _ ac_law16_ReqBack_6.eq_1)))) (And.intro (And.intro (And.intro (@mR _ _ ac_law16_ReqBack_7.eq_1) (@mR _ _ ac_law16_ReqBack_8.eq_1)) (And.intro (@mR _ _ ac_law16_ReqBack_9.eq_1) (@mR _ _ ac_law16_ReqBack_10.eq_1))) (And.intro (And.intro (@mU _ _ ac_law16_ReqBack_11.eq_1) (@mU _ _ ac_law16_ReqBack_12.eq_1)) (And.intro (@mU _ _ ac_law16_ReqBack_13.eq_1) (@mU _ _ ac_law16_ReqBack_14.eq_1))))) (And.intro (And.intro (And.intro (And.intro (@mU _ _ ac_law16_ReqBack_15.eq_1) (@mU _ _ ac_law16_ReqBack_16.eq_1)) (And.intro (@mU _ _ ac_law16_ReqBack_17.eq_1) (@mR _ _ ac_law16_ReqBack_18.eq_1))) (And.intro (And.intro (@mR _ _ ac_law16_ReqBack_19.eq_1) (@mR _ _ ac_law16_ReqBack_20.eq_1)) (And.intro (@mD _ _ _ ac_law16_ReqBack_21.eq_1) (@mR _ _ ac_law16_ReqBack_22.eq_1)))) (And.intro (And.intro (And.intro (@mU _ _ ac_law16_ReqBack_23.eq_1) (@mU _ _ ac_law16_ReqBack_24.eq_1)) (And.intro (@mU _ _ ac_law16_ReqBack_25.eq_1) (@mU _ _ ac_law16_ReqBack_26.eq_1))) (And.intro (And.intro (@mU _ _ ac_law16_ReqBack_27.eq_1) (@mU _ _ ac_law16_ReqBack_28.eq_1)) (And.intro (@mU _ _ ac_law16_ReqBack_29.eq_1) (@mR _ _ ac_law16_ReqBack_30.eq_1)))))) (And.intro (And.intro (And.intro (And.intro (And.intro (@mR _ _ ac_law16_ReqBack_31.eq_1) (@mR _ _ ac_law16_ReqBack_32.eq_1)) (And.intro (@mR _ _ ac_law16_ReqBack_33.eq_1) (@mR _ _ ac_law16_ReqBack_34.eq_1))) (And.intro (And.intro (@mU _ _ ac_law16_ReqBack_35.eq_1) (@mU _ _ ac_law16_ReqBack_36.eq_1)) (And.intro (@mU _ _ ac_law16_ReqBack_37.eq_1) (@mU _ _ ac_law16_ReqBack_38.eq_1)))) (And.intro (And.intro (And.intro (@mU _ _ ac_law16_ReqBack_39.eq_1) (@mU _ _ ac_law16_ReqBack_40.eq_1)) (And.intro (@mU _ _ ac_law16_ReqBack_41.eq_1) (@mU _ _ ac_law16_ReqBack_42.eq_1))) (And.intro (And.intro (@mU _ _ ac_law16_ReqBack_43.eq_1) @l_law16_ReqBack_0.eq_1) (And.intro @l_law16_ReqBack_1.eq_1 @l_law16_ReqBack_2.eq_1)))) (And.intro (And.intro (And.intro (And.intro @l_law16_ReqBack_6.eq_1 @l_law16_ReqBack_7.eq_1) (And.intro @l_law16_ReqBack_8.eq_1 @l_law16_ReqBack_9.eq_1)) (And.intro (And.intro @l_law16_ReqBack_10.eq_1 @l_law16_ReqBack_18.eq_1) (And.intro @l_law16_ReqBack_19.eq_1 @l_law16_ReqBack_20.eq_1))) (And.intro (And.intro (And.intro @l_law16_ReqBack_21.eq_1 @l_law16_ReqBack_22.eq_1) (And.intro @l_law16_ReqBack_30.eq_1 @l_law16_ReqBack_31.eq_1)) (And.intro (And.intro @l_law16_ReqBack_32.eq_1 @l_law16_ReqBack_33.eq_1) @l_law16_ReqBack_34.eq_1)))))

/- scoria/scorialaw16.awake -/
def l_law16_awake_0 : List AOp := [⟨(some 0), .mv (.k (.bool false)), none, none, [], none⟩]
def ac_law16_awake_0 : AC := .reg l_law16_awake_0
def l_law16_awake_1 : List AOp := [⟨(some 4), .build [(.int .i64 0), (.int .i64 0), (.int .i64 0), (.int .i64 0), (.str [])] [(0, 1, (.k (.int .i64 7))), (1, 1, (.k (.int .i64 1))), (2, 1, (.k (.int .i64 5))), (3, 1, (.k (.int .i64 2)))], none, none, [], none⟩,
  ⟨(some 5), .call false 12 [(.t 4)], none, none, [], none⟩,
  ⟨(some 3), .mv (.t 5), none, none, [], none⟩,
  ⟨(some 6), .ext 0 (.t 3), none, none, [], none⟩,
  ⟨(some 7), .ext 1 (.t 3), none, none, [], none⟩,
  ⟨(some 1), .mv (.t 6), none, none, [], none⟩,
  ⟨(some 2), .mv (.t 7), none, none, [], none⟩]
def ac_law16_awake_1 : AC := .reg l_law16_awake_1
def l_law16_awake_2 : List AOp := [⟨(some 8), .mv (.t 2), none, none, [], none⟩,
  ⟨(some 9), .bin .eql (.t 8) (.k (.int .i64 0)), none, none, [], none⟩,
  ⟨(some 10), .mv (.t 9), none, none, [], none⟩,
  ⟨(some 11), .mv (.t 1), (some (10, true)), none, [], none⟩,
  ⟨(some 12), .lens (.t 11), (some (10, true)), none, [], none⟩,
  ⟨(some 13), .bin .eql (.t 12) (.k (.int .i64 19)), (some (10, true)), none, [], none⟩,
  ⟨(some 14), .pick (.t 10) (.t 13) (.k (.bool false)), none, none, [], none⟩,
  ⟨(some 15), .mv (.t 14), none, none, [], none⟩,
  ⟨(some 16), .mv (.t 1), (some (15, true)), none, [], none⟩,
  ⟨(some 17), .sstr (.t 16) none (some (.k (.int .i64 15))), (some (15, true)), none, [], none⟩,
  ⟨(some 18), .bin .eql (.t 17) (.k (.str [7, 1, 0, 0, 0, 5, 0, 0, 0, 2, 0, 0, 0, 0, 0])), (some (15, true)), none, [], none⟩,
  ⟨(some 19), .pick (.t 15) (.t 18) (.k (.bool false)), none, none, [], none⟩,
  ⟨(some 20), .mv (.t 19), none, none, [], none⟩,
  ⟨(some 21), .call false 9 [(.k (.int .i64 7))], (some (20, true)), none, [], none⟩,
  ⟨(some 22), .bin .eql (.t 21) (.k (.str [114, 101, 97, 100])), (some (20, true)), none, [], none⟩,
  ⟨(some 23), .pick (.t 20) (.t 22) (.k (.bool false)), none, none, [], none⟩,
  ⟨(some 24), .mv (.t 23), none, none, [], none⟩,
  ⟨(some 25), .call false 10 [(.k (.int .i64 6))], (some (24, true)), none, [], none⟩,
  ⟨(some 26), .pick (.t 24) (.t 25) (.k (.bool false)), none, none, [], none⟩,
  ⟨(some 0), .mv (.t 26), none, none, [], none⟩]
def ac_law16_awake_2 : AC := .reg l_law16_awake_2
def ac_law16_awake_3 : AC := .seq ac_law16_awake_2 .ret
def ac_law16_awake_4 : AC := .seq ac_law16_awake_1 ac_law16_awake_3
def ac_law16_awake_5 : AC := .seq ac_law16_awake_0 ac_law16_awake_4
def ac_law16_awake : AC := ac_law16_awake_5
theorem comp_law16_awake : compF Try.prog [] (drawR Try.prog [] Try.f8.ntmps) [] 0 Try.f8 = some (ac_law16_awake, [.t 0]) := by kernel_rfl
def U_law16_awake := (And.intro (And.intro (And.intro (And.intro @ac_law16_awake.eq_1 (@mR _ _ ac_law16_awake_0.eq_1)) (@mR _ _ ac_law16_awake_1.eq_1)) (And.intro (@mR _ _ ac_law16_awake_2.eq_1) (@mU _ _ ac_law16_awake_3.eq_1))) (And.intro (And.intro (And.intro (@mU _ _ ac_law16_awake_4.eq_1) (@mU _ _ ac_law16_awake_5.eq_1)) @l_law16_awake_0.eq_1) (And.intro @l_law16_awake_1.eq_1 @l_law16_awake_2.eq_1)))

/- scoria/scorialaw16.few -/
def l_law16_few_0 : List AOp := [⟨(some 1), .box (.t 0), none, none, [], none⟩,
  ⟨(some 2), .mv (.k (.bool false)), none, none, [], none⟩]
def ac_law16_few_0 : AC := .reg l_law16_few_0
def l_law16_few_1 : List AOp := [⟨(some 3), .faddr 1 (.t 1), none, none, [], none⟩,
  ⟨(some 4), .load none (.t 3), none, none, [], none⟩,
  ⟨(some 5), .lens (.t 4), none, none, [], none⟩,
  ⟨(some 6), .bin .leq (.t 5) (.k (.int .i64 5000)), none, none, [], none⟩,
  ⟨(some 7), .mv (.t 6), none, none, [], none⟩,
  ⟨(some 8), .faddr 4 (.t 1), (some (7, true)), none, [], none⟩,
  ⟨(some 9), .load none (.t 8), (some (7, true)), none, [], none⟩,
  ⟨(some 10), .len (.t 9), (some (7, true)), none, [], none⟩,
  ⟨(some 11), .bin .leq (.t 10) (.k (.int .i64 60)), (some (7, true)), none, [], none⟩,
  ⟨(some 12), .pick (.t 7) (.t 11) (.k (.bool false)), none, none, [], none⟩,
  ⟨(some 2), .mv (.t 12), none, none, [], none⟩]
def ac_law16_few_1 : AC := .reg l_law16_few_1
def ac_law16_few_2 : AC := .seq ac_law16_few_1 .ret
def ac_law16_few_3 : AC := .seq ac_law16_few_0 ac_law16_few_2
def ac_law16_few : AC := ac_law16_few_3
theorem comp_law16_few : compF Try.prog [] (drawR Try.prog [] Try.f11.ntmps) [] 1 Try.f11 = some (ac_law16_few, [.t 2]) := by kernel_rfl
def U_law16_few := (And.intro (And.intro (And.intro @ac_law16_few.eq_1 (@mR _ _ ac_law16_few_0.eq_1)) (And.intro (@mR _ _ ac_law16_few_1.eq_1) (@mU _ _ ac_law16_few_2.eq_1))) (And.intro (And.intro (@mU _ _ ac_law16_few_3.eq_1) @l_law16_few_0.eq_1) @l_law16_few_1.eq_1))

/- scoria/scorialaw16.Rep -/
def l_law16_Rep_0 : List AOp := [⟨(some 1), .box (.t 0), none, none, [], none⟩,
  ⟨(some 2), .alloc [(.int .i64 0), (.str []), (.int .i64 0), (.int .i64 0), (.slc [])], none, none, [], none⟩]
def ac_law16_Rep_0 : AC := .reg l_law16_Rep_0
def l_law16_Rep_1 : List AOp := [⟨(some 3), .faddr 0 (.t 1), none, none, [], none⟩,
  ⟨(some 4), .load none (.t 3), none, none, [], none⟩,
  ⟨(some 5), .faddr 1 (.t 1), none, none, [], none⟩,
  ⟨(some 6), .load none (.t 5), none, none, [], none⟩,
  ⟨(some 7), .faddr 2 (.t 1), none, none, [], none⟩,
  ⟨(some 8), .load none (.t 7), none, none, [], none⟩,
  ⟨(some 9), .faddr 3 (.t 1), none, none, [], none⟩,
  ⟨(some 10), .load none (.t 9), none, none, [], none⟩,
  ⟨(some 11), .faddr 4 (.t 1), none, none, [], none⟩,
  ⟨(some 12), .load none (.t 11), none, none, [], none⟩,
  ⟨(some 13), .build [(.int .i64 0), (.str []), (.int .i64 0), (.int .i64 0), (.slc [])] [(0, 1, (.t 4)), (1, 1, (.t 6)), (2, 1, (.t 8)), (3, 1, (.t 10)), (4, 1, (.t 12))], none, none, [], none⟩,
  ⟨none, .store 5 (.t 2) (.t 13), none, none, [], none⟩]
def ac_law16_Rep_1 : AC := .reg l_law16_Rep_1
def ac_law16_Rep_2 : AC := .seq ac_law16_Rep_1 .ret
def ac_law16_Rep_3 : AC := .seq ac_law16_Rep_0 ac_law16_Rep_2
def ac_law16_Rep : AC := ac_law16_Rep_3
theorem comp_law16_Rep : compF Try.prog [] (drawR Try.prog [] Try.f16.ntmps) [] 1 Try.f16 = some (ac_law16_Rep, [.c 2 (some 5)]) := by kernel_rfl
def U_law16_Rep := (And.intro (And.intro (And.intro @ac_law16_Rep.eq_1 (@mR _ _ ac_law16_Rep_0.eq_1)) (And.intro (@mR _ _ ac_law16_Rep_1.eq_1) (@mU _ _ ac_law16_Rep_2.eq_1))) (And.intro (And.intro (@mU _ _ ac_law16_Rep_3.eq_1) @l_law16_Rep_0.eq_1) @l_law16_Rep_1.eq_1))

end Go.Proofs.Ytoofeppepahpfaa.Aw
