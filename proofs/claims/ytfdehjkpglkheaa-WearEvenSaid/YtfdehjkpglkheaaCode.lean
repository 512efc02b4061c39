/-
  The functions of the seat, translated to abstract code. Written by a program (wip/Gen2.lean).
-/
import Derived.Test.YtfdehjkpglkheaaAwBun
import Derived.Test.YtfdehjkpglkheaaProg
set_option maxRecDepth 100000
set_option linter.all false
namespace Go.Proofs.Ytfdehjkpglkheaa.Aw
open Go.RowKit
/- scoria/scorialaw08.WearVictims -/
def l_law08_WearVictims_0 : List AOp := [⟨(some 2), .mv (.k (.bool false)), none, none, [], none⟩]
def ac_law08_WearVictims_0 : AC := .reg l_law08_WearVictims_0
def l_law08_WearVictims_1 : List AOp := [⟨(some 3), .mv (.t 0), none, none, [], none⟩,
  ⟨(some 4), .len (.t 3), none, none, [], none⟩,
  ⟨(some 5), .bin .gtr (.t 4) (.k (.int .i64 300)), none, none, [], none⟩]
def ac_law08_WearVictims_1 : AC := .reg l_law08_WearVictims_1
def l_law08_WearVictims_2 : List AOp := [⟨(some 6), .call false 8 [], none, none, [], none⟩,
  ⟨(some 2), .mv (.t 6), none, none, [], none⟩]
def ac_law08_WearVictims_2 : AC := .reg l_law08_WearVictims_2
def ac_law08_WearVictims_3 : AC := .seq ac_law08_WearVictims_2 .ret
def ac_law08_WearVictims_4 : AC := .cond (.t 5) ac_law08_WearVictims_3 .skip
def ac_law08_WearVictims_5 : AC := .seq ac_law08_WearVictims_1 ac_law08_WearVictims_4
def l_law08_WearVictims_6 : List AOp := [⟨(some 7), .call false 8 [], none, none, [], none⟩,
  ⟨(some 8), .mv (.t 7), none, none, [], none⟩,
  ⟨(some 9), .mv (.t 0), (some (8, true)), none, [], none⟩,
  ⟨(some 10), .call false 9 [(.t 9)], (some (8, true)), none, [], none⟩,
  ⟨(some 11), .mv (.t 0), (some (8, true)), none, [], none⟩,
  ⟨(some 12), .call false 11 [(.t 11)], (some (8, true)), none, [], none⟩,
  ⟨(some 13), .call false 10 [(.t 12)], (some (8, true)), none, [], none⟩,
  ⟨(some 14), .bin .eql (.t 10) (.t 13), (some (8, true)), none, [], none⟩,
  ⟨(some 15), .pick (.t 8) (.t 14) (.k (.bool false)), none, none, [], none⟩,
  ⟨(some 2), .mv (.t 15), none, none, [], none⟩]
def ac_law08_WearVictims_6 : AC := .reg l_law08_WearVictims_6
def ac_law08_WearVictims_7 : AC := .seq ac_law08_WearVictims_6 .ret
def ac_law08_WearVictims_8 : AC := .seq ac_law08_WearVictims_5 ac_law08_WearVictims_7
def ac_law08_WearVictims_9 : AC := .seq ac_law08_WearVictims_0 ac_law08_WearVictims_8
def ac_law08_WearVictims : AC := ac_law08_WearVictims_9
theorem comp_law08_WearVictims : compF Try.prog [] (drawR Try.prog [] Try.f3.ntmps) [] 1 Try.f3 = some (ac_law08_WearVictims, [.t 2]) := by kernel_rfl
def U_law08_WearVictims := (And.intro (And.intro (And.intro (And.intro @ac_law08_WearVictims.eq_1 (@mR _ _ ac_law08_WearVictims_0.eq_1)) (And.intro (@mR _ _ ac_law08_WearVictims_1.eq_1) (@mR _ _ ac_law08_WearVictims_2.eq_1))) (And.intro (And.intro (@mU _ _ ac_law08_WearVictims_3.eq_1) (@mU _ _ ac_law08_WearVictims_4.eq_1)) (And.intro (@mU _ _ ac_law08_WearVictims_5.eq_1) (@mR _ _ ac_law08_WearVictims_6.eq_1)))) (And.intro (And.intro (And.intro (@mU _ _ ac_law08_WearVictims_7.eq_1) (@mU _ _ ac_law08_WearVictims_8.eq_1)) (And.intro (@mU _ _ ac_law08_WearVictims_9.eq_1) @l_law08_WearVictims_0.eq_1)) (And.intro (And.intro @l_law08_WearVictims_1.eq_1 @l_law08_WearVictims_2.eq_1) @l_law08_WearVictims_6.eq_1)))

/- scoria/scorialaw08.WearPicks -/
def l_law08_WearPicks_0 : List AOp := [⟨(some 4), .mv (.k (.bool false)), none, none, [], none⟩]
def ac_law08_WearPicks_0 : AC := .reg l_law08_WearPicks_0
def l_law08_WearPicks_1 : List AOp := [⟨(some 5), .mv (.t 0), none, none, [], none⟩,
  ⟨(some 6), .len (.t 5), none, none, [], none⟩,
  ⟨(some 7), .bin .gtr (.t 6) (.k (.int .i64 300)), none, none, [], none⟩]
def ac_law08_WearPicks_1 : AC := .reg l_law08_WearPicks_1
def l_law08_WearPicks_2 : List AOp := [⟨(some 8), .call false 8 [], none, none, [], none⟩,
  ⟨(some 4), .mv (.t 8), none, none, [], none⟩]
def ac_law08_WearPicks_2 : AC := .reg l_law08_WearPicks_2
def ac_law08_WearPicks_3 : AC := .seq ac_law08_WearPicks_2 .ret
def ac_law08_WearPicks_4 : AC := .cond (.t 7) ac_law08_WearPicks_3 .skip
def ac_law08_WearPicks_5 : AC := .seq ac_law08_WearPicks_1 ac_law08_WearPicks_4
def l_law08_WearPicks_6 : List AOp := [⟨(some 9), .call false 8 [], none, none, [], none⟩,
  ⟨(some 10), .mv (.t 9), none, none, [], none⟩,
  ⟨(some 11), .mv (.t 0), (some (10, true)), none, [], none⟩,
  ⟨(some 12), .call false 12 [(.t 11)], (some (10, true)), none, [], none⟩,
  ⟨(some 13), .mv (.t 0), (some (10, true)), none, [], none⟩,
  ⟨(some 14), .call false 11 [(.t 13)], (some (10, true)), none, [], none⟩,
  ⟨(some 15), .call false 13 [(.t 14)], (some (10, true)), none, [], none⟩,
  ⟨(some 16), .bin .eql (.t 12) (.t 15), (some (10, true)), none, [], none⟩,
  ⟨(some 17), .pick (.t 10) (.t 16) (.k (.bool false)), none, none, [], none⟩,
  ⟨(some 18), .mv (.t 17), none, none, [], none⟩,
  ⟨(some 19), .mv (.t 0), (some (18, true)), none, [], none⟩,
  ⟨(some 20), .mv (.t 1), (some (18, true)), none, [], none⟩,
  ⟨(some 21), .call false 14 [(.t 19), (.t 20)], (some (18, true)), none, [], none⟩,
  ⟨(some 22), .mv (.t 0), (some (18, true)), none, [], none⟩,
  ⟨(some 23), .call false 11 [(.t 22)], (some (18, true)), none, [], none⟩,
  ⟨(some 24), .mv (.t 1), (some (18, true)), none, [], none⟩,
  ⟨(some 25), .call false 15 [(.t 23), (.t 24)], (some (18, true)), none, [], none⟩,
  ⟨(some 26), .bin .eql (.t 21) (.t 25), (some (18, true)), none, [], none⟩,
  ⟨(some 27), .pick (.t 18) (.t 26) (.k (.bool false)), none, none, [], none⟩,
  ⟨(some 4), .mv (.t 27), none, none, [], none⟩]
def ac_law08_WearPicks_6 : AC := .reg l_law08_WearPicks_6
def ac_law08_WearPicks_7 : AC := .seq ac_law08_WearPicks_6 .ret
def ac_law08_WearPicks_8 : AC := .seq ac_law08_WearPicks_5 ac_law08_WearPicks_7
def ac_law08_WearPicks_9 : AC := .seq ac_law08_WearPicks_0 ac_law08_WearPicks_8
def ac_law08_WearPicks : AC := ac_law08_WearPicks_9
theorem comp_law08_WearPicks : compF Try.prog [] (drawR Try.prog [] Try.f4.ntmps) [] 2 Try.f4 = some (ac_law08_WearPicks, [.t 4]) := by kernel_rfl
def U_law08_WearPicks := (And.intro (And.intro (And.intro (And.intro @ac_law08_WearPicks.eq_1 (@mR _ _ ac_law08_WearPicks_0.eq_1)) (And.intro (@mR _ _ ac_law08_WearPicks_1.eq_1) (@mR _ _ ac_law08_WearPicks_2.eq_1))) (And.intro (And.intro (@mU _ _ ac_law08_WearPicks_3.eq_1) (@mU _ _ ac_law08_WearPicks_4.eq_1)) (And.intro (@mU _ _ ac_law08_WearPicks_5.eq_1) (@mR _ _ ac_law08_WearPicks_6.eq_1)))) (And.intro (And.intro (And.intro (@mU _ _ ac_law08_WearPicks_7.eq_1) (@mU _ _ ac_law08_WearPicks_8.eq_1)) (And.intro (@mU _ _ ac_law08_WearPicks_9.eq_1) @l_law08_WearPicks_0.eq_1)) (And.intro (And.intro @l_law08_WearPicks_1.eq_1 @l_law08_WearPicks_2.eq_1) @l_law08_WearPicks_6.eq_1)))

/- scoria/scorialaw08.WearEven -/
def l_law08_WearEven_0 : List AOp := [⟨(some 6), .mv (.k (.bool false)), none, none, [], none⟩]
def ac_law08_WearEven_0 : AC := .reg l_law08_WearEven_0
def l_law08_WearEven_1 : List AOp := [⟨(some 11), .mv (.t 0), none, none, [], none⟩,
  ⟨(some 12), .bin .rem (.t 11) (.k (.int .i64 63)), none, none, [], none⟩,
  ⟨(some 13), .bin .add (.t 12) (.k (.int .i64 63)), none, none, [], none⟩,
  ⟨(some 14), .bin .rem (.t 13) (.k (.int .i64 63)), none, none, [], none⟩,
  ⟨(some 15), .bin .add (.k (.int .i64 2)) (.t 14), none, none, [], none⟩,
  ⟨(some 0), .mv (.t 15), none, none, [], none⟩]
def ac_law08_WearEven_1 : AC := .reg l_law08_WearEven_1
def l_law08_WearEven_2 : List AOp := [⟨(some 16), .mv (.t 1), none, none, [], none⟩,
  ⟨(some 17), .mv (.t 0), none, none, [], none⟩,
  ⟨(some 18), .bin .sub (.t 17) (.k (.int .i64 1)), none, none, [], none⟩,
  ⟨(some 19), .bin .rem (.t 16) (.t 18), none, none, [], none⟩,
  ⟨(some 20), .mv (.t 0), none, none, [], none⟩,
  ⟨(some 21), .bin .sub (.t 20) (.k (.int .i64 1)), none, none, [], none⟩,
  ⟨(some 22), .bin .add (.t 19) (.t 21), none, none, [], none⟩,
  ⟨(some 23), .mv (.t 0), none, none, [], none⟩,
  ⟨(some 24), .bin .sub (.t 23) (.k (.int .i64 1)), none, none, [], none⟩,
  ⟨(some 25), .bin .rem (.t 22) (.t 24), none, none, [], none⟩,
  ⟨(some 26), .bin .add (.k (.int .i64 1)) (.t 25), none, none, [], none⟩,
  ⟨(some 1), .mv (.t 26), none, none, [], none⟩]
def ac_law08_WearEven_2 : AC := .reg l_law08_WearEven_2
def l_law08_WearEven_3 : List AOp := [⟨(some 27), .mv (.t 2), none, none, [], none⟩,
  ⟨(some 28), .bin .rem (.t 27) (.k (.int .i64 500)), none, none, [], none⟩,
  ⟨(some 29), .bin .add (.t 28) (.k (.int .i64 500)), none, none, [], none⟩,
  ⟨(some 30), .bin .rem (.t 29) (.k (.int .i64 500)), none, none, [], none⟩,
  ⟨(some 2), .mv (.t 30), none, none, [], none⟩]
def ac_law08_WearEven_3 : AC := .reg l_law08_WearEven_3
def l_law08_WearEven_4 : List AOp := [⟨(some 31), .mv (.t 0), none, none, [], none⟩,
  ⟨(some 32), .mks true [(.int .i64 0), (.int .i64 0), (.int .i64 0)] 24 (.t 31) (.t 31), none, none, [], none⟩,
  ⟨(some 7), .mv (.t 32), none, none, [], none⟩]
def ac_law08_WearEven_4 : AC := .reg l_law08_WearEven_4
def l_law08_WearEven_5 : List AOp := [⟨(some 8), .nilown 1, none, none, [], none⟩]
def ac_law08_WearEven_5 : AC := .reg l_law08_WearEven_5
def l_law08_WearEven_6 : List AOp := [⟨(some 9), .mv (.k (.int .i64 0)), none, none, [], none⟩]
def ac_law08_WearEven_6 : AC := .reg l_law08_WearEven_6
def l_law08_WearEven_7 : List AOp := [⟨(some 33), .mv (.t 9), none, none, [], none⟩,
  ⟨(some 34), .mv (.t 2), none, none, [], none⟩,
  ⟨(some 35), .bin .lss (.t 33) (.t 34), none, none, [], none⟩]
def ac_law08_WearEven_7 : AC := .reg l_law08_WearEven_7
def ac_law08_WearEven_8 : AC := .cond (.t 35) .skip (.exit 0)
def ac_law08_WearEven_9 : AC := .seq ac_law08_WearEven_7 ac_law08_WearEven_8
def l_law08_WearEven_10 : List AOp := [⟨(some 38), .mv (.t 7), none, none, [], none⟩,
  ⟨(some 39), .call false 12 [(.t 38)], none, none, [], none⟩,
  ⟨(some 10), .mv (.t 39), none, none, [], none⟩]
def ac_law08_WearEven_10 : AC := .reg l_law08_WearEven_10
def l_law08_WearEven_11 : List AOp := [⟨(some 40), .mv (.t 10), none, none, [], none⟩,
  ⟨(some 41), .bin .lss (.t 40) (.k (.int .i64 0)), none, none, [], none⟩,
  ⟨(some 42), .mv (.t 41), none, none, [], none⟩,
  ⟨(some 43), .mv (.t 10), (some (42, false)), none, [], none⟩,
  ⟨(some 44), .mv (.t 0), (some (42, false)), none, [], none⟩,
  ⟨(some 45), .bin .geq (.t 43) (.t 44), (some (42, false)), none, [], none⟩,
  ⟨(some 46), .pick (.t 42) (.k (.bool true)) (.t 45), none, none, [], none⟩,
  ⟨(some 47), .mv (.t 46), none, none, [], none⟩,
  ⟨(some 48), .mv (.t 7), (some (47, false)), none, [], none⟩,
  ⟨(some 49), .mv (.t 10), (some (47, false)), none, [], none⟩,
  ⟨(some 50), .isl 3 (.t 48) (.t 49), (some (47, false)), none, [], none⟩,
  ⟨(some 51), .faddr 0 (.t 50), (some (47, false)), none, [], none⟩,
  ⟨(some 52), .load none (.t 51), (some (47, false)), none, [], none⟩,
  ⟨(some 53), .bin .neq (.t 52) (.k (.int .i64 0)), (some (47, false)), none, [], none⟩,
  ⟨(some 54), .pick (.t 47) (.k (.bool true)) (.t 53), none, none, [], none⟩]
def ac_law08_WearEven_11 : AC := .reg l_law08_WearEven_11
def l_law08_WearEven_12 : List AOp := [⟨(some 6), .mv (.k (.bool false)), none, none, [], none⟩]
def ac_law08_WearEven_12 : AC := .reg l_law08_WearEven_12
def ac_law08_WearEven_13 : AC := .seq ac_law08_WearEven_12 .ret
def ac_law08_WearEven_14 : AC := .cond (.t 54) ac_law08_WearEven_13 .skip
def ac_law08_WearEven_15 : AC := .seq ac_law08_WearEven_11 ac_law08_WearEven_14
def l_law08_WearEven_16 : List AOp := [⟨(some 55), .mv (.t 7), none, none, [], none⟩,
  ⟨(some 56), .mv (.t 10), none, none, [], none⟩,
  ⟨(some 57), .isl 3 (.t 55) (.t 56), none, none, [], none⟩,
  ⟨(some 58), .faddr 0 (.t 57), none, none, [], none⟩,
  ⟨none, .store 1 (.t 58) (.k (.int .i64 2)), none, none, [], none⟩]
def ac_law08_WearEven_16 : AC := .reg l_law08_WearEven_16
def l_law08_WearEven_17 : List AOp := [⟨(some 59), .mv (.t 8), none, none, [], none⟩,
  ⟨(some 60), .mv (.t 10), none, none, [], none⟩,
  ⟨(some 61), .blds false [(.int .i64 0)] 1 [(0, (.t 60))], none, none, [], none⟩,
  ⟨(some 62), .app 1 8 [(.int .i64 0)] (.t 59) (.t 61), none, none, [], none⟩,
  ⟨(some 8), .mv (.t 62), none, none, [], none⟩]
def ac_law08_WearEven_17 : AC := .reg l_law08_WearEven_17
def l_law08_WearEven_18 : List AOp := [⟨(some 63), .mv (.t 8), none, none, [], none⟩,
  ⟨(some 64), .len (.t 63), none, none, [], none⟩,
  ⟨(some 65), .mv (.t 1), none, none, [], none⟩,
  ⟨(some 66), .bin .sub (.t 65) (.k (.int .i64 1)), none, none, [], none⟩,
  ⟨(some 67), .bin .gtr (.t 64) (.t 66), none, none, [], none⟩]
def ac_law08_WearEven_18 : AC := .reg l_law08_WearEven_18
def l_law08_WearEven_19 : List AOp := [⟨(some 68), .mv (.t 7), none, none, [], none⟩,
  ⟨(some 69), .mv (.t 8), none, none, [], none⟩,
  ⟨(some 70), .isl 1 (.t 69) (.k (.int .i64 0)), none, none, [], none⟩,
  ⟨(some 71), .load none (.t 70), none, none, [], none⟩,
  ⟨(some 72), .mv (.t 7), none, none, [], none⟩,
  ⟨(some 73), .mv (.t 8), none, none, [], none⟩,
  ⟨(some 74), .isl 1 (.t 73) (.k (.int .i64 0)), none, none, [], none⟩,
  ⟨(some 75), .load none (.t 74), none, none, [], none⟩,
  ⟨(some 76), .isl 3 (.t 72) (.t 75), none, none, [], none⟩,
  ⟨(some 77), .faddr 2 (.t 76), none, none, [], none⟩,
  ⟨(some 78), .load none (.t 77), none, none, [], none⟩,
  ⟨(some 79), .bin .add (.t 78) (.k (.int .i64 1)), none, none, [], none⟩,
  ⟨(some 80), .build [(.int .i64 0), (.int .i64 0), (.int .i64 0)] [(2, 1, (.t 79))], none, none, [], none⟩,
  ⟨(some 81), .isl 3 (.t 68) (.t 71), none, none, [], none⟩,
  ⟨none, .store 3 (.t 81) (.t 80), none, none, [], none⟩]
def ac_law08_WearEven_19 : AC := .dreg 0 l_law08_WearEven_19
def l_law08_WearEven_20 : List AOp := [⟨(some 82), .mv (.t 8), none, none, [], none⟩,
  ⟨(some 83), .ssl 1 (.t 82) (some (.k (.int .i64 1))) none, none, none, [], none⟩,
  ⟨(some 8), .mv (.t 83), none, none, [], none⟩]
def ac_law08_WearEven_20 : AC := .reg l_law08_WearEven_20
def ac_law08_WearEven_21 : AC := .seq ac_law08_WearEven_19 ac_law08_WearEven_20
def ac_law08_WearEven_22 : AC := .cond (.t 67) ac_law08_WearEven_21 .skip
def ac_law08_WearEven_23 : AC := .seq ac_law08_WearEven_18 ac_law08_WearEven_22
def l_law08_WearEven_24 : List AOp := [⟨(some 84), .mv (.t 7), none, none, [], none⟩,
  ⟨(some 85), .call false 16 [(.t 84)], none, none, [], none⟩,
  ⟨(some 86), .bin .gtr (.t 85) (.k (.int .i64 1)), none, none, [], none⟩,
  ⟨(some 87), .mv (.t 86), none, none, [], none⟩,
  ⟨(some 88), .mv (.t 7), (some (87, false)), none, [], none⟩,
  ⟨(some 89), .call false 16 [(.t 88)], (some (87, false)), none, [], none⟩,
  ⟨(some 90), .bin .lss (.t 89) (.k (.int .i64 0)), (some (87, false)), none, [], none⟩,
  ⟨(some 91), .pick (.t 87) (.k (.bool true)) (.t 90), none, none, [], none⟩]
def ac_law08_WearEven_24 : AC := .reg l_law08_WearEven_24
def l_law08_WearEven_25 : List AOp := [⟨(some 6), .mv (.k (.bool false)), none, none, [], none⟩]
def ac_law08_WearEven_25 : AC := .reg l_law08_WearEven_25
def ac_law08_WearEven_26 : AC := .seq ac_law08_WearEven_25 .ret
def ac_law08_WearEven_27 : AC := .cond (.t 91) ac_law08_WearEven_26 .skip
def ac_law08_WearEven_28 : AC := .seq ac_law08_WearEven_24 ac_law08_WearEven_27
def ac_law08_WearEven_29 : AC := .seq ac_law08_WearEven_23 ac_law08_WearEven_28
def ac_law08_WearEven_30 : AC := .seq ac_law08_WearEven_17 ac_law08_WearEven_29
def ac_law08_WearEven_31 : AC := .seq ac_law08_WearEven_16 ac_law08_WearEven_30
def ac_law08_WearEven_32 : AC := .seq ac_law08_WearEven_15 ac_law08_WearEven_31
def ac_law08_WearEven_33 : AC := .seq ac_law08_WearEven_10 ac_law08_WearEven_32
def ac_law08_WearEven_34 : AC := .block 1 ac_law08_WearEven_33
def l_law08_WearEven_35 : List AOp := [⟨(some 36), .mv (.t 9), none, none, [], none⟩,
  ⟨(some 37), .bin .add (.t 36) (.k (.int .i64 1)), none, none, [], none⟩,
  ⟨(some 9), .mv (.t 37), none, none, [], none⟩]
def ac_law08_WearEven_35 : AC := .reg l_law08_WearEven_35
def ac_law08_WearEven_36 : AC := .seq ac_law08_WearEven_34 ac_law08_WearEven_35
def ac_law08_WearEven_37 : AC := .seq ac_law08_WearEven_9 ac_law08_WearEven_36
def ac_law08_WearEven_38 : AC := .loop [0, 1, 2, 7, 8, 9] 2 ac_law08_WearEven_37
def ac_law08_WearEven_39 : AC := .block 0 ac_law08_WearEven_38
def ac_law08_WearEven_40 : AC := .seq ac_law08_WearEven_6 ac_law08_WearEven_39
def l_law08_WearEven_41 : List AOp := [⟨(some 92), .call false 8 [], none, none, [], none⟩,
  ⟨(some 6), .mv (.t 92), none, none, [], none⟩]
def ac_law08_WearEven_41 : AC := .reg l_law08_WearEven_41
def ac_law08_WearEven_42 : AC := .seq ac_law08_WearEven_41 .ret
def ac_law08_WearEven_43 : AC := .seq ac_law08_WearEven_40 ac_law08_WearEven_42
def ac_law08_WearEven_44 : AC := .seq ac_law08_WearEven_5 ac_law08_WearEven_43
def ac_law08_WearEven_45 : AC := .seq ac_law08_WearEven_4 ac_law08_WearEven_44
def ac_law08_WearEven_46 : AC := .seq ac_law08_WearEven_3 ac_law08_WearEven_45
def ac_law08_WearEven_47 : AC := .seq ac_law08_WearEven_2 ac_law08_WearEven_46
def ac_law08_WearEven_48 : AC := .seq ac_law08_WearEven_1 ac_law08_WearEven_47
def ac_law08_WearEven_49 : AC := .seq ac_law08_WearEven_0 ac_law08_WearEven_48
def ac_law08_WearEven : AC := ac_law08_WearEven_49
theorem comp_law08_WearEven : compF Try.prog [32, 8] (drawR Try.prog [32, 8] Try.f5.ntmps) [([0, 1, 2, 7, 8, 9], 2)] 3 Try.f5 = some (ac_law08_WearEven, [.t 6]) := by kernel_rfl
def U_law08_WearEven := (And.intro (And.intro (And.intro (And.intro (And.intro (And.intro (And.intro @ac_law08_WearEven.eq_1 (@mR _ _ ac_law08_WearEven_0.eq_1)) (@mR _ _ ac_law08_WearEven_1.eq_1)) (And.intro (@mR _ _ ac_law08_WearEven_2.eq_1) (@mR _ _ ac_law08_WearEven_3.eq_1))) (And.intro (And.intro (@mR _ _ ac_law08_WearEven_4.eq_1) (@mR _ _ ac_law08_WearEven_5.eq_1)) (And.intro (@mR _ _ ac_law08_WearEven_6.eq_1) (@mR _ _ ac_law08_WearEven_7.eq_1)))) (And.intro (And.intro (And.intro (And.intro (@mU _ _ ac_law08_WearEven_8.eq_1) (@mU _ _ ac_law08_WearEven_9.eq_1)) (@mR _ _ ac_law08_WearEven_10.eq_1)) (And.intro (@mR _ _ ac_law08_WearEven_11.eq_1) (@mR _ _ ac_law08_WearEven_12.eq_1))) (And.intro (And.intro (@mU _ _ ac_law08_WearEven_13.eq_1) (@mU _ _ ac_law08_WearEven_14.eq_1)) (And.intro (@mU _ _ ac_law08_WearEven_15.eq_1) (@mR _ _ ac_law08_WearEven_16.eq_1))))) (And.intro (And.intro (And.intro (And.intro (And.intro (@mR _ _ ac_law08_WearEven_17.eq_1) (@mR _ _ ac_law08_WearEven_18.eq_1)) (@mD _ _ _ ac_law08_WearEven_19.eq_1)) (And.intro (@mR _ _ ac_law08_WearEven_20.eq_1) (@mU _ _ ac_law08_WearEven_21.eq_1))) (And.intro (And.intro (@mU _ _ ac_law08_WearEven_22.eq_1) (@mU _ _ ac_law08_WearEven_23.eq_1)) (And.intro (@mR _ _ ac_law08_WearEven_24.eq_1) (@mR _ _ ac_law08_WearEven_25.eq_1)))) (And.intro (And.intro (And.intro (And.intro (@mU _ _ ac_law08_WearEven_26.eq_1) (@mU _ _ ac_law08_WearEven_27.eq_1)) (@mU _ _ ac_law08_WearEven_28.eq_1)) (And.intro (@mU _ _ ac_law08_WearEven_29.eq_1) (@mU _ _ ac_law08_WearEven_30.eq_1))) (And.intro (And.intro (@mU _ _ ac_law08_WearEven_31.eq_1) (@mU _ _ ac_law08_WearEven_32.eq_1)) (And.intro (@mU _ _ ac_law08_WearEven_33.eq_1) (@mU _ _ ac_law08_WearEven_34.eq_1)))))) (And.intro (And.intro (And.intro (And.intro (And.intro (And.intro (@mR _ _ ac_law08_WearEven_35.eq_1) (@mU _ _ ac_law08_WearEven_36.eq_1)) (@mU _ _ ac_law08_WearEven_37.eq_1)) (And.intro (@mU _ _ ac_law08_WearEven_38.eq_1) (@mU _ _ ac_law08_WearEven_39.eq_1))) (And.intro (And.intro (@mU _ _ ac_law08_WearEven_40.eq_1) (@mR _ _ ac_law08_WearEven_41.eq_1)) (And.intro (@mU _ _ ac_law08_WearEven_42.eq_1) (@mU _ _ ac_law08_WearEven_43.eq_1)))) (And.intro (And.intro (And.intro (And.intro (@mU _ _ ac_law08_WearEven_44.eq_1) (@mU _ _ ac_law08_WearEven_45.eq_1)) (@mU _ _ ac_law08_WearEven_46.eq_1)) (And.intro (@mU _ _ ac_law08_WearEven_47.eq_1) (@mU _ _ ac_law08_WearEven_48.eq_1))) (And.intro (And.intro (@mU _ _ ac_law08_WearEven_49.eq_1) @l_law08_WearEven_0.eq_1) (And.intro @l_law08_WearEven_1.eq_1 @l_law08_WearEven_2.eq_1)))) (And.intro (And.intro (And.intro (And.intro (And.intro @l_law08_WearEven_3.eq_1 @l_law08_WearEven_4.eq_1) @l_law08_WearEven_5.eq_1) (And.intro @l_law08_WearEven_6.eq_1 @l_law08_WearEven_7.eq_1)) (And.intro (And.intro @l_law08_WearEven_10.eq_1 @l_law08_WearEven_11.eq_1) (And.intro @l_law08_WearEven_12.eq_1 @l_law08_WearEven_16.eq_1))) (And.intro (And.intro (And.intro @l_law08_WearEven_17.eq_1 @l_law08_WearEven_18.eq_1) (And.intro @l_law08_WearEven_19.eq_1 @l_law08_WearEven_20.eq_1)) (And.intro (And.intro @l_law08_WearEven_24.eq_1 @l_law08_WearEven_25.eq_1) (And.intro @l_law08_WearEven_35.eq_1 @l_law08_WearEven_41.eq_1))))))

/- scoria/scorialaw08.WearLess -/
def l_law08_WearLess_0 : List AOp := [⟨(some 4), .mv (.k (.bool false)), none, none, [], none⟩]
def ac_law08_WearLess_0 : AC := .reg l_law08_WearLess_0
def l_law08_WearLess_1 : List AOp := [⟨(some 11), .mv (.t 0), none, none, [], none⟩,
  ⟨(some 12), .len (.t 11), none, none, [], none⟩,
  ⟨(some 13), .bin .gtr (.t 12) (.k (.int .i64 300)), none, none, [], none⟩]
def ac_law08_WearLess_1 : AC := .reg l_law08_WearLess_1
def l_law08_WearLess_2 : List AOp := [⟨(some 14), .call false 8 [], none, none, [], none⟩,
  ⟨(some 4), .mv (.t 14), none, none, [], none⟩]
def ac_law08_WearLess_2 : AC := .reg l_law08_WearLess_2
def ac_law08_WearLess_3 : AC := .seq ac_law08_WearLess_2 .ret
def ac_law08_WearLess_4 : AC := .cond (.t 13) ac_law08_WearLess_3 .skip
def ac_law08_WearLess_5 : AC := .seq ac_law08_WearLess_1 ac_law08_WearLess_4
def l_law08_WearLess_6 : List AOp := [⟨(some 15), .mv (.t 0), none, none, [], none⟩,
  ⟨(some 16), .call false 12 [(.t 15)], none, none, [], none⟩,
  ⟨(some 17), .mv (.t 0), none, none, [], none⟩,
  ⟨(some 18), .call false 9 [(.t 17)], none, none, [], none⟩,
  ⟨(some 19), .mv (.t 0), none, none, [], none⟩,
  ⟨(some 20), .mv (.t 1), none, none, [], none⟩,
  ⟨(some 21), .call false 17 [(.t 19), (.t 20)], none, none, [], none⟩,
  ⟨(some 5), .mv (.t 16), none, none, [], none⟩,
  ⟨(some 6), .mv (.t 18), none, none, [], none⟩,
  ⟨(some 7), .mv (.t 21), none, none, [], none⟩]
def ac_law08_WearLess_6 : AC := .reg l_law08_WearLess_6
def l_law08_WearLess_7 : List AOp := [⟨(some 22), .mv (.t 5), none, none, [], none⟩,
  ⟨(some 23), .mv (.t 0), none, none, [], none⟩,
  ⟨(some 24), .len (.t 23), none, none, [], none⟩,
  ⟨(some 25), .bin .geq (.t 22) (.t 24), none, none, [], none⟩,
  ⟨(some 26), .mv (.t 25), none, none, [], none⟩,
  ⟨(some 27), .mv (.t 6), (some (26, false)), none, [], none⟩,
  ⟨(some 28), .mv (.t 0), (some (26, false)), none, [], none⟩,
  ⟨(some 29), .len (.t 28), (some (26, false)), none, [], none⟩,
  ⟨(some 30), .bin .geq (.t 27) (.t 29), (some (26, false)), none, [], none⟩,
  ⟨(some 31), .pick (.t 26) (.k (.bool true)) (.t 30), none, none, [], none⟩,
  ⟨(some 32), .mv (.t 31), none, none, [], none⟩,
  ⟨(some 33), .mv (.t 7), (some (32, false)), none, [], none⟩,
  ⟨(some 34), .mv (.t 0), (some (32, false)), none, [], none⟩,
  ⟨(some 35), .len (.t 34), (some (32, false)), none, [], none⟩,
  ⟨(some 36), .bin .geq (.t 33) (.t 35), (some (32, false)), none, [], none⟩,
  ⟨(some 37), .pick (.t 32) (.k (.bool true)) (.t 36), none, none, [], none⟩,
  ⟨(some 38), .mv (.t 37), none, none, [], none⟩,
  ⟨(some 39), .mv (.t 5), (some (38, false)), none, [], none⟩,
  ⟨(some 40), .bin .lss (.t 39) (.k (.int .i64 (-1))), (some (38, false)), none, [], none⟩,
  ⟨(some 41), .pick (.t 38) (.k (.bool true)) (.t 40), none, none, [], none⟩,
  ⟨(some 42), .mv (.t 41), none, none, [], none⟩,
  ⟨(some 43), .mv (.t 6), (some (42, false)), none, [], none⟩,
  ⟨(some 44), .bin .lss (.t 43) (.k (.int .i64 (-1))), (some (42, false)), none, [], none⟩,
  ⟨(some 45), .pick (.t 42) (.k (.bool true)) (.t 44), none, none, [], none⟩,
  ⟨(some 46), .mv (.t 45), none, none, [], none⟩,
  ⟨(some 47), .mv (.t 7), (some (46, false)), none, [], none⟩,
  ⟨(some 48), .bin .lss (.t 47) (.k (.int .i64 (-1))), (some (46, false)), none, [], none⟩,
  ⟨(some 49), .pick (.t 46) (.k (.bool true)) (.t 48), none, none, [], none⟩]
def ac_law08_WearLess_7 : AC := .reg l_law08_WearLess_7
def l_law08_WearLess_8 : List AOp := [⟨(some 4), .mv (.k (.bool false)), none, none, [], none⟩]
def ac_law08_WearLess_8 : AC := .reg l_law08_WearLess_8
def ac_law08_WearLess_9 : AC := .seq ac_law08_WearLess_8 .ret
def ac_law08_WearLess_10 : AC := .cond (.t 49) ac_law08_WearLess_9 .skip
def ac_law08_WearLess_11 : AC := .seq ac_law08_WearLess_7 ac_law08_WearLess_10
def l_law08_WearLess_12 : List AOp := [⟨(some 8), .mv (.k (.bool false)), none, none, [], none⟩]
def ac_law08_WearLess_12 : AC := .reg l_law08_WearLess_12
def l_law08_WearLess_13 : List AOp := [⟨(some 9), .mv (.k (.int .i64 0)), none, none, [], none⟩]
def ac_law08_WearLess_13 : AC := .reg l_law08_WearLess_13
def l_law08_WearLess_14 : List AOp := [⟨(some 50), .mv (.t 9), none, none, [], none⟩,
  ⟨(some 51), .mv (.t 0), none, none, [], none⟩,
  ⟨(some 52), .len (.t 51), none, none, [], none⟩,
  ⟨(some 53), .bin .lss (.t 50) (.t 52), none, none, [], none⟩]
def ac_law08_WearLess_14 : AC := .reg l_law08_WearLess_14
def ac_law08_WearLess_15 : AC := .cond (.t 53) .skip (.exit 0)
def ac_law08_WearLess_16 : AC := .seq ac_law08_WearLess_14 ac_law08_WearLess_15
def l_law08_WearLess_17 : List AOp := [⟨(some 56), .mv (.t 0), none, none, [], none⟩,
  ⟨(some 57), .mv (.t 9), none, none, [], none⟩,
  ⟨(some 58), .isl 3 (.t 56) (.t 57), none, none, [], none⟩,
  ⟨(some 59), .load (some 3) (.t 58), none, none, [], none⟩,
  ⟨(some 10), .alloc [(.int .i64 0), (.int .i64 0), (.int .i64 0)], none, none, [], none⟩,
  ⟨none, .store 3 (.t 10) (.t 59), none, none, [], none⟩]
def ac_law08_WearLess_17 : AC := .reg l_law08_WearLess_17
def l_law08_WearLess_18 : List AOp := [⟨(some 60), .mv (.t 8), none, none, [], none⟩,
  ⟨(some 61), .mv (.t 60), none, none, [], none⟩,
  ⟨(some 62), .faddr 0 (.t 10), (some (61, false)), none, [], none⟩,
  ⟨(some 63), .load none (.t 62), (some (61, false)), none, [], none⟩,
  ⟨(some 64), .bin .eql (.t 63) (.k (.int .i64 3)), (some (61, false)), none, [], none⟩,
  ⟨(some 65), .mv (.t 64), (some (61, false)), none, [], none⟩,
  ⟨(some 66), .faddr 1 (.t 10), (some (65, true)), none, [], none⟩,
  ⟨(some 67), .load none (.t 66), (some (65, true)), none, [], none⟩,
  ⟨(some 68), .bin .gtr (.t 67) (.k (.int .i64 0)), (some (65, true)), none, [], none⟩,
  ⟨(some 69), .pick (.t 65) (.t 68) (.k (.bool false)), (some (61, false)), none, [], none⟩,
  ⟨(some 70), .pick (.t 61) (.k (.bool true)) (.t 69), none, none, [], none⟩,
  ⟨(some 8), .mv (.t 70), none, none, [], none⟩]
def ac_law08_WearLess_18 : AC := .reg l_law08_WearLess_18
def l_law08_WearLess_19 : List AOp := [⟨(some 71), .faddr 0 (.t 10), none, none, [], none⟩,
  ⟨(some 72), .load none (.t 71), none, none, [], none⟩,
  ⟨(some 73), .bin .eql (.t 72) (.k (.int .i64 0)), none, none, [], none⟩,
  ⟨(some 74), .mv (.t 73), none, none, [], none⟩,
  ⟨(some 75), .mv (.t 5), (some (74, true)), none, [], none⟩,
  ⟨(some 76), .bin .lss (.t 75) (.k (.int .i64 0)), (some (74, true)), none, [], none⟩,
  ⟨(some 77), .mv (.t 76), (some (74, true)), none, [], none⟩,
  ⟨(some 78), .faddr 2 (.t 10), (some (77, false)), none, [], none⟩,
  ⟨(some 79), .load none (.t 78), (some (77, false)), none, [], none⟩,
  ⟨(some 80), .mm true [(.t 79), (.k (.int .i64 0))], (some (77, false)), none, [], none⟩,
  ⟨(some 81), .mv (.t 0), (some (77, false)), none, [], none⟩,
  ⟨(some 82), .mv (.t 5), (some (77, false)), none, [], none⟩,
  ⟨(some 83), .isl 3 (.t 81) (.t 82), (some (77, false)), none, [], none⟩,
  ⟨(some 84), .faddr 2 (.t 83), (some (77, false)), none, [], none⟩,
  ⟨(some 85), .load none (.t 84), (some (77, false)), none, [], none⟩,
  ⟨(some 86), .mm true [(.t 85), (.k (.int .i64 0))], (some (77, false)), none, [], none⟩,
  ⟨(some 87), .bin .lss (.t 80) (.t 86), (some (77, false)), none, [], none⟩,
  ⟨(some 88), .pick (.t 77) (.k (.bool true)) (.t 87), (some (74, true)), none, [], none⟩,
  ⟨(some 89), .pick (.t 74) (.t 88) (.k (.bool false)), none, none, [], none⟩]
def ac_law08_WearLess_19 : AC := .dreg 0 l_law08_WearLess_19
def l_law08_WearLess_20 : List AOp := [⟨(some 4), .mv (.k (.bool false)), none, none, [], none⟩]
def ac_law08_WearLess_20 : AC := .reg l_law08_WearLess_20
def ac_law08_WearLess_21 : AC := .seq ac_law08_WearLess_20 .ret
def ac_law08_WearLess_22 : AC := .cond (.t 89) ac_law08_WearLess_21 .skip
def ac_law08_WearLess_23 : AC := .seq ac_law08_WearLess_19 ac_law08_WearLess_22
def l_law08_WearLess_24 : List AOp := [⟨(some 90), .faddr 0 (.t 10), none, none, [], none⟩,
  ⟨(some 91), .load none (.t 90), none, none, [], none⟩,
  ⟨(some 92), .bin .eql (.t 91) (.k (.int .i64 2)), none, none, [], none⟩,
  ⟨(some 93), .mv (.t 92), none, none, [], none⟩,
  ⟨(some 94), .mv (.t 6), (some (93, true)), none, [], none⟩,
  ⟨(some 95), .bin .lss (.t 94) (.k (.int .i64 0)), (some (93, true)), none, [], none⟩,
  ⟨(some 96), .mv (.t 95), (some (93, true)), none, [], none⟩,
  ⟨(some 97), .mv (.t 0), (some (96, false)), none, [], none⟩,
  ⟨(some 98), .mv (.t 6), (some (96, false)), none, [], none⟩,
  ⟨(some 99), .isl 3 (.t 97) (.t 98), (some (96, false)), none, [], none⟩,
  ⟨(some 100), .faddr 0 (.t 99), (some (96, false)), none, [], none⟩,
  ⟨(some 101), .load none (.t 100), (some (96, false)), none, [], none⟩,
  ⟨(some 102), .bin .eql (.t 101) (.k (.int .i64 2)), (some (96, false)), none, [], none⟩,
  ⟨(some 103), .mv (.t 102), (some (96, false)), none, [], none⟩,
  ⟨(some 104), .faddr 1 (.t 10), (some (103, true)), none, [], none⟩,
  ⟨(some 105), .load none (.t 104), (some (103, true)), none, [], none⟩,
  ⟨(some 106), .mv (.t 0), (some (103, true)), none, [], none⟩,
  ⟨(some 107), .mv (.t 6), (some (103, true)), none, [], none⟩,
  ⟨(some 108), .isl 3 (.t 106) (.t 107), (some (103, true)), none, [], none⟩,
  ⟨(some 109), .faddr 1 (.t 108), (some (103, true)), none, [], none⟩,
  ⟨(some 110), .load none (.t 109), (some (103, true)), none, [], none⟩,
  ⟨(some 111), .bin .lss (.t 105) (.t 110), (some (103, true)), none, [], none⟩,
  ⟨(some 112), .pick (.t 103) (.t 111) (.k (.bool false)), (some (96, false)), none, [], none⟩,
  ⟨(some 113), .pick (.t 96) (.k (.bool true)) (.t 112), (some (93, true)), none, [], none⟩,
  ⟨(some 114), .mv (.t 113), (some (93, true)), none, [], none⟩,
  ⟨(some 115), .mv (.t 7), (some (114, false)), none, [], none⟩,
  ⟨(some 116), .bin .geq (.t 115) (.k (.int .i64 0)), (some (114, false)), none, [], none⟩,
  ⟨(some 117), .mv (.t 116), (some (114, false)), none, [], none⟩,
  ⟨(some 118), .faddr 2 (.t 10), (some (117, true)), none, [], none⟩,
  ⟨(some 119), .load none (.t 118), (some (117, true)), none, [], none⟩,
  ⟨(some 120), .mm true [(.t 119), (.k (.int .i64 0))], (some (117, true)), none, [], none⟩,
  ⟨(some 121), .mv (.t 0), (some (117, true)), none, [], none⟩,
  ⟨(some 122), .mv (.t 7), (some (117, true)), none, [], none⟩,
  ⟨(some 123), .isl 3 (.t 121) (.t 122), (some (117, true)), none, [], none⟩,
  ⟨(some 124), .faddr 2 (.t 123), (some (117, true)), none, [], none⟩,
  ⟨(some 125), .load none (.t 124), (some (117, true)), none, [], none⟩,
  ⟨(some 126), .mm true [(.t 125), (.k (.int .i64 0))], (some (117, true)), none, [], none⟩,
  ⟨(some 127), .bin .lss (.t 120) (.t 126), (some (117, true)), none, [], none⟩,
  ⟨(some 128), .pick (.t 117) (.t 127) (.k (.bool false)), (some (114, false)), none, [], none⟩,
  ⟨(some 129), .pick (.t 114) (.k (.bool true)) (.t 128), (some (93, true)), none, [], none⟩,
  ⟨(some 130), .pick (.t 93) (.t 129) (.k (.bool false)), none, none, [], none⟩]
def ac_law08_WearLess_24 : AC := .dreg 0 l_law08_WearLess_24
def l_law08_WearLess_25 : List AOp := [⟨(some 4), .mv (.k (.bool false)), none, none, [], none⟩]
def ac_law08_WearLess_25 : AC := .reg l_law08_WearLess_25
def ac_law08_WearLess_26 : AC := .seq ac_law08_WearLess_25 .ret
def ac_law08_WearLess_27 : AC := .cond (.t 130) ac_law08_WearLess_26 .skip
def ac_law08_WearLess_28 : AC := .seq ac_law08_WearLess_24 ac_law08_WearLess_27
def ac_law08_WearLess_29 : AC := .seq ac_law08_WearLess_23 ac_law08_WearLess_28
def ac_law08_WearLess_30 : AC := .seq ac_law08_WearLess_18 ac_law08_WearLess_29
def ac_law08_WearLess_31 : AC := .seq ac_law08_WearLess_17 ac_law08_WearLess_30
def ac_law08_WearLess_32 : AC := .block 1 ac_law08_WearLess_31
def l_law08_WearLess_33 : List AOp := [⟨(some 54), .mv (.t 9), none, none, [], none⟩,
  ⟨(some 55), .bin .add (.t 54) (.k (.int .i64 1)), none, none, [], none⟩,
  ⟨(some 9), .mv (.t 55), none, none, [], none⟩]
def ac_law08_WearLess_33 : AC := .reg l_law08_WearLess_33
def ac_law08_WearLess_34 : AC := .seq ac_law08_WearLess_32 ac_law08_WearLess_33
def ac_law08_WearLess_35 : AC := .seq ac_law08_WearLess_16 ac_law08_WearLess_34
def ac_law08_WearLess_36 : AC := .loop [0, 5, 6, 7, 8, 9] 0 ac_law08_WearLess_35
def ac_law08_WearLess_37 : AC := .block 0 ac_law08_WearLess_36
def ac_law08_WearLess_38 : AC := .seq ac_law08_WearLess_13 ac_law08_WearLess_37
def l_law08_WearLess_39 : List AOp := [⟨(some 131), .mv (.t 5), none, none, [], none⟩,
  ⟨(some 132), .bin .geq (.t 131) (.k (.int .i64 0)), none, none, [], none⟩,
  ⟨(some 133), .mv (.t 132), none, none, [], none⟩,
  ⟨(some 134), .mv (.t 0), (some (133, true)), none, [], none⟩,
  ⟨(some 135), .mv (.t 5), (some (133, true)), none, [], none⟩,
  ⟨(some 136), .isl 3 (.t 134) (.t 135), (some (133, true)), none, [], none⟩,
  ⟨(some 137), .faddr 0 (.t 136), (some (133, true)), none, [], none⟩,
  ⟨(some 138), .load none (.t 137), (some (133, true)), none, [], none⟩,
  ⟨(some 139), .bin .neq (.t 138) (.k (.int .i64 0)), (some (133, true)), none, [], none⟩,
  ⟨(some 140), .pick (.t 133) (.t 139) (.k (.bool false)), none, none, [], none⟩,
  ⟨(some 141), .mv (.t 140), none, none, [], none⟩,
  ⟨(some 142), .mv (.t 7), (some (141, false)), none, [], none⟩,
  ⟨(some 143), .bin .geq (.t 142) (.k (.int .i64 0)), (some (141, false)), none, [], none⟩,
  ⟨(some 144), .mv (.t 143), (some (141, false)), none, [], none⟩,
  ⟨(some 145), .mv (.t 0), (some (144, true)), none, [], none⟩,
  ⟨(some 146), .mv (.t 7), (some (144, true)), none, [], none⟩,
  ⟨(some 147), .isl 3 (.t 145) (.t 146), (some (144, true)), none, [], none⟩,
  ⟨(some 148), .faddr 0 (.t 147), (some (144, true)), none, [], none⟩,
  ⟨(some 149), .load none (.t 148), (some (144, true)), none, [], none⟩,
  ⟨(some 150), .bin .neq (.t 149) (.k (.int .i64 2)), (some (144, true)), none, [], none⟩,
  ⟨(some 151), .pick (.t 144) (.t 150) (.k (.bool false)), (some (141, false)), none, [], none⟩,
  ⟨(some 152), .pick (.t 141) (.k (.bool true)) (.t 151), none, none, [], none⟩]
def ac_law08_WearLess_39 : AC := .reg l_law08_WearLess_39
def l_law08_WearLess_40 : List AOp := [⟨(some 4), .mv (.k (.bool false)), none, none, [], none⟩]
def ac_law08_WearLess_40 : AC := .reg l_law08_WearLess_40
def ac_law08_WearLess_41 : AC := .seq ac_law08_WearLess_40 .ret
def ac_law08_WearLess_42 : AC := .cond (.t 152) ac_law08_WearLess_41 .skip
def ac_law08_WearLess_43 : AC := .seq ac_law08_WearLess_39 ac_law08_WearLess_42
def l_law08_WearLess_44 : List AOp := [⟨(some 153), .call false 8 [], none, none, [], none⟩,
  ⟨(some 154), .mv (.t 153), none, none, [], none⟩,
  ⟨(some 155), .mv (.t 6), (some (154, true)), none, [], none⟩,
  ⟨(some 156), .bin .lss (.t 155) (.k (.int .i64 0)), (some (154, true)), none, [], none⟩,
  ⟨(some 157), .mv (.t 156), (some (154, true)), none, [], none⟩,
  ⟨(some 158), .mv (.t 8), (some (157, true)), none, [], none⟩,
  ⟨(some 159), .un .not (.t 158), (some (157, true)), none, [], none⟩,
  ⟨(some 160), .pick (.t 157) (.t 159) (.k (.bool false)), (some (154, true)), none, [], none⟩,
  ⟨(some 161), .mv (.t 160), (some (154, true)), none, [], none⟩,
  ⟨(some 162), .mv (.t 6), (some (161, false)), none, [], none⟩,
  ⟨(some 163), .bin .geq (.t 162) (.k (.int .i64 0)), (some (161, false)), none, [], none⟩,
  ⟨(some 164), .mv (.t 163), (some (161, false)), none, [], none⟩,
  ⟨(some 165), .mv (.t 8), (some (164, true)), none, [], none⟩,
  ⟨(some 166), .mv (.t 165), (some (164, true)), none, [], none⟩,
  ⟨(some 167), .mv (.t 0), (some (166, true)), none, [], none⟩,
  ⟨(some 168), .mv (.t 6), (some (166, true)), none, [], none⟩,
  ⟨(some 169), .isl 3 (.t 167) (.t 168), (some (166, true)), none, [], none⟩,
  ⟨(some 170), .faddr 0 (.t 169), (some (166, true)), none, [], none⟩,
  ⟨(some 171), .load none (.t 170), (some (166, true)), none, [], none⟩,
  ⟨(some 172), .bin .eql (.t 171) (.k (.int .i64 3)), (some (166, true)), none, [], none⟩,
  ⟨(some 173), .pick (.t 166) (.t 172) (.k (.bool false)), (some (164, true)), none, [], none⟩,
  ⟨(some 174), .mv (.t 173), (some (164, true)), none, [], none⟩,
  ⟨(some 175), .mv (.t 0), (some (174, true)), none, [], none⟩,
  ⟨(some 176), .mv (.t 6), (some (174, true)), none, [], none⟩,
  ⟨(some 177), .isl 3 (.t 175) (.t 176), (some (174, true)), none, [], none⟩,
  ⟨(some 178), .faddr 1 (.t 177), (some (174, true)), none, [], none⟩,
  ⟨(some 179), .load none (.t 178), (some (174, true)), none, [], none⟩,
  ⟨(some 180), .bin .gtr (.t 179) (.k (.int .i64 0)), (some (174, true)), none, [], none⟩,
  ⟨(some 181), .pick (.t 174) (.t 180) (.k (.bool false)), (some (164, true)), none, [], none⟩,
  ⟨(some 182), .mv (.t 181), (some (164, true)), none, [], none⟩,
  ⟨(some 183), .mv (.t 8), (some (182, false)), none, [], none⟩,
  ⟨(some 184), .un .not (.t 183), (some (182, false)), none, [], none⟩,
  ⟨(some 185), .mv (.t 184), (some (182, false)), none, [], none⟩,
  ⟨(some 186), .mv (.t 0), (some (185, true)), none, [], none⟩,
  ⟨(some 187), .mv (.t 6), (some (185, true)), none, [], none⟩,
  ⟨(some 188), .isl 3 (.t 186) (.t 187), (some (185, true)), none, [], none⟩,
  ⟨(some 189), .faddr 0 (.t 188), (some (185, true)), none, [], none⟩,
  ⟨(some 190), .load none (.t 189), (some (185, true)), none, [], none⟩,
  ⟨(some 191), .bin .eql (.t 190) (.k (.int .i64 2)), (some (185, true)), none, [], none⟩,
  ⟨(some 192), .pick (.t 185) (.t 191) (.k (.bool false)), (some (182, false)), none, [], none⟩,
  ⟨(some 193), .pick (.t 182) (.k (.bool true)) (.t 192), (some (164, true)), none, [], none⟩,
  ⟨(some 194), .pick (.t 164) (.t 193) (.k (.bool false)), (some (161, false)), none, [], none⟩,
  ⟨(some 195), .pick (.t 161) (.k (.bool true)) (.t 194), (some (154, true)), none, [], none⟩,
  ⟨(some 196), .pick (.t 154) (.t 195) (.k (.bool false)), none, none, [], none⟩,
  ⟨(some 4), .mv (.t 196), none, none, [], none⟩]
def ac_law08_WearLess_44 : AC := .reg l_law08_WearLess_44
def ac_law08_WearLess_45 : AC := .seq ac_law08_WearLess_44 .ret
def ac_law08_WearLess_46 : AC := .seq ac_law08_WearLess_43 ac_law08_WearLess_45
def ac_law08_WearLess_47 : AC := .seq ac_law08_WearLess_38 ac_law08_WearLess_46
def ac_law08_WearLess_48 : AC := .seq ac_law08_WearLess_12 ac_law08_WearLess_47
def ac_law08_WearLess_49 : AC := .seq ac_law08_WearLess_11 ac_law08_WearLess_48
def ac_law08_WearLess_50 : AC := .seq ac_law08_WearLess_6 ac_law08_WearLess_49
def ac_law08_WearLess_51 : AC := .seq ac_law08_WearLess_5 ac_law08_WearLess_50
def ac_law08_WearLess_52 : AC := .seq ac_law08_WearLess_0 ac_law08_WearLess_51
def ac_law08_WearLess : AC := ac_law08_WearLess_52
theorem comp_law08_WearLess : compF Try.prog [] (drawR Try.prog [] Try.f6.ntmps) [([0, 5, 6, 7, 8, 9], 0)] 2 Try.f6 = some (ac_law08_WearLess, [.t 4]) := by kernel_rfl
def U_law08_WearLess := (And.intro (And.intro (And.intro (And.intro (And.intro (And.intro (And.intro @ac_law08_WearLess.eq_1 (@mR _ _ ac_law08_WearLess_0.eq_1)) (@mR _ _ ac_law08_WearLess_1.eq_1)) (And.intro (@mR _ _ ac_law08_WearLess_2.eq_1) (@mU _ _ ac_law08_WearLess_3.eq_1))) (And.intro (And.intro (And.intro (@mU _ _ ac_law08_WearLess_4.eq_1) (@mU _ _ ac_law08_WearLess_5.eq_1)) (@mR _ _ ac_law08_WearLess_6.eq_1)) (And.intro (@mR _ _ ac_law08_WearLess_7.eq_1) (@mR _ _ ac_law08_WearLess_8.eq_1)))) (And.intro (And.intro (And.intro (And.intro (@mU _ _ ac_law08_WearLess_9.eq_1) (@mU _ _ ac_law08_WearLess_10.eq_1)) (@mU _ _ ac_law08_WearLess_11.eq_1)) (And.intro (@mR _ _ ac_law08_WearLess_12.eq_1) (@mR _ _ ac_law08_WearLess_13.eq_1))) (And.intro (And.intro (@mR _ _ ac_law08_WearLess_14.eq_1) (@mU _ _ ac_law08_WearLess_15.eq_1)) (And.intro (@mU _ _ ac_law08_WearLess_16.eq_1) (@mR _ _ ac_law08_WearLess_17.eq_1))))) (And.intro (And.intro (And.intro (And.intro (And.intro (@mR _ _ ac_law08_WearLess_18.eq_1) (@mD _ _ _ ac_law08_WearLess_19.eq_1)) (@mR _ _ ac_law08_WearLess_20.eq_1)) (And.intro (@mU _ _ ac_law08_WearLess_21.eq_1) (@mU _ _ ac_law08_WearLess_22.eq_1))) (And.intro (And.intro (@mU _ _ ac_law08_WearLess_23.eq_1) (@mD _ _ _ ac_law08_WearLess_24.eq_1)) (And.intro (@mR _ _ ac_law08_WearLess_25.eq_1) (@mU _ _ ac_law08_WearLess_26.eq_1)))) (And.intro (And.intro (And.intro (And.intro (@mU _ _ ac_law08_WearLess_27.eq_1) (@mU _ _ ac_law08_WearLess_28.eq_1)) (@mU _ _ ac_law08_WearLess_29.eq_1)) (And.intro (@mU _ _ ac_law08_WearLess_30.eq_1) (@mU _ _ ac_law08_WearLess_31.eq_1))) (And.intro (And.intro (@mU _ _ ac_law08_WearLess_32.eq_1) (@mR _ _ ac_law08_WearLess_33.eq_1)) (And.intro (@mU _ _ ac_law08_WearLess_34.eq_1) (@mU _ _ ac_law08_WearLess_35.eq_1)))))) (And.intro (And.intro (And.intro (And.intro (And.intro (And.intro (@mU _ _ ac_law08_WearLess_36.eq_1) (@mU _ _ ac_law08_WearLess_37.eq_1)) (@mU _ _ ac_law08_WearLess_38.eq_1)) (And.intro (@mR _ _ ac_law08_WearLess_39.eq_1) (@mR _ _ ac_law08_WearLess_40.eq_1))) (And.intro (And.intro (@mU _ _ ac_law08_WearLess_41.eq_1) (@mU _ _ ac_law08_WearLess_42.eq_1)) (And.intro (@mU _ _ ac_law08_WearLess_43.eq_1) (@mR _ _ ac_law08_WearLess_44.eq_1)))) (And.intro (And.intro (And.intro (And.intro (@mU _ _ ac_law08_WearLess_45.eq_1) (@mU _ _ ac_law08_WearLess_46.eq_1)) (@mU _ _ ac_law08_WearLess_47.eq_1)) (And.intro (@mU _ _ ac_law08_WearLess_48.eq_1) (@mU _ _ ac_law08_WearLess_49.eq_1))) (And.intro (And.intro (@mU _ _ ac_law08_WearLess_50.eq_1) (@mU _ _ ac_law08_WearLess_51.eq_1)) (And.intro (@mU _ _ ac_law08_WearLess_52.eq_1) @l_law08_WearLess_0.eq_1)))) (And.intro (And.intro (And.intro (And.intro (And.intro @l_law08_WearLess_1.eq_1 @l_law08_WearLess_2.eq_1) @l_law08_WearLess_6.eq_1) (And.intro @l_law08_WearLess_7.eq_1 @l_law08_WearLess_8.eq_1)) (And.intro (And.intro @l_law08_WearLess_12.eq_1 @l_law08_WearLess_13.eq_1) (And.intro @l_law08_WearLess_14.eq_1 @l_law08_WearLess_17.eq_1))) (And.intro (And.intro (And.intro (And.intro @l_law08_WearLess_18.eq_1 @l_law08_WearLess_19.eq_1) @l_law08_WearLess_20.eq_1) (And.intro @l_law08_WearLess_24.eq_1 @l_law08_WearLess_25.eq_1)) (And.intro (And.intro @l_law08_WearLess_33.eq_1 @l_law08_WearLess_39.eq_1) (And.intro @l_law08_WearLess_40.eq_1 @l_law08_WearLess_44.eq_1))))))

/- scoria/scorialaw08.WearColds -/
def l_law08_WearColds_0 : List AOp := [⟨(some 4), .mv (.k (.bool false)), none, none, [], none⟩]
def ac_law08_WearColds_0 : AC := .reg l_law08_WearColds_0
def l_law08_WearColds_1 : List AOp := [⟨(some 5), .mv (.t 0), none, none, [], none⟩,
  ⟨(some 6), .len (.t 5), none, none, [], none⟩,
  ⟨(some 7), .bin .gtr (.t 6) (.k (.int .i64 300)), none, none, [], none⟩]
def ac_law08_WearColds_1 : AC := .reg l_law08_WearColds_1
def l_law08_WearColds_2 : List AOp := [⟨(some 8), .call false 8 [], none, none, [], none⟩,
  ⟨(some 4), .mv (.t 8), none, none, [], none⟩]
def ac_law08_WearColds_2 : AC := .reg l_law08_WearColds_2
def ac_law08_WearColds_3 : AC := .seq ac_law08_WearColds_2 .ret
def ac_law08_WearColds_4 : AC := .cond (.t 7) ac_law08_WearColds_3 .skip
def ac_law08_WearColds_5 : AC := .seq ac_law08_WearColds_1 ac_law08_WearColds_4
def l_law08_WearColds_6 : List AOp := [⟨(some 9), .call false 8 [], none, none, [], none⟩,
  ⟨(some 10), .mv (.t 9), none, none, [], none⟩,
  ⟨(some 11), .mv (.t 0), (some (10, true)), none, [], none⟩,
  ⟨(some 12), .call false 16 [(.t 11)], (some (10, true)), none, [], none⟩,
  ⟨(some 13), .mv (.t 0), (some (10, true)), none, [], none⟩,
  ⟨(some 14), .call false 11 [(.t 13)], (some (10, true)), none, [], none⟩,
  ⟨(some 15), .call false 18 [(.t 14)], (some (10, true)), none, [], none⟩,
  ⟨(some 16), .bin .eql (.t 12) (.t 15), (some (10, true)), none, [], none⟩,
  ⟨(some 17), .pick (.t 10) (.t 16) (.k (.bool false)), none, none, [], none⟩,
  ⟨(some 18), .mv (.t 17), none, none, [], none⟩,
  ⟨(some 19), .mv (.t 0), (some (18, true)), none, [], none⟩,
  ⟨(some 20), .mv (.t 1), (some (18, true)), none, [], none⟩,
  ⟨(some 21), .call false 17 [(.t 19), (.t 20)], (some (18, true)), none, [], none⟩,
  ⟨(some 22), .mv (.t 0), (some (18, true)), none, [], none⟩,
  ⟨(some 23), .call false 11 [(.t 22)], (some (18, true)), none, [], none⟩,
  ⟨(some 24), .mv (.t 1), (some (18, true)), none, [], none⟩,
  ⟨(some 25), .call false 19 [(.t 23), (.t 24)], (some (18, true)), none, [], none⟩,
  ⟨(some 26), .bin .eql (.t 21) (.t 25), (some (18, true)), none, [], none⟩,
  ⟨(some 27), .pick (.t 18) (.t 26) (.k (.bool false)), none, none, [], none⟩,
  ⟨(some 4), .mv (.t 27), none, none, [], none⟩]
def ac_law08_WearColds_6 : AC := .reg l_law08_WearColds_6
def ac_law08_WearColds_7 : AC := .seq ac_law08_WearColds_6 .ret
def ac_law08_WearColds_8 : AC := .seq ac_law08_WearColds_5 ac_law08_WearColds_7
def ac_law08_WearColds_9 : AC := .seq ac_law08_WearColds_0 ac_law08_WearColds_8
def ac_law08_WearColds : AC := ac_law08_WearColds_9
theorem comp_law08_WearColds : compF Try.prog [] (drawR Try.prog [] Try.f7.ntmps) [] 2 Try.f7 = some (ac_law08_WearColds, [.t 4]) := by kernel_rfl
def U_law08_WearColds := (And.intro (And.intro (And.intro (And.intro @ac_law08_WearColds.eq_1 (@mR _ _ ac_law08_WearColds_0.eq_1)) (And.intro (@mR _ _ ac_law08_WearColds_1.eq_1) (@mR _ _ ac_law08_WearColds_2.eq_1))) (And.intro (And.intro (@mU _ _ ac_law08_WearColds_3.eq_1) (@mU _ _ ac_law08_WearColds_4.eq_1)) (And.intro (@mU _ _ ac_law08_WearColds_5.eq_1) (@mR _ _ ac_law08_WearColds_6.eq_1)))) (And.intro (And.intro (And.intro (@mU _ _ ac_law08_WearColds_7.eq_1) (@mU _ _ ac_law08_WearColds_8.eq_1)) (And.intro (@mU _ _ ac_law08_WearColds_9.eq_1) @l_law08_WearColds_0.eq_1)) (And.intro (And.intro @l_law08_WearColds_1.eq_1 @l_law08_WearColds_2.eq_1) @l_law08_WearColds_6.eq_1)))

/- scoria/scorialaw08.awake -/
def l_law08_awake_0 : List AOp := [⟨(some 0), .mv (.k (.bool false)), none, none, [], none⟩]
def ac_law08_awake_0 : AC := .reg l_law08_awake_0
def l_law08_awake_1 : List AOp := [⟨(some 1), .build [(.int .i64 0), (.int .i64 0), (.int .i64 0)] [(2, 1, (.k (.int .i64 2)))], none, none, [], none⟩,
  ⟨(some 2), .build [(.int .i64 0), (.int .i64 0), (.int .i64 0)] [(2, 1, (.k (.int .i64 1)))], none, none, [], none⟩,
  ⟨(some 3), .build [(.int .i64 0), (.int .i64 0), (.int .i64 0)] [(2, 1, (.k (.int .i64 1)))], none, none, [], none⟩,
  ⟨(some 4), .blds false [(.int .i64 0), (.int .i64 0), (.int .i64 0)] 3 [(0, (.t 1)), (1, (.t 2)), (2, (.t 3))], none, none, [], none⟩,
  ⟨(some 5), .call false 12 [(.t 4)], none, none, [], none⟩,
  ⟨(some 6), .bin .eql (.t 5) (.k (.int .i64 1)), none, none, [], none⟩,
  ⟨(some 7), .mv (.t 6), none, none, [], none⟩,
  ⟨(some 8), .build [(.int .i64 0), (.int .i64 0), (.int .i64 0)] [(0, 1, (.k (.int .i64 2))), (1, 1, (.k (.int .i64 3)))], (some (7, true)), none, [], none⟩,
  ⟨(some 9), .build [(.int .i64 0), (.int .i64 0), (.int .i64 0)] [(0, 1, (.k (.int .i64 2)))], (some (7, true)), none, [], none⟩,
  ⟨(some 10), .build [(.int .i64 0), (.int .i64 0), (.int .i64 0)] [(0, 1, (.k (.int .i64 3))), (1, 1, (.k (.int .i64 2)))], (some (7, true)), none, [], none⟩,
  ⟨(some 11), .blds false [(.int .i64 0), (.int .i64 0), (.int .i64 0)] 3 [(0, (.t 8)), (1, (.t 9)), (2, (.t 10))], (some (7, true)), none, [], none⟩,
  ⟨(some 12), .call false 9 [(.t 11)], (some (7, true)), none, [], none⟩,
  ⟨(some 13), .bin .eql (.t 12) (.k (.int .i64 2)), (some (7, true)), none, [], none⟩,
  ⟨(some 14), .pick (.t 7) (.t 13) (.k (.bool false)), none, none, [], none⟩,
  ⟨(some 15), .mv (.t 14), none, none, [], none⟩,
  ⟨(some 16), .call false 12 [(.k (.slc []))], (some (15, true)), none, [], none⟩,
  ⟨(some 17), .bin .eql (.t 16) (.k (.int .i64 (-1))), (some (15, true)), none, [], none⟩,
  ⟨(some 18), .pick (.t 15) (.t 17) (.k (.bool false)), none, none, [], none⟩,
  ⟨(some 0), .mv (.t 18), none, none, [], none⟩]
def ac_law08_awake_1 : AC := .reg l_law08_awake_1
def ac_law08_awake_2 : AC := .seq ac_law08_awake_1 .ret
def ac_law08_awake_3 : AC := .seq ac_law08_awake_0 ac_law08_awake_2
def ac_law08_awake : AC := ac_law08_awake_3
theorem comp_law08_awake : compF Try.prog [] (drawR Try.prog [] Try.f8.ntmps) [] 0 Try.f8 = some (ac_law08_awake, [.t 0]) := by kernel_rfl
def U_law08_awake := (And.intro (And.intro (And.intro @ac_law08_awake.eq_1 (@mR _ _ ac_law08_awake_0.eq_1)) (And.intro (@mR _ _ ac_law08_awake_1.eq_1) (@mU _ _ ac_law08_awake_2.eq_1))) (And.intro (And.intro (@mU _ _ ac_law08_awake_3.eq_1) @l_law08_awake_0.eq_1) @l_law08_awake_1.eq_1))

/- scoria/wear.Victim -/
def l_wear_Victim_0 : List AOp := [⟨(some 2), .mv (.k (.int .i64 0)), none, none, [], none⟩]
def ac_wear_Victim_0 : AC := .reg l_wear_Victim_0
def l_wear_Victim_1 : List AOp := [⟨(some 3), .mv (.k (.fn (.func 20) [] [])), none, none, [], none⟩]
def ac_wear_Victim_1 : AC := .reg l_wear_Victim_1
def l_wear_Victim_2 : List AOp := [⟨(some 5), .mv (.t 0), none, none, [], none⟩,
  ⟨(some 6), .mv (.t 3), none, none, [], none⟩,
  ⟨(some 7), .call false 21 [(.t 5), (.t 6), (.k (.fn (.func 22) [] []))], none, none, [], none⟩,
  ⟨(some 4), .mv (.t 7), none, none, [], none⟩]
def ac_wear_Victim_2 : AC := .reg l_wear_Victim_2
def l_wear_Victim_3 : List AOp := [⟨(some 8), .mv (.t 4), none, none, [], none⟩,
  ⟨(some 9), .bin .geq (.t 8) (.k (.int .i64 0)), none, none, [], none⟩]
def ac_wear_Victim_3 : AC := .reg l_wear_Victim_3
def l_wear_Victim_4 : List AOp := [⟨(some 10), .mv (.t 4), none, none, [], none⟩,
  ⟨(some 2), .mv (.t 10), none, none, [], none⟩]
def ac_wear_Victim_4 : AC := .reg l_wear_Victim_4
def ac_wear_Victim_5 : AC := .seq ac_wear_Victim_4 .ret
def ac_wear_Victim_6 : AC := .cond (.t 9) ac_wear_Victim_5 .skip
def ac_wear_Victim_7 : AC := .seq ac_wear_Victim_3 ac_wear_Victim_6
def ac_wear_Victim_8 : AC := .seq ac_wear_Victim_2 ac_wear_Victim_7
def l_wear_Victim_9 : List AOp := [⟨(some 11), .mv (.t 0), none, none, [], none⟩,
  ⟨(some 12), .call false 23 [(.k (.int .i64 2))], none, none, [], none⟩,
  ⟨(some 13), .call false 21 [(.t 11), (.t 12), (.k (.fn (.func 24) [] []))], none, none, [], none⟩,
  ⟨(some 2), .mv (.t 13), none, none, [], none⟩]
def ac_wear_Victim_9 : AC := .reg l_wear_Victim_9
def ac_wear_Victim_10 : AC := .seq ac_wear_Victim_9 .ret
def ac_wear_Victim_11 : AC := .seq ac_wear_Victim_8 ac_wear_Victim_10
def ac_wear_Victim_12 : AC := .seq ac_wear_Victim_1 ac_wear_Victim_11
def ac_wear_Victim_13 : AC := .seq ac_wear_Victim_0 ac_wear_Victim_12
def ac_wear_Victim : AC := ac_wear_Victim_13
theorem comp_wear_Victim : compF Try.prog [] (drawR Try.prog [] Try.f9.ntmps) [] 1 Try.f9 = some (ac_wear_Victim, [.t 2]) := by kernel_rfl
def U_wear_Victim := (And.intro (And.intro (And.intro (And.intro (And.intro @ac_wear_Victim.eq_1 (@mR _ _ ac_wear_Victim_0.eq_1)) (@mR _ _ ac_wear_Victim_1.eq_1)) (And.intro (And.intro (@mR _ _ ac_wear_Victim_2.eq_1) (@mR _ _ ac_wear_Victim_3.eq_1)) (@mR _ _ ac_wear_Victim_4.eq_1))) (And.intro (And.intro (And.intro (@mU _ _ ac_wear_Victim_5.eq_1) (@mU _ _ ac_wear_Victim_6.eq_1)) (@mU _ _ ac_wear_Victim_7.eq_1)) (And.intro (@mU _ _ ac_wear_Victim_8.eq_1) (@mR _ _ ac_wear_Victim_9.eq_1)))) (And.intro (And.intro (And.intro (And.intro (@mU _ _ ac_wear_Victim_10.eq_1) (@mU _ _ ac_wear_Victim_11.eq_1)) (@mU _ _ ac_wear_Victim_12.eq_1)) (And.intro (@mU _ _ ac_wear_Victim_13.eq_1) @l_wear_Victim_0.eq_1)) (And.intro (And.intro (And.intro @l_wear_Victim_1.eq_1 @l_wear_Victim_2.eq_1) @l_wear_Victim_3.eq_1) (And.intro @l_wear_Victim_4.eq_1 @l_wear_Victim_9.eq_1))))

/- scoria/scoriaref08.Victim -/
def l_ref08_Victim_0 : List AOp := [⟨(some 2), .mv (.k (.int .i64 0)), none, none, [], none⟩]
def ac_ref08_Victim_0 : AC := .reg l_ref08_Victim_0
def l_ref08_Victim_1 : List AOp := [⟨(some 3), .mv (.k (.int .i64 0)), none, none, [], none⟩]
def ac_ref08_Victim_1 : AC := .reg l_ref08_Victim_1
def l_ref08_Victim_2 : List AOp := [⟨(some 6), .mv (.t 3), none, none, [], none⟩,
  ⟨(some 7), .mv (.t 0), none, none, [], none⟩,
  ⟨(some 8), .len (.t 7), none, none, [], none⟩,
  ⟨(some 9), .bin .lss (.t 6) (.t 8), none, none, [], none⟩]
def ac_ref08_Victim_2 : AC := .reg l_ref08_Victim_2
def ac_ref08_Victim_3 : AC := .cond (.t 9) .skip (.exit 0)
def ac_ref08_Victim_4 : AC := .seq ac_ref08_Victim_2 ac_ref08_Victim_3
def l_ref08_Victim_5 : List AOp := [⟨(some 12), .mv (.t 0), none, none, [], none⟩,
  ⟨(some 13), .mv (.t 3), none, none, [], none⟩,
  ⟨(some 14), .isl 3 (.t 12) (.t 13), none, none, [], none⟩,
  ⟨(some 15), .faddr 0 (.t 14), none, none, [], none⟩,
  ⟨(some 16), .load none (.t 15), none, none, [], none⟩,
  ⟨(some 17), .bin .eql (.t 16) (.k (.int .i64 3)), none, none, [], none⟩,
  ⟨(some 18), .mv (.t 17), none, none, [], none⟩,
  ⟨(some 19), .mv (.t 0), (some (18, true)), none, [], none⟩,
  ⟨(some 20), .mv (.t 3), (some (18, true)), none, [], none⟩,
  ⟨(some 21), .isl 3 (.t 19) (.t 20), (some (18, true)), none, [], none⟩,
  ⟨(some 22), .faddr 1 (.t 21), (some (18, true)), none, [], none⟩,
  ⟨(some 23), .load none (.t 22), (some (18, true)), none, [], none⟩,
  ⟨(some 24), .bin .gtr (.t 23) (.k (.int .i64 0)), (some (18, true)), none, [], none⟩,
  ⟨(some 25), .pick (.t 18) (.t 24) (.k (.bool false)), none, none, [], none⟩]
def ac_ref08_Victim_5 : AC := .reg l_ref08_Victim_5
def l_ref08_Victim_6 : List AOp := [⟨(some 26), .mv (.t 3), none, none, [], none⟩,
  ⟨(some 2), .mv (.t 26), none, none, [], none⟩]
def ac_ref08_Victim_6 : AC := .reg l_ref08_Victim_6
def ac_ref08_Victim_7 : AC := .seq ac_ref08_Victim_6 .ret
def ac_ref08_Victim_8 : AC := .cond (.t 25) ac_ref08_Victim_7 .skip
def ac_ref08_Victim_9 : AC := .seq ac_ref08_Victim_5 ac_ref08_Victim_8
def ac_ref08_Victim_10 : AC := .block 1 ac_ref08_Victim_9
def l_ref08_Victim_11 : List AOp := [⟨(some 10), .mv (.t 3), none, none, [], none⟩,
  ⟨(some 11), .bin .add (.t 10) (.k (.int .i64 1)), none, none, [], none⟩,
  ⟨(some 3), .mv (.t 11), none, none, [], none⟩]
def ac_ref08_Victim_11 : AC := .reg l_ref08_Victim_11
def ac_ref08_Victim_12 : AC := .seq ac_ref08_Victim_10 ac_ref08_Victim_11
def ac_ref08_Victim_13 : AC := .seq ac_ref08_Victim_4 ac_ref08_Victim_12
def ac_ref08_Victim_14 : AC := .loop [0, 3] 0 ac_ref08_Victim_13
def ac_ref08_Victim_15 : AC := .block 0 ac_ref08_Victim_14
def ac_ref08_Victim_16 : AC := .seq ac_ref08_Victim_1 ac_ref08_Victim_15
def l_ref08_Victim_17 : List AOp := [⟨(some 4), .mv (.k (.int .i64 (-1))), none, none, [], none⟩]
def ac_ref08_Victim_17 : AC := .reg l_ref08_Victim_17
def l_ref08_Victim_18 : List AOp := [⟨(some 5), .mv (.k (.int .i64 0)), none, none, [], none⟩]
def ac_ref08_Victim_18 : AC := .reg l_ref08_Victim_18
def l_ref08_Victim_19 : List AOp := [⟨(some 27), .mv (.t 5), none, none, [], none⟩,
  ⟨(some 28), .mv (.t 0), none, none, [], none⟩,
  ⟨(some 29), .len (.t 28), none, none, [], none⟩,
  ⟨(some 30), .bin .lss (.t 27) (.t 29), none, none, [], none⟩]
def ac_ref08_Victim_19 : AC := .reg l_ref08_Victim_19
def ac_ref08_Victim_20 : AC := .cond (.t 30) .skip (.exit 2)
def ac_ref08_Victim_21 : AC := .seq ac_ref08_Victim_19 ac_ref08_Victim_20
def l_ref08_Victim_22 : List AOp := [⟨(some 33), .mv (.t 0), none, none, [], none⟩,
  ⟨(some 34), .mv (.t 5), none, none, [], none⟩,
  ⟨(some 35), .isl 3 (.t 33) (.t 34), none, none, [], none⟩,
  ⟨(some 36), .faddr 0 (.t 35), none, none, [], none⟩,
  ⟨(some 37), .load none (.t 36), none, none, [], none⟩,
  ⟨(some 38), .bin .neq (.t 37) (.k (.int .i64 2)), none, none, [], none⟩]
def ac_ref08_Victim_22 : AC := .reg l_ref08_Victim_22
def ac_ref08_Victim_23 : AC := .cond (.t 38) (.exit 3) .skip
def ac_ref08_Victim_24 : AC := .seq ac_ref08_Victim_22 ac_ref08_Victim_23
def l_ref08_Victim_25 : List AOp := [⟨(some 39), .mv (.t 4), none, none, [], none⟩,
  ⟨(some 40), .bin .lss (.t 39) (.k (.int .i64 0)), none, none, [], none⟩,
  ⟨(some 41), .mv (.t 40), none, none, [], none⟩,
  ⟨(some 42), .mv (.t 0), (some (41, false)), none, [], none⟩,
  ⟨(some 43), .mv (.t 5), (some (41, false)), none, [], none⟩,
  ⟨(some 44), .isl 3 (.t 42) (.t 43), (some (41, false)), none, [], none⟩,
  ⟨(some 45), .faddr 1 (.t 44), (some (41, false)), none, [], none⟩,
  ⟨(some 46), .load none (.t 45), (some (41, false)), none, [], none⟩,
  ⟨(some 47), .mv (.t 0), (some (41, false)), none, [], none⟩,
  ⟨(some 48), .mv (.t 4), (some (41, false)), none, [], none⟩,
  ⟨(some 49), .isl 3 (.t 47) (.t 48), (some (41, false)), none, [], none⟩,
  ⟨(some 50), .faddr 1 (.t 49), (some (41, false)), none, [], none⟩,
  ⟨(some 51), .load none (.t 50), (some (41, false)), none, [], none⟩,
  ⟨(some 52), .bin .lss (.t 46) (.t 51), (some (41, false)), none, [], none⟩,
  ⟨(some 53), .pick (.t 41) (.k (.bool true)) (.t 52), none, none, [], none⟩,
  ⟨(some 54), .mv (.t 53), none, none, [], none⟩,
  ⟨(some 55), .mv (.t 0), (some (54, false)), none, [], none⟩,
  ⟨(some 56), .mv (.t 5), (some (54, false)), none, [], none⟩,
  ⟨(some 57), .isl 3 (.t 55) (.t 56), (some (54, false)), none, [], none⟩,
  ⟨(some 58), .faddr 1 (.t 57), (some (54, false)), none, [], none⟩,
  ⟨(some 59), .load none (.t 58), (some (54, false)), none, [], none⟩,
  ⟨(some 60), .mv (.t 0), (some (54, false)), none, [], none⟩,
  ⟨(some 61), .mv (.t 4), (some (54, false)), none, [], none⟩,
  ⟨(some 62), .isl 3 (.t 60) (.t 61), (some (54, false)), none, [], none⟩,
  ⟨(some 63), .faddr 1 (.t 62), (some (54, false)), none, [], none⟩,
  ⟨(some 64), .load none (.t 63), (some (54, false)), none, [], none⟩,
  ⟨(some 65), .bin .eql (.t 59) (.t 64), (some (54, false)), none, [], none⟩,
  ⟨(some 66), .mv (.t 65), (some (54, false)), none, [], none⟩,
  ⟨(some 67), .mv (.t 0), (some (66, true)), none, [], none⟩,
  ⟨(some 68), .mv (.t 5), (some (66, true)), none, [], none⟩,
  ⟨(some 69), .isl 3 (.t 67) (.t 68), (some (66, true)), none, [], none⟩,
  ⟨(some 70), .faddr 2 (.t 69), (some (66, true)), none, [], none⟩,
  ⟨(some 71), .load none (.t 70), (some (66, true)), none, [], none⟩,
  ⟨(some 72), .call false 28 [(.t 71)], (some (66, true)), none, [], none⟩,
  ⟨(some 73), .mv (.t 0), (some (66, true)), none, [], none⟩,
  ⟨(some 74), .mv (.t 4), (some (66, true)), none, [], none⟩,
  ⟨(some 75), .isl 3 (.t 73) (.t 74), (some (66, true)), none, [], none⟩,
  ⟨(some 76), .faddr 2 (.t 75), (some (66, true)), none, [], none⟩,
  ⟨(some 77), .load none (.t 76), (some (66, true)), none, [], none⟩,
  ⟨(some 78), .call false 28 [(.t 77)], (some (66, true)), none, [], none⟩,
  ⟨(some 79), .bin .lss (.t 72) (.t 78), (some (66, true)), none, [], none⟩,
  ⟨(some 80), .pick (.t 66) (.t 79) (.k (.bool false)), (some (54, false)), none, [], none⟩,
  ⟨(some 81), .pick (.t 54) (.k (.bool true)) (.t 80), none, none, [], none⟩]
def ac_ref08_Victim_25 : AC := .dreg 0 l_ref08_Victim_25
def l_ref08_Victim_26 : List AOp := [⟨(some 82), .mv (.t 5), none, none, [], none⟩,
  ⟨(some 4), .mv (.t 82), none, none, [], none⟩]
def ac_ref08_Victim_26 : AC := .reg l_ref08_Victim_26
def ac_ref08_Victim_27 : AC := .cond (.t 81) ac_ref08_Victim_26 .skip
def ac_ref08_Victim_28 : AC := .seq ac_ref08_Victim_25 ac_ref08_Victim_27
def ac_ref08_Victim_29 : AC := .seq ac_ref08_Victim_24 ac_ref08_Victim_28
def ac_ref08_Victim_30 : AC := .block 3 ac_ref08_Victim_29
def l_ref08_Victim_31 : List AOp := [⟨(some 31), .mv (.t 5), none, none, [], none⟩,
  ⟨(some 32), .bin .add (.t 31) (.k (.int .i64 1)), none, none, [], none⟩,
  ⟨(some 5), .mv (.t 32), none, none, [], none⟩]
def ac_ref08_Victim_31 : AC := .reg l_ref08_Victim_31
def ac_ref08_Victim_32 : AC := .seq ac_ref08_Victim_30 ac_ref08_Victim_31
def ac_ref08_Victim_33 : AC := .seq ac_ref08_Victim_21 ac_ref08_Victim_32
def ac_ref08_Victim_34 : AC := .loop [0, 4, 5] 0 ac_ref08_Victim_33
def ac_ref08_Victim_35 : AC := .block 2 ac_ref08_Victim_34
def ac_ref08_Victim_36 : AC := .seq ac_ref08_Victim_18 ac_ref08_Victim_35
def l_ref08_Victim_37 : List AOp := [⟨(some 83), .mv (.t 4), none, none, [], none⟩,
  ⟨(some 2), .mv (.t 83), none, none, [], none⟩]
def ac_ref08_Victim_37 : AC := .reg l_ref08_Victim_37
def ac_ref08_Victim_38 : AC := .seq ac_ref08_Victim_37 .ret
def ac_ref08_Victim_39 : AC := .seq ac_ref08_Victim_36 ac_ref08_Victim_38
def ac_ref08_Victim_40 : AC := .seq ac_ref08_Victim_17 ac_ref08_Victim_39
def ac_ref08_Victim_41 : AC := .seq ac_ref08_Victim_16 ac_ref08_Victim_40
def ac_ref08_Victim_42 : AC := .seq ac_ref08_Victim_0 ac_ref08_Victim_41
def ac_ref08_Victim : AC := ac_ref08_Victim_42
theorem comp_ref08_Victim : compF Try.prog [] (drawR Try.prog [] Try.f10.ntmps) [([0, 3], 0), ([0, 4, 5], 0)] 1 Try.f10 = some (ac_ref08_Victim, [.t 2]) := by kernel_rfl
def U_ref08_Victim := (And.intro (And.intro (And.intro (And.intro (And.intro (And.intro @ac_ref08_Victim.eq_1 (@mR _ _ ac_ref08_Victim_0.eq_1)) (And.intro (@mR _ _ ac_ref08_Victim_1.eq_1) (@mR _ _ ac_ref08_Victim_2.eq_1))) (And.intro (And.intro (@mU _ _ ac_ref08_Victim_3.eq_1) (@mU _ _ ac_ref08_Victim_4.eq_1)) (And.intro (@mR _ _ ac_ref08_Victim_5.eq_1) (@mR _ _ ac_ref08_Victim_6.eq_1)))) (And.intro (And.intro (And.intro (@mU _ _ ac_ref08_Victim_7.eq_1) (@mU _ _ ac_ref08_Victim_8.eq_1)) (And.intro (@mU _ _ ac_ref08_Victim_9.eq_1) (@mU _ _ ac_ref08_Victim_10.eq_1))) (And.intro (And.intro (@mR _ _ ac_ref08_Victim_11.eq_1) (@mU _ _ ac_ref08_Victim_12.eq_1)) (@mU _ _ ac_ref08_Victim_13.eq_1)))) (And.intro (And.intro (And.intro (And.intro (@mU _ _ ac_ref08_Victim_14.eq_1) (@mU _ _ ac_ref08_Victim_15.eq_1)) (And.intro (@mU _ _ ac_ref08_Victim_16.eq_1) (@mR _ _ ac_ref08_Victim_17.eq_1))) (And.intro (And.intro (@mR _ _ ac_ref08_Victim_18.eq_1) (@mR _ _ ac_ref08_Victim_19.eq_1)) (@mU _ _ ac_ref08_Victim_20.eq_1))) (And.intro (And.intro (And.intro (@mU _ _ ac_ref08_Victim_21.eq_1) (@mR _ _ ac_ref08_Victim_22.eq_1)) (And.intro (@mU _ _ ac_ref08_Victim_23.eq_1) (@mU _ _ ac_ref08_Victim_24.eq_1))) (And.intro (And.intro (@mD _ _ _ ac_ref08_Victim_25.eq_1) (@mR _ _ ac_ref08_Victim_26.eq_1)) (@mU _ _ ac_ref08_Victim_27.eq_1))))) (And.intro (And.intro (And.intro (And.intro (And.intro (@mU _ _ ac_ref08_Victim_28.eq_1) (@mU _ _ ac_ref08_Victim_29.eq_1)) (And.intro (@mU _ _ ac_ref08_Victim_30.eq_1) (@mR _ _ ac_ref08_Victim_31.eq_1))) (And.intro (And.intro (@mU _ _ ac_ref08_Victim_32.eq_1) (@mU _ _ ac_ref08_Victim_33.eq_1)) (And.intro (@mU _ _ ac_ref08_Victim_34.eq_1) (@mU _ _ ac_ref08_Victim_35.eq_1)))) (And.intro (And.intro (And.intro (@mU _ _ ac_ref08_Victim_36.eq_1) (@mR _ _ ac_ref08_Victim_37.eq_1)) (And.intro (@mU _ _ ac_ref08_Victim_38.eq_1) (@mU _ _ ac_ref08_Victim_39.eq_1))) (And.intro (And.intro (@mU _ _ ac_ref08_Victim_40.eq_1) (@mU _ _ ac_ref08_Victim_41.eq_1)) (@mU _ _ ac_ref08_Victim_42.eq_1)))) (And.intro (And.intro (And.intro (And.intro @l_ref08_Victim_0.eq_1 @l_ref08_Victim_1.eq_1) (And.intro @l_ref08_Victim_2.eq_1 @l_ref08_Victim_5.eq_1)) (And.intro (And.intro @l_ref08_Victim_6.eq_1 @l_ref08_Victim_11.eq_1) @l_ref08_Victim_17.eq_1)) (And.intro (And.intro (And.intro @l_ref08_Victim_18.eq_1 @l_ref08_Victim_19.eq_1) (And.intro @l_ref08_Victim_22.eq_1 @l_ref08_Victim_25.eq_1)) (And.intro (And.intro @l_ref08_Victim_26.eq_1 @l_ref08_Victim_31.eq_1) @l_ref08_Victim_37.eq_1)))))

/- scoria/scorialaw08.refs -/
def l_law08_refs_0 : List AOp := [⟨(some 2), .mv (.k (.slc [])), none, none, [], none⟩]
def ac_law08_refs_0 : AC := .reg l_law08_refs_0
def l_law08_refs_1 : List AOp := [⟨(some 3), .nilown 3, none, none, [], none⟩]
def ac_law08_refs_1 : AC := .reg l_law08_refs_1
def l_law08_refs_2 : List AOp := [⟨(some 4), .mv (.k (.int .i64 0)), none, none, [], none⟩]
def ac_law08_refs_2 : AC := .reg l_law08_refs_2
def l_law08_refs_3 : List AOp := [⟨(some 5), .mv (.t 4), none, none, [], none⟩,
  ⟨(some 6), .mv (.t 0), none, none, [], none⟩,
  ⟨(some 7), .len (.t 6), none, none, [], none⟩,
  ⟨(some 8), .bin .lss (.t 5) (.t 7), none, none, [], none⟩]
def ac_law08_refs_3 : AC := .reg l_law08_refs_3
def ac_law08_refs_4 : AC := .cond (.t 8) .skip (.exit 0)
def ac_law08_refs_5 : AC := .seq ac_law08_refs_3 ac_law08_refs_4
def l_law08_refs_6 : List AOp := [⟨(some 11), .mv (.t 3), none, none, [], none⟩,
  ⟨(some 12), .mv (.t 0), none, none, [], none⟩,
  ⟨(some 13), .mv (.t 4), none, none, [], none⟩,
  ⟨(some 14), .isl 3 (.t 12) (.t 13), none, none, [], none⟩,
  ⟨(some 15), .load (some 3) (.t 14), none, none, [], none⟩,
  ⟨(some 16), .blds false [(.int .i64 0), (.int .i64 0), (.int .i64 0)] 1 [(0, (.t 15))], none, none, [], none⟩,
  ⟨(some 17), .app 3 24 [(.int .i64 0), (.int .i64 0), (.int .i64 0)] (.t 11) (.t 16), none, none, [], none⟩,
  ⟨(some 3), .mv (.t 17), none, none, [], none⟩]
def ac_law08_refs_6 : AC := .reg l_law08_refs_6
def ac_law08_refs_7 : AC := .block 1 ac_law08_refs_6
def l_law08_refs_8 : List AOp := [⟨(some 9), .mv (.t 4), none, none, [], none⟩,
  ⟨(some 10), .bin .add (.t 9) (.k (.int .i64 1)), none, none, [], none⟩,
  ⟨(some 4), .mv (.t 10), none, none, [], none⟩]
def ac_law08_refs_8 : AC := .reg l_law08_refs_8
def ac_law08_refs_9 : AC := .seq ac_law08_refs_7 ac_law08_refs_8
def ac_law08_refs_10 : AC := .seq ac_law08_refs_5 ac_law08_refs_9
def ac_law08_refs_11 : AC := .loop [0, 3, 4] 1 ac_law08_refs_10
def ac_law08_refs_12 : AC := .block 0 ac_law08_refs_11
def ac_law08_refs_13 : AC := .seq ac_law08_refs_2 ac_law08_refs_12
def l_law08_refs_14 : List AOp := [⟨(some 18), .mv (.t 3), none, none, [], none⟩,
  ⟨(some 2), .mv (.t 18), none, none, [], none⟩]
def ac_law08_refs_14 : AC := .reg l_law08_refs_14
def ac_law08_refs_15 : AC := .seq ac_law08_refs_14 .ret
def ac_law08_refs_16 : AC := .seq ac_law08_refs_13 ac_law08_refs_15
def ac_law08_refs_17 : AC := .seq ac_law08_refs_1 ac_law08_refs_16
def ac_law08_refs_18 : AC := .seq ac_law08_refs_0 ac_law08_refs_17
def ac_law08_refs : AC := ac_law08_refs_18
theorem comp_law08_refs : compF Try.prog [3] (drawR Try.prog [3] Try.f11.ntmps) [([0, 3, 4], 1)] 1 Try.f11 = some (ac_law08_refs, [.t 2]) := by kernel_rfl
def U_law08_refs := (And.intro (And.intro (And.intro (And.intro (And.intro @ac_law08_refs.eq_1 (@mR _ _ ac_law08_refs_0.eq_1)) (And.intro (@mR _ _ ac_law08_refs_1.eq_1) (@mR _ _ ac_law08_refs_2.eq_1))) (And.intro (And.intro (@mR _ _ ac_law08_refs_3.eq_1) (@mU _ _ ac_law08_refs_4.eq_1)) (@mU _ _ ac_law08_refs_5.eq_1))) (And.intro (And.intro (And.intro (@mR _ _ ac_law08_refs_6.eq_1) (@mU _ _ ac_law08_refs_7.eq_1)) (And.intro (@mR _ _ ac_law08_refs_8.eq_1) (@mU _ _ ac_law08_refs_9.eq_1))) (And.intro (And.intro (@mU _ _ ac_law08_refs_10.eq_1) (@mU _ _ ac_law08_refs_11.eq_1)) (@mU _ _ ac_law08_refs_12.eq_1)))) (And.intro (And.intro (And.intro (And.intro (@mU _ _ ac_law08_refs_13.eq_1) (@mR _ _ ac_law08_refs_14.eq_1)) (And.intro (@mU _ _ ac_law08_refs_15.eq_1) (@mU _ _ ac_law08_refs_16.eq_1))) (And.intro (And.intro (@mU _ _ ac_law08_refs_17.eq_1) (@mU _ _ ac_law08_refs_18.eq_1)) @l_law08_refs_0.eq_1)) (And.intro (And.intro (And.intro @l_law08_refs_1.eq_1 @l_law08_refs_2.eq_1) @l_law08_refs_3.eq_1) (And.intro (And.intro @l_law08_refs_6.eq_1 @l_law08_refs_8.eq_1) @l_law08_refs_14.eq_1))))

/- scoria/wear.Pick -/
def l_wear_Pick_0 : List AOp := [⟨(some 2), .mv (.k (.int .i64 0)), none, none, [], none⟩]
def ac_wear_Pick_0 : AC := .reg l_wear_Pick_0
def l_wear_Pick_1 : List AOp := [⟨(some 3), .mv (.t 0), none, none, [], none⟩,
  ⟨(some 4), .call false 23 [(.k (.int .i64 0))], none, none, [], none⟩,
  ⟨(some 5), .call false 21 [(.t 3), (.t 4), (.k (.fn (.func 27) [] []))], none, none, [], none⟩,
  ⟨(some 2), .mv (.t 5), none, none, [], none⟩]
def ac_wear_Pick_1 : AC := .reg l_wear_Pick_1
def ac_wear_Pick_2 : AC := .seq ac_wear_Pick_1 .ret
def ac_wear_Pick_3 : AC := .seq ac_wear_Pick_0 ac_wear_Pick_2
def ac_wear_Pick : AC := ac_wear_Pick_3
theorem comp_wear_Pick : compF Try.prog [] (drawR Try.prog [] Try.f12.ntmps) [] 1 Try.f12 = some (ac_wear_Pick, [.t 2]) := by kernel_rfl
def U_wear_Pick := (And.intro (And.intro (And.intro @ac_wear_Pick.eq_1 (@mR _ _ ac_wear_Pick_0.eq_1)) (And.intro (@mR _ _ ac_wear_Pick_1.eq_1) (@mU _ _ ac_wear_Pick_2.eq_1))) (And.intro (And.intro (@mU _ _ ac_wear_Pick_3.eq_1) @l_wear_Pick_0.eq_1) @l_wear_Pick_1.eq_1))

/- scoria/scoriaref08.Pick -/
def l_ref08_Pick_0 : List AOp := [⟨(some 2), .mv (.k (.int .i64 0)), none, none, [], none⟩]
def ac_ref08_Pick_0 : AC := .reg l_ref08_Pick_0
def l_ref08_Pick_1 : List AOp := [⟨(some 3), .mv (.k (.int .i64 (-1))), none, none, [], none⟩]
def ac_ref08_Pick_1 : AC := .reg l_ref08_Pick_1
def l_ref08_Pick_2 : List AOp := [⟨(some 5), .mv (.t 0), none, none, [], none⟩,
  ⟨(some 6), .len (.t 5), none, none, [], none⟩,
  ⟨(some 7), .bin .sub (.t 6) (.k (.int .i64 1)), none, none, [], none⟩,
  ⟨(some 4), .mv (.t 7), none, none, [], none⟩]
def ac_ref08_Pick_2 : AC := .reg l_ref08_Pick_2
def l_ref08_Pick_3 : List AOp := [⟨(some 8), .mv (.t 4), none, none, [], none⟩,
  ⟨(some 9), .bin .geq (.t 8) (.k (.int .i64 0)), none, none, [], none⟩]
def ac_ref08_Pick_3 : AC := .reg l_ref08_Pick_3
def ac_ref08_Pick_4 : AC := .cond (.t 9) .skip (.exit 0)
def ac_ref08_Pick_5 : AC := .seq ac_ref08_Pick_3 ac_ref08_Pick_4
def l_ref08_Pick_6 : List AOp := [⟨(some 12), .mv (.t 0), none, none, [], none⟩,
  ⟨(some 13), .mv (.t 4), none, none, [], none⟩,
  ⟨(some 14), .isl 3 (.t 12) (.t 13), none, none, [], none⟩,
  ⟨(some 15), .faddr 0 (.t 14), none, none, [], none⟩,
  ⟨(some 16), .load none (.t 15), none, none, [], none⟩,
  ⟨(some 17), .bin .eql (.t 16) (.k (.int .i64 0)), none, none, [], none⟩,
  ⟨(some 18), .mv (.t 17), none, none, [], none⟩,
  ⟨(some 19), .mv (.t 3), (some (18, true)), none, [], none⟩,
  ⟨(some 20), .bin .lss (.t 19) (.k (.int .i64 0)), (some (18, true)), none, [], none⟩,
  ⟨(some 21), .mv (.t 20), (some (18, true)), none, [], none⟩,
  ⟨(some 22), .mv (.t 0), (some (21, false)), none, [], none⟩,
  ⟨(some 23), .mv (.t 4), (some (21, false)), none, [], none⟩,
  ⟨(some 24), .isl 3 (.t 22) (.t 23), (some (21, false)), none, [], none⟩,
  ⟨(some 25), .faddr 2 (.t 24), (some (21, false)), none, [], none⟩,
  ⟨(some 26), .load none (.t 25), (some (21, false)), none, [], none⟩,
  ⟨(some 27), .call false 28 [(.t 26)], (some (21, false)), none, [], none⟩,
  ⟨(some 28), .mv (.t 0), (some (21, false)), none, [], none⟩,
  ⟨(some 29), .mv (.t 3), (some (21, false)), none, [], none⟩,
  ⟨(some 30), .isl 3 (.t 28) (.t 29), (some (21, false)), none, [], none⟩,
  ⟨(some 31), .faddr 2 (.t 30), (some (21, false)), none, [], none⟩,
  ⟨(some 32), .load none (.t 31), (some (21, false)), none, [], none⟩,
  ⟨(some 33), .call false 28 [(.t 32)], (some (21, false)), none, [], none⟩,
  ⟨(some 34), .bin .leq (.t 27) (.t 33), (some (21, false)), none, [], none⟩,
  ⟨(some 35), .pick (.t 21) (.k (.bool true)) (.t 34), (some (18, true)), none, [], none⟩,
  ⟨(some 36), .pick (.t 18) (.t 35) (.k (.bool false)), none, none, [], none⟩]
def ac_ref08_Pick_6 : AC := .dreg 0 l_ref08_Pick_6
def l_ref08_Pick_7 : List AOp := [⟨(some 37), .mv (.t 4), none, none, [], none⟩,
  ⟨(some 3), .mv (.t 37), none, none, [], none⟩]
def ac_ref08_Pick_7 : AC := .reg l_ref08_Pick_7
def ac_ref08_Pick_8 : AC := .cond (.t 36) ac_ref08_Pick_7 .skip
def ac_ref08_Pick_9 : AC := .seq ac_ref08_Pick_6 ac_ref08_Pick_8
def ac_ref08_Pick_10 : AC := .block 1 ac_ref08_Pick_9
def l_ref08_Pick_11 : List AOp := [⟨(some 10), .mv (.t 4), none, none, [], none⟩,
  ⟨(some 11), .bin .sub (.t 10) (.k (.int .i64 1)), none, none, [], none⟩,
  ⟨(some 4), .mv (.t 11), none, none, [], none⟩]
def ac_ref08_Pick_11 : AC := .reg l_ref08_Pick_11
def ac_ref08_Pick_12 : AC := .seq ac_ref08_Pick_10 ac_ref08_Pick_11
def ac_ref08_Pick_13 : AC := .seq ac_ref08_Pick_5 ac_ref08_Pick_12
def ac_ref08_Pick_14 : AC := .loop [0, 3, 4] 0 ac_ref08_Pick_13
def ac_ref08_Pick_15 : AC := .block 0 ac_ref08_Pick_14
def ac_ref08_Pick_16 : AC := .seq ac_ref08_Pick_2 ac_ref08_Pick_15
def l_ref08_Pick_17 : List AOp := [⟨(some 38), .mv (.t 3), none, none, [], none⟩,
  ⟨(some 2), .mv (.t 38), none, none, [], none⟩]
def ac_ref08_Pick_17 : AC := .reg l_ref08_Pick_17
def ac_ref08_Pick_18 : AC := .seq ac_ref08_Pick_17 .ret
def ac_ref08_Pick_19 : AC := .seq ac_ref08_Pick_16 ac_ref08_Pick_18
def ac_ref08_Pick_20 : AC := .seq ac_ref08_Pick_1 ac_ref08_Pick_19
def ac_ref08_Pick_21 : AC := .seq ac_ref08_Pick_0 ac_ref08_Pick_20
def ac_ref08_Pick : AC := ac_ref08_Pick_21
theorem comp_ref08_Pick : compF Try.prog [] (drawR Try.prog [] Try.f13.ntmps) [([0, 3, 4], 0)] 1 Try.f13 = some (ac_ref08_Pick, [.t 2]) := by kernel_rfl
def U_ref08_Pick := (And.intro (And.intro (And.intro (And.intro (And.intro @ac_ref08_Pick.eq_1 (@mR _ _ ac_ref08_Pick_0.eq_1)) (And.intro (@mR _ _ ac_ref08_Pick_1.eq_1) (@mR _ _ ac_ref08_Pick_2.eq_1))) (And.intro (And.intro (@mR _ _ ac_ref08_Pick_3.eq_1) (@mU _ _ ac_ref08_Pick_4.eq_1)) (And.intro (@mU _ _ ac_ref08_Pick_5.eq_1) (@mD _ _ _ ac_ref08_Pick_6.eq_1)))) (And.intro (And.intro (And.intro (@mR _ _ ac_ref08_Pick_7.eq_1) (@mU _ _ ac_ref08_Pick_8.eq_1)) (And.intro (@mU _ _ ac_ref08_Pick_9.eq_1) (@mU _ _ ac_ref08_Pick_10.eq_1))) (And.intro (And.intro (@mR _ _ ac_ref08_Pick_11.eq_1) (@mU _ _ ac_ref08_Pick_12.eq_1)) (And.intro (@mU _ _ ac_ref08_Pick_13.eq_1) (@mU _ _ ac_ref08_Pick_14.eq_1))))) (And.intro (And.intro (And.intro (And.intro (@mU _ _ ac_ref08_Pick_15.eq_1) (@mU _ _ ac_ref08_Pick_16.eq_1)) (And.intro (@mR _ _ ac_ref08_Pick_17.eq_1) (@mU _ _ ac_ref08_Pick_18.eq_1))) (And.intro (And.intro (@mU _ _ ac_ref08_Pick_19.eq_1) (@mU _ _ ac_ref08_Pick_20.eq_1)) (And.intro (@mU _ _ ac_ref08_Pick_21.eq_1) @l_ref08_Pick_0.eq_1))) (And.intro (And.intro (And.intro @l_ref08_Pick_1.eq_1 @l_ref08_Pick_2.eq_1) (And.intro @l_ref08_Pick_3.eq_1 @l_ref08_Pick_6.eq_1)) (And.intro (And.intro @l_ref08_Pick_7.eq_1 @l_ref08_Pick_11.eq_1) @l_ref08_Pick_17.eq_1))))

/- scoria/wear.Count -/
def l_wear_Count_0 : List AOp := [⟨(some 4), .mv (.k (.int .i64 0)), none, none, [], none⟩]
def ac_wear_Count_0 : AC := .reg l_wear_Count_0
def l_wear_Count_1 : List AOp := [⟨(some 5), .mv (.k (.int .i64 0)), none, none, [], none⟩]
def ac_wear_Count_1 : AC := .reg l_wear_Count_1
def l_wear_Count_2 : List AOp := [⟨(some 8), .mv (.t 0), none, none, [], none⟩,
  ⟨(some 9), .len (.t 8), none, none, [], none⟩,
  ⟨(some 10), .mv (.k (.int .i64 0)), none, none, [], none⟩]
def ac_wear_Count_2 : AC := .reg l_wear_Count_2
def l_wear_Count_3 : List AOp := [⟨(some 11), .bin .lss (.t 10) (.t 9), none, none, [], none⟩]
def ac_wear_Count_3 : AC := .reg l_wear_Count_3
def ac_wear_Count_4 : AC := .cond (.t 11) .skip (.exit 0)
def l_wear_Count_5 : List AOp := [⟨(some 12), .isl 3 (.t 8) (.t 10), none, none, [], none⟩,
  ⟨(some 13), .load (some 3) (.t 12), none, none, [], none⟩,
  ⟨(some 7), .alloc [(.int .i64 0), (.int .i64 0), (.int .i64 0)], none, none, [], none⟩,
  ⟨none, .store 3 (.t 7) (.t 13), none, none, [], none⟩]
def ac_wear_Count_5 : AC := .reg l_wear_Count_5
def l_wear_Count_6 : List AOp := [⟨(some 14), .faddr 0 (.t 7), none, none, [], none⟩,
  ⟨(some 15), .load none (.t 14), none, none, [], none⟩,
  ⟨(some 16), .mv (.t 1), none, none, [], none⟩,
  ⟨(some 17), .bin .eql (.t 15) (.t 16), none, none, [], none⟩]
def ac_wear_Count_6 : AC := .reg l_wear_Count_6
def l_wear_Count_7 : List AOp := [⟨(some 18), .mv (.t 5), none, none, [], none⟩,
  ⟨(some 19), .bin .add (.t 18) (.k (.int .i64 1)), none, none, [], none⟩,
  ⟨(some 5), .mv (.t 19), none, none, [], none⟩]
def ac_wear_Count_7 : AC := .reg l_wear_Count_7
def ac_wear_Count_8 : AC := .cond (.t 17) ac_wear_Count_7 .skip
def ac_wear_Count_9 : AC := .seq ac_wear_Count_6 ac_wear_Count_8
def ac_wear_Count_10 : AC := .seq ac_wear_Count_5 ac_wear_Count_9
def ac_wear_Count_11 : AC := .block 1 ac_wear_Count_10
def l_wear_Count_12 : List AOp := [⟨(some 20), .bin .add (.t 10) (.k (.int .i64 1)), none, none, [], none⟩,
  ⟨(some 10), .mv (.t 20), none, none, [], none⟩]
def ac_wear_Count_12 : AC := .reg l_wear_Count_12
def ac_wear_Count_13 : AC := .seq ac_wear_Count_11 ac_wear_Count_12
def ac_wear_Count_14 : AC := .seq ac_wear_Count_4 ac_wear_Count_13
def ac_wear_Count_15 : AC := .seq ac_wear_Count_3 ac_wear_Count_14
def ac_wear_Count_16 : AC := .loop [1, 5, 8, 9, 10] 0 ac_wear_Count_15
def ac_wear_Count_17 : AC := .block 0 ac_wear_Count_16
def ac_wear_Count_18 : AC := .seq ac_wear_Count_2 ac_wear_Count_17
def l_wear_Count_19 : List AOp := [⟨(some 21), .mv (.t 5), none, none, [], none⟩,
  ⟨(some 4), .mv (.t 21), none, none, [], none⟩]
def ac_wear_Count_19 : AC := .reg l_wear_Count_19
def ac_wear_Count_20 : AC := .seq ac_wear_Count_19 .ret
def ac_wear_Count_21 : AC := .seq ac_wear_Count_18 ac_wear_Count_20
def ac_wear_Count_22 : AC := .seq ac_wear_Count_1 ac_wear_Count_21
def ac_wear_Count_23 : AC := .seq ac_wear_Count_0 ac_wear_Count_22
def ac_wear_Count : AC := ac_wear_Count_23
theorem comp_wear_Count : compF Try.prog [] (drawR Try.prog [] Try.f14.ntmps) [([1, 5, 8, 9, 10], 0)] 2 Try.f14 = some (ac_wear_Count, [.t 4]) := by kernel_rfl
def U_wear_Count := (And.intro (And.intro (And.intro (And.intro (And.intro (And.intro @ac_wear_Count.eq_1 (@mR _ _ ac_wear_Count_0.eq_1)) (@mR _ _ ac_wear_Count_1.eq_1)) (And.intro (@mR _ _ ac_wear_Count_2.eq_1) (@mR _ _ ac_wear_Count_3.eq_1))) (And.intro (And.intro (@mU _ _ ac_wear_Count_4.eq_1) (@mR _ _ ac_wear_Count_5.eq_1)) (And.intro (@mR _ _ ac_wear_Count_6.eq_1) (@mR _ _ ac_wear_Count_7.eq_1)))) (And.intro (And.intro (And.intro (@mU _ _ ac_wear_Count_8.eq_1) (@mU _ _ ac_wear_Count_9.eq_1)) (And.intro (@mU _ _ ac_wear_Count_10.eq_1) (@mU _ _ ac_wear_Count_11.eq_1))) (And.intro (And.intro (@mR _ _ ac_wear_Count_12.eq_1) (@mU _ _ ac_wear_Count_13.eq_1)) (And.intro (@mU _ _ ac_wear_Count_14.eq_1) (@mU _ _ ac_wear_Count_15.eq_1))))) (And.intro (And.intro (And.intro (And.intro (And.intro (@mU _ _ ac_wear_Count_16.eq_1) (@mU _ _ ac_wear_Count_17.eq_1)) (@mU _ _ ac_wear_Count_18.eq_1)) (And.intro (@mR _ _ ac_wear_Count_19.eq_1) (@mU _ _ ac_wear_Count_20.eq_1))) (And.intro (And.intro (@mU _ _ ac_wear_Count_21.eq_1) (@mU _ _ ac_wear_Count_22.eq_1)) (And.intro (@mU _ _ ac_wear_Count_23.eq_1) @l_wear_Count_0.eq_1))) (And.intro (And.intro (And.intro @l_wear_Count_1.eq_1 @l_wear_Count_2.eq_1) (And.intro @l_wear_Count_3.eq_1 @l_wear_Count_5.eq_1)) (And.intro (And.intro @l_wear_Count_6.eq_1 @l_wear_Count_7.eq_1) (And.intro @l_wear_Count_12.eq_1 @l_wear_Count_19.eq_1)))))

/- scoria/scoriaref08.Count -/
def l_ref08_Count_0 : List AOp := [⟨(some 4), .mv (.k (.int .i64 0)), none, none, [], none⟩]
def ac_ref08_Count_0 : AC := .reg l_ref08_Count_0
def l_ref08_Count_1 : List AOp := [⟨(some 5), .mv (.k (.int .i64 0)), none, none, [], none⟩]
def ac_ref08_Count_1 : AC := .reg l_ref08_Count_1
def l_ref08_Count_2 : List AOp := [⟨(some 6), .mv (.k (.int .i64 0)), none, none, [], none⟩]
def ac_ref08_Count_2 : AC := .reg l_ref08_Count_2
def l_ref08_Count_3 : List AOp := [⟨(some 7), .mv (.t 6), none, none, [], none⟩,
  ⟨(some 8), .mv (.t 0), none, none, [], none⟩,
  ⟨(some 9), .len (.t 8), none, none, [], none⟩,
  ⟨(some 10), .bin .lss (.t 7) (.t 9), none, none, [], none⟩]
def ac_ref08_Count_3 : AC := .reg l_ref08_Count_3
def ac_ref08_Count_4 : AC := .cond (.t 10) .skip (.exit 0)
def ac_ref08_Count_5 : AC := .seq ac_ref08_Count_3 ac_ref08_Count_4
def l_ref08_Count_6 : List AOp := [⟨(some 13), .mv (.t 0), none, none, [], none⟩,
  ⟨(some 14), .mv (.t 6), none, none, [], none⟩,
  ⟨(some 15), .isl 3 (.t 13) (.t 14), none, none, [], none⟩,
  ⟨(some 16), .faddr 0 (.t 15), none, none, [], none⟩,
  ⟨(some 17), .load none (.t 16), none, none, [], none⟩,
  ⟨(some 18), .mv (.t 1), none, none, [], none⟩,
  ⟨(some 19), .bin .eql (.t 17) (.t 18), none, none, [], none⟩]
def ac_ref08_Count_6 : AC := .reg l_ref08_Count_6
def l_ref08_Count_7 : List AOp := [⟨(some 20), .mv (.t 5), none, none, [], none⟩,
  ⟨(some 21), .bin .add (.t 20) (.k (.int .i64 1)), none, none, [], none⟩,
  ⟨(some 5), .mv (.t 21), none, none, [], none⟩]
def ac_ref08_Count_7 : AC := .reg l_ref08_Count_7
def ac_ref08_Count_8 : AC := .cond (.t 19) ac_ref08_Count_7 .skip
def ac_ref08_Count_9 : AC := .seq ac_ref08_Count_6 ac_ref08_Count_8
def ac_ref08_Count_10 : AC := .block 1 ac_ref08_Count_9
def l_ref08_Count_11 : List AOp := [⟨(some 11), .mv (.t 6), none, none, [], none⟩,
  ⟨(some 12), .bin .add (.t 11) (.k (.int .i64 1)), none, none, [], none⟩,
  ⟨(some 6), .mv (.t 12), none, none, [], none⟩]
def ac_ref08_Count_11 : AC := .reg l_ref08_Count_11
def ac_ref08_Count_12 : AC := .seq ac_ref08_Count_10 ac_ref08_Count_11
def ac_ref08_Count_13 : AC := .seq ac_ref08_Count_5 ac_ref08_Count_12
def ac_ref08_Count_14 : AC := .loop [0, 1, 5, 6] 0 ac_ref08_Count_13
def ac_ref08_Count_15 : AC := .block 0 ac_ref08_Count_14
def ac_ref08_Count_16 : AC := .seq ac_ref08_Count_2 ac_ref08_Count_15
def l_ref08_Count_17 : List AOp := [⟨(some 22), .mv (.t 5), none, none, [], none⟩,
  ⟨(some 4), .mv (.t 22), none, none, [], none⟩]
def ac_ref08_Count_17 : AC := .reg l_ref08_Count_17
def ac_ref08_Count_18 : AC := .seq ac_ref08_Count_17 .ret
def ac_ref08_Count_19 : AC := .seq ac_ref08_Count_16 ac_ref08_Count_18
def ac_ref08_Count_20 : AC := .seq ac_ref08_Count_1 ac_ref08_Count_19
def ac_ref08_Count_21 : AC := .seq ac_ref08_Count_0 ac_ref08_Count_20
def ac_ref08_Count : AC := ac_ref08_Count_21
theorem comp_ref08_Count : compF Try.prog [] (drawR Try.prog [] Try.f15.ntmps) [([0, 1, 5, 6], 0)] 2 Try.f15 = some (ac_ref08_Count, [.t 4]) := by kernel_rfl
def U_ref08_Count := (And.intro (And.intro (And.intro (And.intro (And.intro @ac_ref08_Count.eq_1 (@mR _ _ ac_ref08_Count_0.eq_1)) (And.intro (@mR _ _ ac_ref08_Count_1.eq_1) (@mR _ _ ac_ref08_Count_2.eq_1))) (And.intro (And.intro (@mR _ _ ac_ref08_Count_3.eq_1) (@mU _ _ ac_ref08_Count_4.eq_1)) (And.intro (@mU _ _ ac_ref08_Count_5.eq_1) (@mR _ _ ac_ref08_Count_6.eq_1)))) (And.intro (And.intro (And.intro (@mR _ _ ac_ref08_Count_7.eq_1) (@mU _ _ ac_ref08_Count_8.eq_1)) (And.intro (@mU _ _ ac_ref08_Count_9.eq_1) (@mU _ _ ac_ref08_Count_10.eq_1))) (And.intro (And.intro (@mR _ _ ac_ref08_Count_11.eq_1) (@mU _ _ ac_ref08_Count_12.eq_1)) (And.intro (@mU _ _ ac_ref08_Count_13.eq_1) (@mU _ _ ac_ref08_Count_14.eq_1))))) (And.intro (And.intro (And.intro (And.intro (@mU _ _ ac_ref08_Count_15.eq_1) (@mU _ _ ac_ref08_Count_16.eq_1)) (And.intro (@mR _ _ ac_ref08_Count_17.eq_1) (@mU _ _ ac_ref08_Count_18.eq_1))) (And.intro (And.intro (@mU _ _ ac_ref08_Count_19.eq_1) (@mU _ _ ac_ref08_Count_20.eq_1)) (And.intro (@mU _ _ ac_ref08_Count_21.eq_1) @l_ref08_Count_0.eq_1))) (And.intro (And.intro (And.intro @l_ref08_Count_1.eq_1 @l_ref08_Count_2.eq_1) (And.intro @l_ref08_Count_3.eq_1 @l_ref08_Count_6.eq_1)) (And.intro (And.intro @l_ref08_Count_7.eq_1 @l_ref08_Count_11.eq_1) @l_ref08_Count_17.eq_1))))

/- scoria/wear.Gap -/
def l_wear_Gap_0 : List AOp := [⟨(some 2), .mv (.k (.int .i64 0)), none, none, [], none⟩]
def ac_wear_Gap_0 : AC := .reg l_wear_Gap_0
def l_wear_Gap_1 : List AOp := [⟨(some 5), .mv (.t 0), none, none, [], none⟩,
  ⟨(some 6), .call false 21 [(.t 5), (.k (.fn (.func 29) [] [])), (.k (.fn (.func 27) [] []))], none, none, [], none⟩,
  ⟨(some 7), .mv (.t 0), none, none, [], none⟩,
  ⟨(some 8), .call false 30 [(.t 7)], none, none, [], none⟩,
  ⟨(some 3), .mv (.t 6), none, none, [], none⟩,
  ⟨(some 4), .mv (.t 8), none, none, [], none⟩]
def ac_wear_Gap_1 : AC := .reg l_wear_Gap_1
def l_wear_Gap_2 : List AOp := [⟨(some 9), .mv (.t 3), none, none, [], none⟩,
  ⟨(some 10), .bin .lss (.t 9) (.k (.int .i64 0)), none, none, [], none⟩]
def ac_wear_Gap_2 : AC := .reg l_wear_Gap_2
def l_wear_Gap_3 : List AOp := [⟨(some 2), .mv (.k (.int .i64 0)), none, none, [], none⟩]
def ac_wear_Gap_3 : AC := .reg l_wear_Gap_3
def ac_wear_Gap_4 : AC := .seq ac_wear_Gap_3 .ret
def ac_wear_Gap_5 : AC := .cond (.t 10) ac_wear_Gap_4 .skip
def ac_wear_Gap_6 : AC := .seq ac_wear_Gap_2 ac_wear_Gap_5
def l_wear_Gap_7 : List AOp := [⟨(some 11), .mv (.t 0), none, none, [], none⟩,
  ⟨(some 12), .mv (.t 4), none, none, [], none⟩,
  ⟨(some 13), .isl 3 (.t 11) (.t 12), none, none, [], none⟩,
  ⟨(some 14), .load (some 3) (.t 13), none, none, [], none⟩,
  ⟨(some 15), .call false 31 [(.t 14)], none, none, [], none⟩,
  ⟨(some 16), .mv (.t 0), none, none, [], none⟩,
  ⟨(some 17), .mv (.t 3), none, none, [], none⟩,
  ⟨(some 18), .isl 3 (.t 16) (.t 17), none, none, [], none⟩,
  ⟨(some 19), .load (some 3) (.t 18), none, none, [], none⟩,
  ⟨(some 20), .call false 31 [(.t 19)], none, none, [], none⟩,
  ⟨(some 21), .bin .sub (.t 15) (.t 20), none, none, [], none⟩,
  ⟨(some 2), .mv (.t 21), none, none, [], none⟩]
def ac_wear_Gap_7 : AC := .dreg 0 l_wear_Gap_7
def ac_wear_Gap_8 : AC := .seq ac_wear_Gap_7 .ret
def ac_wear_Gap_9 : AC := .seq ac_wear_Gap_6 ac_wear_Gap_8
def ac_wear_Gap_10 : AC := .seq ac_wear_Gap_1 ac_wear_Gap_9
def ac_wear_Gap_11 : AC := .seq ac_wear_Gap_0 ac_wear_Gap_10
def ac_wear_Gap : AC := ac_wear_Gap_11
theorem comp_wear_Gap : compF Try.prog [] (drawR Try.prog [] Try.f16.ntmps) [] 1 Try.f16 = some (ac_wear_Gap, [.t 2]) := by kernel_rfl
def U_wear_Gap := (And.intro (And.intro (And.intro (And.intro (And.intro @ac_wear_Gap.eq_1 (@mR _ _ ac_wear_Gap_0.eq_1)) (@mR _ _ ac_wear_Gap_1.eq_1)) (And.intro (@mR _ _ ac_wear_Gap_2.eq_1) (@mR _ _ ac_wear_Gap_3.eq_1))) (And.intro (And.intro (@mU _ _ ac_wear_Gap_4.eq_1) (@mU _ _ ac_wear_Gap_5.eq_1)) (And.intro (@mU _ _ ac_wear_Gap_6.eq_1) (@mD _ _ _ ac_wear_Gap_7.eq_1)))) (And.intro (And.intro (And.intro (And.intro (@mU _ _ ac_wear_Gap_8.eq_1) (@mU _ _ ac_wear_Gap_9.eq_1)) (@mU _ _ ac_wear_Gap_10.eq_1)) (And.intro (@mU _ _ ac_wear_Gap_11.eq_1) @l_wear_Gap_0.eq_1)) (And.intro (And.intro @l_wear_Gap_1.eq_1 @l_wear_Gap_2.eq_1) (And.intro @l_wear_Gap_3.eq_1 @l_wear_Gap_7.eq_1))))

/- scoria/wear.Cold -/
def l_wear_Cold_0 : List AOp := [⟨(some 4), .mv (.k (.int .i64 0)), none, none, [], none⟩]
def ac_wear_Cold_0 : AC := .reg l_wear_Cold_0
def l_wear_Cold_1 : List AOp := [⟨(some 6), .mv (.t 0), none, none, [], none⟩,
  ⟨(some 7), .call false 23 [(.k (.int .i64 2))], none, none, [], none⟩,
  ⟨(some 8), .call false 21 [(.t 6), (.t 7), (.k (.fn (.func 27) [] []))], none, none, [], none⟩,
  ⟨(some 5), .mv (.t 8), none, none, [], none⟩]
def ac_wear_Cold_1 : AC := .reg l_wear_Cold_1
def l_wear_Cold_2 : List AOp := [⟨(some 9), .mv (.t 5), none, none, [], none⟩,
  ⟨(some 10), .bin .lss (.t 9) (.k (.int .i64 0)), none, none, [], none⟩,
  ⟨(some 11), .mv (.t 10), none, none, [], none⟩,
  ⟨(some 12), .mv (.t 0), (some (11, false)), none, [], none⟩,
  ⟨(some 13), .mv (.t 0), (some (11, false)), none, [], none⟩,
  ⟨(some 14), .call false 30 [(.t 13)], (some (11, false)), none, [], none⟩,
  ⟨(some 15), .isl 3 (.t 12) (.t 14), (some (11, false)), none, [], none⟩,
  ⟨(some 16), .load (some 3) (.t 15), (some (11, false)), none, [], none⟩,
  ⟨(some 17), .call false 31 [(.t 16)], (some (11, false)), none, [], none⟩,
  ⟨(some 18), .mv (.t 0), (some (11, false)), none, [], none⟩,
  ⟨(some 19), .mv (.t 5), (some (11, false)), none, [], none⟩,
  ⟨(some 20), .isl 3 (.t 18) (.t 19), (some (11, false)), none, [], none⟩,
  ⟨(some 21), .load (some 3) (.t 20), (some (11, false)), none, [], none⟩,
  ⟨(some 22), .call false 31 [(.t 21)], (some (11, false)), none, [], none⟩,
  ⟨(some 23), .bin .sub (.t 17) (.t 22), (some (11, false)), none, [], none⟩,
  ⟨(some 24), .mv (.t 1), (some (11, false)), none, [], none⟩,
  ⟨(some 25), .mm true [(.t 24), (.k (.int .i64 0))], (some (11, false)), none, [], none⟩,
  ⟨(some 26), .bin .leq (.t 23) (.t 25), (some (11, false)), none, [], none⟩,
  ⟨(some 27), .pick (.t 11) (.k (.bool true)) (.t 26), none, none, [], none⟩]
def ac_wear_Cold_2 : AC := .dreg 0 l_wear_Cold_2
def l_wear_Cold_3 : List AOp := [⟨(some 4), .mv (.k (.int .i64 (-1))), none, none, [], none⟩]
def ac_wear_Cold_3 : AC := .reg l_wear_Cold_3
def ac_wear_Cold_4 : AC := .seq ac_wear_Cold_3 .ret
def ac_wear_Cold_5 : AC := .cond (.t 27) ac_wear_Cold_4 .skip
def ac_wear_Cold_6 : AC := .seq ac_wear_Cold_2 ac_wear_Cold_5
def l_wear_Cold_7 : List AOp := [⟨(some 28), .mv (.t 5), none, none, [], none⟩,
  ⟨(some 4), .mv (.t 28), none, none, [], none⟩]
def ac_wear_Cold_7 : AC := .reg l_wear_Cold_7
def ac_wear_Cold_8 : AC := .seq ac_wear_Cold_7 .ret
def ac_wear_Cold_9 : AC := .seq ac_wear_Cold_6 ac_wear_Cold_8
def ac_wear_Cold_10 : AC := .seq ac_wear_Cold_1 ac_wear_Cold_9
def ac_wear_Cold_11 : AC := .seq ac_wear_Cold_0 ac_wear_Cold_10
def ac_wear_Cold : AC := ac_wear_Cold_11
theorem comp_wear_Cold : compF Try.prog [] (drawR Try.prog [] Try.f17.ntmps) [] 2 Try.f17 = some (ac_wear_Cold, [.t 4]) := by kernel_rfl
def U_wear_Cold := (And.intro (And.intro (And.intro (And.intro (And.intro @ac_wear_Cold.eq_1 (@mR _ _ ac_wear_Cold_0.eq_1)) (@mR _ _ ac_wear_Cold_1.eq_1)) (And.intro (@mD _ _ _ ac_wear_Cold_2.eq_1) (@mR _ _ ac_wear_Cold_3.eq_1))) (And.intro (And.intro (@mU _ _ ac_wear_Cold_4.eq_1) (@mU _ _ ac_wear_Cold_5.eq_1)) (And.intro (@mU _ _ ac_wear_Cold_6.eq_1) (@mR _ _ ac_wear_Cold_7.eq_1)))) (And.intro (And.intro (And.intro (And.intro (@mU _ _ ac_wear_Cold_8.eq_1) (@mU _ _ ac_wear_Cold_9.eq_1)) (@mU _ _ ac_wear_Cold_10.eq_1)) (And.intro (@mU _ _ ac_wear_Cold_11.eq_1) @l_wear_Cold_0.eq_1)) (And.intro (And.intro @l_wear_Cold_1.eq_1 @l_wear_Cold_2.eq_1) (And.intro @l_wear_Cold_3.eq_1 @l_wear_Cold_7.eq_1))))

/- scoria/scoriaref08.Gap -/
def l_ref08_Gap_0 : List AOp := [⟨(some 2), .mv (.k (.int .i64 0)), none, none, [], none⟩]
def ac_ref08_Gap_0 : AC := .reg l_ref08_Gap_0
def l_ref08_Gap_1 : List AOp := [⟨(some 7), .mv (.t 0), none, none, [], none⟩,
  ⟨(some 8), .call false 32 [(.t 7)], none, none, [], none⟩,
  ⟨(some 6), .mv (.t 8), none, none, [], none⟩,
  ⟨(some 9), .ext 0 (.t 6), none, none, [], none⟩,
  ⟨(some 10), .ext 1 (.t 6), none, none, [], none⟩,
  ⟨(some 11), .ext 2 (.t 6), none, none, [], none⟩,
  ⟨(some 3), .mv (.t 9), none, none, [], none⟩,
  ⟨(some 4), .mv (.t 10), none, none, [], none⟩,
  ⟨(some 5), .mv (.t 11), none, none, [], none⟩]
def ac_ref08_Gap_1 : AC := .reg l_ref08_Gap_1
def l_ref08_Gap_2 : List AOp := [⟨(some 12), .mv (.t 4), none, none, [], none⟩,
  ⟨(some 13), .mv (.t 3), none, none, [], none⟩,
  ⟨(some 14), .bin .sub (.t 12) (.t 13), none, none, [], none⟩,
  ⟨(some 2), .mv (.t 14), none, none, [], none⟩]
def ac_ref08_Gap_2 : AC := .reg l_ref08_Gap_2
def ac_ref08_Gap_3 : AC := .seq ac_ref08_Gap_2 .ret
def ac_ref08_Gap_4 : AC := .seq ac_ref08_Gap_1 ac_ref08_Gap_3
def ac_ref08_Gap_5 : AC := .seq ac_ref08_Gap_0 ac_ref08_Gap_4
def ac_ref08_Gap : AC := ac_ref08_Gap_5
theorem comp_ref08_Gap : compF Try.prog [] (drawR Try.prog [] Try.f18.ntmps) [] 1 Try.f18 = some (ac_ref08_Gap, [.t 2]) := by kernel_rfl
def U_ref08_Gap := (And.intro (And.intro (And.intro (And.intro @ac_ref08_Gap.eq_1 (@mR _ _ ac_ref08_Gap_0.eq_1)) (@mR _ _ ac_ref08_Gap_1.eq_1)) (And.intro (@mR _ _ ac_ref08_Gap_2.eq_1) (@mU _ _ ac_ref08_Gap_3.eq_1))) (And.intro (And.intro (And.intro (@mU _ _ ac_ref08_Gap_4.eq_1) (@mU _ _ ac_ref08_Gap_5.eq_1)) @l_ref08_Gap_0.eq_1) (And.intro @l_ref08_Gap_1.eq_1 @l_ref08_Gap_2.eq_1)))

/- scoria/scoriaref08.Cold -/
def l_ref08_Cold_0 : List AOp := [⟨(some 4), .mv (.k (.int .i64 0)), none, none, [], none⟩]
def ac_ref08_Cold_0 : AC := .reg l_ref08_Cold_0
def l_ref08_Cold_1 : List AOp := [⟨(some 11), .mv (.t 0), none, none, [], none⟩,
  ⟨(some 12), .call false 32 [(.t 11)], none, none, [], none⟩,
  ⟨(some 10), .mv (.t 12), none, none, [], none⟩,
  ⟨(some 13), .ext 0 (.t 10), none, none, [], none⟩,
  ⟨(some 14), .ext 1 (.t 10), none, none, [], none⟩,
  ⟨(some 15), .ext 2 (.t 10), none, none, [], none⟩,
  ⟨(some 5), .mv (.t 13), none, none, [], none⟩,
  ⟨(some 6), .mv (.t 14), none, none, [], none⟩,
  ⟨(some 7), .mv (.t 15), none, none, [], none⟩]
def ac_ref08_Cold_1 : AC := .reg l_ref08_Cold_1
def l_ref08_Cold_2 : List AOp := [⟨(some 8), .mv (.k (.int .i64 (-1))), none, none, [], none⟩]
def ac_ref08_Cold_2 : AC := .reg l_ref08_Cold_2
def l_ref08_Cold_3 : List AOp := [⟨(some 9), .mv (.k (.int .i64 0)), none, none, [], none⟩]
def ac_ref08_Cold_3 : AC := .reg l_ref08_Cold_3
def l_ref08_Cold_4 : List AOp := [⟨(some 16), .mv (.t 9), none, none, [], none⟩,
  ⟨(some 17), .mv (.t 0), none, none, [], none⟩,
  ⟨(some 18), .len (.t 17), none, none, [], none⟩,
  ⟨(some 19), .bin .lss (.t 16) (.t 18), none, none, [], none⟩]
def ac_ref08_Cold_4 : AC := .reg l_ref08_Cold_4
def ac_ref08_Cold_5 : AC := .cond (.t 19) .skip (.exit 0)
def ac_ref08_Cold_6 : AC := .seq ac_ref08_Cold_4 ac_ref08_Cold_5
def l_ref08_Cold_7 : List AOp := [⟨(some 22), .mv (.t 0), none, none, [], none⟩,
  ⟨(some 23), .mv (.t 9), none, none, [], none⟩,
  ⟨(some 24), .isl 3 (.t 22) (.t 23), none, none, [], none⟩,
  ⟨(some 25), .faddr 0 (.t 24), none, none, [], none⟩,
  ⟨(some 26), .load none (.t 25), none, none, [], none⟩,
  ⟨(some 27), .bin .eql (.t 26) (.k (.int .i64 2)), none, none, [], none⟩,
  ⟨(some 28), .mv (.t 27), none, none, [], none⟩,
  ⟨(some 29), .mv (.t 8), (some (28, true)), none, [], none⟩,
  ⟨(some 30), .bin .lss (.t 29) (.k (.int .i64 0)), (some (28, true)), none, [], none⟩,
  ⟨(some 31), .mv (.t 30), (some (28, true)), none, [], none⟩,
  ⟨(some 32), .mv (.t 0), (some (31, false)), none, [], none⟩,
  ⟨(some 33), .mv (.t 9), (some (31, false)), none, [], none⟩,
  ⟨(some 34), .isl 3 (.t 32) (.t 33), (some (31, false)), none, [], none⟩,
  ⟨(some 35), .faddr 2 (.t 34), (some (31, false)), none, [], none⟩,
  ⟨(some 36), .load none (.t 35), (some (31, false)), none, [], none⟩,
  ⟨(some 37), .call false 28 [(.t 36)], (some (31, false)), none, [], none⟩,
  ⟨(some 38), .mv (.t 0), (some (31, false)), none, [], none⟩,
  ⟨(some 39), .mv (.t 8), (some (31, false)), none, [], none⟩,
  ⟨(some 40), .isl 3 (.t 38) (.t 39), (some (31, false)), none, [], none⟩,
  ⟨(some 41), .faddr 2 (.t 40), (some (31, false)), none, [], none⟩,
  ⟨(some 42), .load none (.t 41), (some (31, false)), none, [], none⟩,
  ⟨(some 43), .call false 28 [(.t 42)], (some (31, false)), none, [], none⟩,
  ⟨(some 44), .bin .lss (.t 37) (.t 43), (some (31, false)), none, [], none⟩,
  ⟨(some 45), .pick (.t 31) (.k (.bool true)) (.t 44), (some (28, true)), none, [], none⟩,
  ⟨(some 46), .pick (.t 28) (.t 45) (.k (.bool false)), none, none, [], none⟩]
def ac_ref08_Cold_7 : AC := .dreg 0 l_ref08_Cold_7
def l_ref08_Cold_8 : List AOp := [⟨(some 47), .mv (.t 9), none, none, [], none⟩,
  ⟨(some 8), .mv (.t 47), none, none, [], none⟩]
def ac_ref08_Cold_8 : AC := .reg l_ref08_Cold_8
def ac_ref08_Cold_9 : AC := .cond (.t 46) ac_ref08_Cold_8 .skip
def ac_ref08_Cold_10 : AC := .seq ac_ref08_Cold_7 ac_ref08_Cold_9
def ac_ref08_Cold_11 : AC := .block 1 ac_ref08_Cold_10
def l_ref08_Cold_12 : List AOp := [⟨(some 20), .mv (.t 9), none, none, [], none⟩,
  ⟨(some 21), .bin .add (.t 20) (.k (.int .i64 1)), none, none, [], none⟩,
  ⟨(some 9), .mv (.t 21), none, none, [], none⟩]
def ac_ref08_Cold_12 : AC := .reg l_ref08_Cold_12
def ac_ref08_Cold_13 : AC := .seq ac_ref08_Cold_11 ac_ref08_Cold_12
def ac_ref08_Cold_14 : AC := .seq ac_ref08_Cold_6 ac_ref08_Cold_13
def ac_ref08_Cold_15 : AC := .loop [0, 1, 6, 8, 9] 0 ac_ref08_Cold_14
def ac_ref08_Cold_16 : AC := .block 0 ac_ref08_Cold_15
def ac_ref08_Cold_17 : AC := .seq ac_ref08_Cold_3 ac_ref08_Cold_16
def l_ref08_Cold_18 : List AOp := [⟨(some 48), .mv (.t 8), none, none, [], none⟩,
  ⟨(some 49), .bin .geq (.t 48) (.k (.int .i64 0)), none, none, [], none⟩,
  ⟨(some 50), .mv (.t 49), none, none, [], none⟩,
  ⟨(some 51), .mv (.t 6), (some (50, true)), none, [], none⟩,
  ⟨(some 52), .mv (.t 0), (some (50, true)), none, [], none⟩,
  ⟨(some 53), .mv (.t 8), (some (50, true)), none, [], none⟩,
  ⟨(some 54), .isl 3 (.t 52) (.t 53), (some (50, true)), none, [], none⟩,
  ⟨(some 55), .faddr 2 (.t 54), (some (50, true)), none, [], none⟩,
  ⟨(some 56), .load none (.t 55), (some (50, true)), none, [], none⟩,
  ⟨(some 57), .call false 28 [(.t 56)], (some (50, true)), none, [], none⟩,
  ⟨(some 58), .bin .sub (.t 51) (.t 57), (some (50, true)), none, [], none⟩,
  ⟨(some 59), .mv (.t 1), (some (50, true)), none, [], none⟩,
  ⟨(some 60), .call false 28 [(.t 59)], (some (50, true)), none, [], none⟩,
  ⟨(some 61), .bin .leq (.t 58) (.t 60), (some (50, true)), none, [], none⟩,
  ⟨(some 62), .pick (.t 50) (.t 61) (.k (.bool false)), none, none, [], none⟩]
def ac_ref08_Cold_18 : AC := .reg l_ref08_Cold_18
def l_ref08_Cold_19 : List AOp := [⟨(some 4), .mv (.k (.int .i64 (-1))), none, none, [], none⟩]
def ac_ref08_Cold_19 : AC := .reg l_ref08_Cold_19
def ac_ref08_Cold_20 : AC := .seq ac_ref08_Cold_19 .ret
def ac_ref08_Cold_21 : AC := .cond (.t 62) ac_ref08_Cold_20 .skip
def ac_ref08_Cold_22 : AC := .seq ac_ref08_Cold_18 ac_ref08_Cold_21
def l_ref08_Cold_23 : List AOp := [⟨(some 63), .mv (.t 8), none, none, [], none⟩,
  ⟨(some 4), .mv (.t 63), none, none, [], none⟩]
def ac_ref08_Cold_23 : AC := .reg l_ref08_Cold_23
def ac_ref08_Cold_24 : AC := .seq ac_ref08_Cold_23 .ret
def ac_ref08_Cold_25 : AC := .seq ac_ref08_Cold_22 ac_ref08_Cold_24
def ac_ref08_Cold_26 : AC := .seq ac_ref08_Cold_17 ac_ref08_Cold_25
def ac_ref08_Cold_27 : AC := .seq ac_ref08_Cold_2 ac_ref08_Cold_26
def ac_ref08_Cold_28 : AC := .seq ac_ref08_Cold_1 ac_ref08_Cold_27
def ac_ref08_Cold_29 : AC := .seq ac_ref08_Cold_0 ac_ref08_Cold_28
def ac_ref08_Cold : AC := ac_ref08_Cold_29
theorem comp_ref08_Cold : compF Try.prog [] (drawR Try.prog [] Try.f19.ntmps) [([0, 1, 6, 8, 9], 0)] 2 Try.f19 = some (ac_ref08_Cold, [.t 4]) := by kernel_rfl
def U_ref08_Cold := (And.intro (And.intro (And.intro (And.intro (And.intro (And.intro @ac_ref08_Cold.eq_1 (@mR _ _ ac_ref08_Cold_0.eq_1)) (@mR _ _ ac_ref08_Cold_1.eq_1)) (And.intro (And.intro (@mR _ _ ac_ref08_Cold_2.eq_1) (@mR _ _ ac_ref08_Cold_3.eq_1)) (@mR _ _ ac_ref08_Cold_4.eq_1))) (And.intro (And.intro (And.intro (@mU _ _ ac_ref08_Cold_5.eq_1) (@mU _ _ ac_ref08_Cold_6.eq_1)) (@mD _ _ _ ac_ref08_Cold_7.eq_1)) (And.intro (@mR _ _ ac_ref08_Cold_8.eq_1) (@mU _ _ ac_ref08_Cold_9.eq_1)))) (And.intro (And.intro (And.intro (And.intro (@mU _ _ ac_ref08_Cold_10.eq_1) (@mU _ _ ac_ref08_Cold_11.eq_1)) (@mR _ _ ac_ref08_Cold_12.eq_1)) (And.intro (@mU _ _ ac_ref08_Cold_13.eq_1) (@mU _ _ ac_ref08_Cold_14.eq_1))) (And.intro (And.intro (And.intro (@mU _ _ ac_ref08_Cold_15.eq_1) (@mU _ _ ac_ref08_Cold_16.eq_1)) (@mU _ _ ac_ref08_Cold_17.eq_1)) (And.intro (@mR _ _ ac_ref08_Cold_18.eq_1) (@mR _ _ ac_ref08_Cold_19.eq_1))))) (And.intro (And.intro (And.intro (And.intro (And.intro (@mU _ _ ac_ref08_Cold_20.eq_1) (@mU _ _ ac_ref08_Cold_21.eq_1)) (@mU _ _ ac_ref08_Cold_22.eq_1)) (And.intro (And.intro (@mR _ _ ac_ref08_Cold_23.eq_1) (@mU _ _ ac_ref08_Cold_24.eq_1)) (@mU _ _ ac_ref08_Cold_25.eq_1))) (And.intro (And.intro (And.intro (@mU _ _ ac_ref08_Cold_26.eq_1) (@mU _ _ ac_ref08_Cold_27.eq_1)) (@mU _ _ ac_ref08_Cold_28.eq_1)) (And.intro (@mU _ _ ac_ref08_Cold_29.eq_1) @l_ref08_Cold_0.eq_1))) (And.intro (And.intro (And.intro (And.intro @l_ref08_Cold_1.eq_1 @l_ref08_Cold_2.eq_1) @l_ref08_Cold_3.eq_1) (And.intro @l_ref08_Cold_4.eq_1 @l_ref08_Cold_7.eq_1)) (And.intro (And.intro (And.intro @l_ref08_Cold_8.eq_1 @l_ref08_Cold_12.eq_1) @l_ref08_Cold_18.eq_1) (And.intro @l_ref08_Cold_19.eq_1 @l_ref08_Cold_23.eq_1)))))

/- scoria/wear.Victim$1 -/
def l_wear_Victim_c1_0 : List AOp := [⟨(some 1), .box (.t 0), none, none, [], none⟩,
  ⟨(some 2), .mv (.k (.bool false)), none, none, [], none⟩]
def ac_wear_Victim_c1_0 : AC := .reg l_wear_Victim_c1_0
def l_wear_Victim_c1_1 : List AOp := [⟨(some 3), .faddr 0 (.t 1), none, none, [], none⟩,
  ⟨(some 4), .load none (.t 3), none, none, [], none⟩,
  ⟨(some 5), .bin .eql (.t 4) (.k (.int .i64 3)), none, none, [], none⟩,
  ⟨(some 6), .mv (.t 5), none, none, [], none⟩,
  ⟨(some 7), .faddr 1 (.t 1), (some (6, true)), none, [], none⟩,
  ⟨(some 8), .load none (.t 7), (some (6, true)), none, [], none⟩,
  ⟨(some 9), .bin .gtr (.t 8) (.k (.int .i64 0)), (some (6, true)), none, [], none⟩,
  ⟨(some 10), .pick (.t 6) (.t 9) (.k (.bool false)), none, none, [], none⟩,
  ⟨(some 2), .mv (.t 10), none, none, [], none⟩]
def ac_wear_Victim_c1_1 : AC := .reg l_wear_Victim_c1_1
def ac_wear_Victim_c1_2 : AC := .seq ac_wear_Victim_c1_1 .ret
def ac_wear_Victim_c1_3 : AC := .seq ac_wear_Victim_c1_0 ac_wear_Victim_c1_2
def ac_wear_Victim_c1 : AC := ac_wear_Victim_c1_3
theorem comp_wear_Victim_c1 : compF Try.prog [] (drawR Try.prog [] Try.f20.ntmps) [] 1 Try.f20 = some (ac_wear_Victim_c1, [.t 2]) := by kernel_rfl
def U_wear_Victim_c1 := (And.intro (And.intro (And.intro @ac_wear_Victim_c1.eq_1 (@mR _ _ ac_wear_Victim_c1_0.eq_1)) (And.intro (@mR _ _ ac_wear_Victim_c1_1.eq_1) (@mU _ _ ac_wear_Victim_c1_2.eq_1))) (And.intro (And.intro (@mU _ _ ac_wear_Victim_c1_3.eq_1) @l_wear_Victim_c1_0.eq_1) @l_wear_Victim_c1_1.eq_1))

/- scoria/wear.least[scoria/api.Block] -/
def l_wear_least_api_Block_0 : List AOp := [⟨(some 6), .mv (.k (.int .i64 0)), none, none, [], none⟩]
def ac_wear_least_api_Block_0 : AC := .reg l_wear_least_api_Block_0
def l_wear_least_api_Block_1 : List AOp := [⟨(some 7), .mv (.k (.int .i64 (-1))), none, none, [], none⟩]
def ac_wear_least_api_Block_1 : AC := .reg l_wear_least_api_Block_1
def l_wear_least_api_Block_2 : List AOp := [⟨(some 10), .mv (.t 0), none, none, [], none⟩,
  ⟨(some 11), .len (.t 10), none, none, [], none⟩,
  ⟨(some 12), .mv (.k (.int .i64 0)), none, none, [], none⟩]
def ac_wear_least_api_Block_2 : AC := .reg l_wear_least_api_Block_2
def l_wear_least_api_Block_3 : List AOp := [⟨(some 13), .bin .lss (.t 12) (.t 11), none, none, [], none⟩]
def ac_wear_least_api_Block_3 : AC := .reg l_wear_least_api_Block_3
def ac_wear_least_api_Block_4 : AC := .cond (.t 13) .skip (.exit 0)
def l_wear_least_api_Block_5 : List AOp := [⟨(some 14), .mv (.t 12), none, none, [], none⟩,
  ⟨(some 15), .isl 3 (.t 10) (.t 12), none, none, [], none⟩,
  ⟨(some 16), .load (some 3) (.t 15), none, none, [], none⟩,
  ⟨(some 9), .alloc [(.int .i64 0), (.int .i64 0), (.int .i64 0)], none, none, [], none⟩,
  ⟨(some 8), .mv (.t 14), none, none, [], none⟩,
  ⟨none, .store 3 (.t 9) (.t 16), none, none, [], none⟩]
def ac_wear_least_api_Block_5 : AC := .reg l_wear_least_api_Block_5
def l_wear_least_api_Block_6 : List AOp := [⟨(some 17), .mv (.t 1), none, none, [], none⟩,
  ⟨(some 18), .load (some 3) (.t 9), none, none, [], none⟩,
  ⟨(some 19), .callv (.t 17) [(.t 18)], none, none, [], none⟩,
  ⟨(some 20), .mv (.t 19), none, none, [], none⟩,
  ⟨(some 21), .mv (.t 7), (some (20, true)), none, [], none⟩,
  ⟨(some 22), .bin .lss (.t 21) (.k (.int .i64 0)), (some (20, true)), none, [], none⟩,
  ⟨(some 23), .mv (.t 22), (some (20, true)), none, [], none⟩,
  ⟨(some 24), .mv (.t 2), (some (23, false)), none, [], none⟩,
  ⟨(some 25), .load (some 3) (.t 9), (some (23, false)), none, [], none⟩,
  ⟨(some 26), .mv (.t 0), (some (23, false)), none, [], none⟩,
  ⟨(some 27), .mv (.t 7), (some (23, false)), none, [], none⟩,
  ⟨(some 28), .isl 3 (.t 26) (.t 27), (some (23, false)), none, [], none⟩,
  ⟨(some 29), .load (some 3) (.t 28), (some (23, false)), none, [], none⟩,
  ⟨(some 30), .callv (.t 24) [(.t 25), (.t 29)], (some (23, false)), none, [], none⟩,
  ⟨(some 31), .bin .lss (.t 30) (.k (.int .i64 0)), (some (23, false)), none, [], none⟩,
  ⟨(some 32), .pick (.t 23) (.k (.bool true)) (.t 31), (some (20, true)), none, [], none⟩,
  ⟨(some 33), .pick (.t 20) (.t 32) (.k (.bool false)), none, none, [], none⟩]
def ac_wear_least_api_Block_6 : AC := .dreg 0 l_wear_least_api_Block_6
def l_wear_least_api_Block_7 : List AOp := [⟨(some 34), .mv (.t 8), none, none, [], none⟩,
  ⟨(some 7), .mv (.t 34), none, none, [], none⟩]
def ac_wear_least_api_Block_7 : AC := .reg l_wear_least_api_Block_7
def ac_wear_least_api_Block_8 : AC := .cond (.t 33) ac_wear_least_api_Block_7 .skip
def ac_wear_least_api_Block_9 : AC := .seq ac_wear_least_api_Block_6 ac_wear_least_api_Block_8
def ac_wear_least_api_Block_10 : AC := .seq ac_wear_least_api_Block_5 ac_wear_least_api_Block_9
def ac_wear_least_api_Block_11 : AC := .block 1 ac_wear_least_api_Block_10
def l_wear_least_api_Block_12 : List AOp := [⟨(some 35), .bin .add (.t 12) (.k (.int .i64 1)), none, none, [], none⟩,
  ⟨(some 12), .mv (.t 35), none, none, [], none⟩]
def ac_wear_least_api_Block_12 : AC := .reg l_wear_least_api_Block_12
def ac_wear_least_api_Block_13 : AC := .seq ac_wear_least_api_Block_11 ac_wear_least_api_Block_12
def ac_wear_least_api_Block_14 : AC := .seq ac_wear_least_api_Block_4 ac_wear_least_api_Block_13
def ac_wear_least_api_Block_15 : AC := .seq ac_wear_least_api_Block_3 ac_wear_least_api_Block_14
def ac_wear_least_api_Block_16 : AC := .loop [0, 1, 2, 7, 10, 11, 12] 0 ac_wear_least_api_Block_15
def ac_wear_least_api_Block_17 : AC := .block 0 ac_wear_least_api_Block_16
def ac_wear_least_api_Block_18 : AC := .seq ac_wear_least_api_Block_2 ac_wear_least_api_Block_17
def l_wear_least_api_Block_19 : List AOp := [⟨(some 36), .mv (.t 7), none, none, [], none⟩,
  ⟨(some 6), .mv (.t 36), none, none, [], none⟩]
def ac_wear_least_api_Block_19 : AC := .reg l_wear_least_api_Block_19
def ac_wear_least_api_Block_20 : AC := .seq ac_wear_least_api_Block_19 .ret
def ac_wear_least_api_Block_21 : AC := .seq ac_wear_least_api_Block_18 ac_wear_least_api_Block_20
def ac_wear_least_api_Block_22 : AC := .seq ac_wear_least_api_Block_1 ac_wear_least_api_Block_21
def ac_wear_least_api_Block_23 : AC := .seq ac_wear_least_api_Block_0 ac_wear_least_api_Block_22
def ac_wear_least_api_Block : AC := ac_wear_least_api_Block_23
theorem comp_wear_least_api_Block : compF Try.prog [] (drawR Try.prog [] Try.f21.ntmps) [([0, 1, 2, 7, 10, 11, 12], 0)] 3 Try.f21 = some (ac_wear_least_api_Block, [.t 6]) := by kernel_rfl
def U_wear_least_api_Block := (And.intro (And.intro (And.intro (And.intro (And.intro (And.intro @ac_wear_least_api_Block.eq_1 (@mR _ _ ac_wear_least_api_Block_0.eq_1)) (@mR _ _ ac_wear_least_api_Block_1.eq_1)) (And.intro (@mR _ _ ac_wear_least_api_Block_2.eq_1) (@mR _ _ ac_wear_least_api_Block_3.eq_1))) (And.intro (And.intro (@mU _ _ ac_wear_least_api_Block_4.eq_1) (@mR _ _ ac_wear_least_api_Block_5.eq_1)) (And.intro (@mD _ _ _ ac_wear_least_api_Block_6.eq_1) (@mR _ _ ac_wear_least_api_Block_7.eq_1)))) (And.intro (And.intro (And.intro (@mU _ _ ac_wear_least_api_Block_8.eq_1) (@mU _ _ ac_wear_least_api_Block_9.eq_1)) (And.intro (@mU _ _ ac_wear_least_api_Block_10.eq_1) (@mU _ _ ac_wear_least_api_Block_11.eq_1))) (And.intro (And.intro (@mR _ _ ac_wear_least_api_Block_12.eq_1) (@mU _ _ ac_wear_least_api_Block_13.eq_1)) (And.intro (@mU _ _ ac_wear_least_api_Block_14.eq_1) (@mU _ _ ac_wear_least_api_Block_15.eq_1))))) (And.intro (And.intro (And.intro (And.intro (And.intro (@mU _ _ ac_wear_least_api_Block_16.eq_1) (@mU _ _ ac_wear_least_api_Block_17.eq_1)) (@mU _ _ ac_wear_least_api_Block_18.eq_1)) (And.intro (@mR _ _ ac_wear_least_api_Block_19.eq_1) (@mU _ _ ac_wear_least_api_Block_20.eq_1))) (And.intro (And.intro (@mU _ _ ac_wear_least_api_Block_21.eq_1) (@mU _ _ ac_wear_least_api_Block_22.eq_1)) (And.intro (@mU _ _ ac_wear_least_api_Block_23.eq_1) @l_wear_least_api_Block_0.eq_1))) (And.intro (And.intro (And.intro @l_wear_least_api_Block_1.eq_1 @l_wear_least_api_Block_2.eq_1) (And.intro @l_wear_least_api_Block_3.eq_1 @l_wear_least_api_Block_5.eq_1)) (And.intro (And.intro @l_wear_least_api_Block_6.eq_1 @l_wear_least_api_Block_7.eq_1) (And.intro @l_wear_least_api_Block_12.eq_1 @l_wear_least_api_Block_19.eq_1)))))

/- scoria/wear.Victim$2 -/
def l_wear_Victim_c2_0 : List AOp := [⟨(some 2), .box (.t 0), none, none, [], none⟩,
  ⟨(some 3), .box (.t 1), none, none, [], none⟩,
  ⟨(some 4), .mv (.k (.int .i64 0)), none, none, [], none⟩]
def ac_wear_Victim_c2_0 : AC := .reg l_wear_Victim_c2_0
def l_wear_Victim_c2_1 : List AOp := [⟨(some 4), .mv (.k (.int .i64 0)), none, none, [], none⟩]
def ac_wear_Victim_c2_1 : AC := .reg l_wear_Victim_c2_1
def ac_wear_Victim_c2_2 : AC := .seq ac_wear_Victim_c2_1 .ret
def ac_wear_Victim_c2_3 : AC := .seq ac_wear_Victim_c2_0 ac_wear_Victim_c2_2
def ac_wear_Victim_c2 : AC := ac_wear_Victim_c2_3
theorem comp_wear_Victim_c2 : compF Try.prog [] (drawR Try.prog [] Try.f22.ntmps) [] 2 Try.f22 = some (ac_wear_Victim_c2, [.t 4]) := by kernel_rfl
def U_wear_Victim_c2 := (And.intro (And.intro (And.intro @ac_wear_Victim_c2.eq_1 (@mR _ _ ac_wear_Victim_c2_0.eq_1)) (And.intro (@mR _ _ ac_wear_Victim_c2_1.eq_1) (@mU _ _ ac_wear_Victim_c2_2.eq_1))) (And.intro (And.intro (@mU _ _ ac_wear_Victim_c2_3.eq_1) @l_wear_Victim_c2_0.eq_1) @l_wear_Victim_c2_1.eq_1))

/- scoria/wear.is -/
def l_wear_is_0 : List AOp := [⟨(some 1), .box (.t 0), none, none, [], none⟩,
  ⟨(some 2), .mv (.k .nilf), none, none, [], none⟩]
def ac_wear_is_0 : AC := .reg l_wear_is_0
def l_wear_is_1 : List AOp := [⟨(some 3), .mkfn (.func 33) [] [(.t 1)], none, none, [], none⟩,
  ⟨(some 2), .mv (.t 3), none, none, [], none⟩]
def ac_wear_is_1 : AC := .reg l_wear_is_1
def ac_wear_is_2 : AC := .seq ac_wear_is_1 .ret
def ac_wear_is_3 : AC := .seq ac_wear_is_0 ac_wear_is_2
def ac_wear_is : AC := ac_wear_is_3
theorem comp_wear_is : compF Try.prog [] (drawR Try.prog [] Try.f23.ntmps) [] 1 Try.f23 = some (ac_wear_is, [.t 2]) := by kernel_rfl
def U_wear_is := (And.intro (And.intro (And.intro @ac_wear_is.eq_1 (@mR _ _ ac_wear_is_0.eq_1)) (And.intro (@mR _ _ ac_wear_is_1.eq_1) (@mU _ _ ac_wear_is_2.eq_1))) (And.intro (And.intro (@mU _ _ ac_wear_is_3.eq_1) @l_wear_is_0.eq_1) @l_wear_is_1.eq_1))

/- scoria/wear.Victim$3 -/
def l_wear_Victim_c3_0 : List AOp := [⟨(some 2), .box (.t 0), none, none, [], none⟩,
  ⟨(some 3), .box (.t 1), none, none, [], none⟩,
  ⟨(some 4), .mv (.k (.int .i64 0)), none, none, [], none⟩]
def ac_wear_Victim_c3_0 : AC := .reg l_wear_Victim_c3_0
def l_wear_Victim_c3_1 : List AOp := [⟨(some 5), .faddr 1 (.t 2), none, none, [], none⟩,
  ⟨(some 6), .load none (.t 5), none, none, [], none⟩,
  ⟨(some 7), .faddr 1 (.t 3), none, none, [], none⟩,
  ⟨(some 8), .load none (.t 7), none, none, [], none⟩,
  ⟨(some 9), .call false 26 [(.t 6), (.t 8)], none, none, [], none⟩,
  ⟨(some 10), .load (some 3) (.t 2), none, none, [], none⟩,
  ⟨(some 11), .load (some 3) (.t 3), none, none, [], none⟩,
  ⟨(some 12), .call false 27 [(.t 10), (.t 11)], none, none, [], none⟩,
  ⟨(some 13), .blds false [(.int .i64 0)] 2 [(0, (.t 9)), (1, (.t 12))], none, none, [], none⟩,
  ⟨(some 14), .call false 25 [(.t 13)], none, none, [], none⟩,
  ⟨(some 4), .mv (.t 14), none, none, [], none⟩]
def ac_wear_Victim_c3_1 : AC := .dreg 0 l_wear_Victim_c3_1
def ac_wear_Victim_c3_2 : AC := .seq ac_wear_Victim_c3_1 .ret
def ac_wear_Victim_c3_3 : AC := .seq ac_wear_Victim_c3_0 ac_wear_Victim_c3_2
def ac_wear_Victim_c3 : AC := ac_wear_Victim_c3_3
theorem comp_wear_Victim_c3 : compF Try.prog [] (drawR Try.prog [] Try.f24.ntmps) [] 2 Try.f24 = some (ac_wear_Victim_c3, [.t 4]) := by kernel_rfl
def U_wear_Victim_c3 := (And.intro (And.intro (And.intro @ac_wear_Victim_c3.eq_1 (@mR _ _ ac_wear_Victim_c3_0.eq_1)) (And.intro (@mD _ _ _ ac_wear_Victim_c3_1.eq_1) (@mU _ _ ac_wear_Victim_c3_2.eq_1))) (And.intro (And.intro (@mU _ _ ac_wear_Victim_c3_3.eq_1) @l_wear_Victim_c3_0.eq_1) @l_wear_Victim_c3_1.eq_1))

/- cmp.Or[int] -/
def l_cmp_Or_int_0 : List AOp := [⟨(some 2), .mv (.k (.int .i64 0)), none, none, [], none⟩]
def ac_cmp_Or_int_0 : AC := .reg l_cmp_Or_int_0
def l_cmp_Or_int_1 : List AOp := [⟨(some 3), .mv (.k (.int .i64 0)), none, none, [], none⟩]
def ac_cmp_Or_int_1 : AC := .reg l_cmp_Or_int_1
def l_cmp_Or_int_2 : List AOp := [⟨(some 6), .mv (.t 0), none, none, [], none⟩,
  ⟨(some 7), .len (.t 6), none, none, [], none⟩,
  ⟨(some 8), .mv (.k (.int .i64 0)), none, none, [], none⟩]
def ac_cmp_Or_int_2 : AC := .reg l_cmp_Or_int_2
def l_cmp_Or_int_3 : List AOp := [⟨(some 9), .bin .lss (.t 8) (.t 7), none, none, [], none⟩]
def ac_cmp_Or_int_3 : AC := .reg l_cmp_Or_int_3
def ac_cmp_Or_int_4 : AC := .cond (.t 9) .skip (.exit 0)
def l_cmp_Or_int_5 : List AOp := [⟨(some 10), .isl 1 (.t 6) (.t 8), none, none, [], none⟩,
  ⟨(some 11), .load none (.t 10), none, none, [], none⟩,
  ⟨(some 5), .mv (.t 11), none, none, [], none⟩]
def ac_cmp_Or_int_5 : AC := .reg l_cmp_Or_int_5
def l_cmp_Or_int_6 : List AOp := [⟨(some 12), .mv (.t 5), none, none, [], none⟩,
  ⟨(some 13), .mv (.t 3), none, none, [], none⟩,
  ⟨(some 14), .bin .neq (.t 12) (.t 13), none, none, [], none⟩]
def ac_cmp_Or_int_6 : AC := .reg l_cmp_Or_int_6
def l_cmp_Or_int_7 : List AOp := [⟨(some 15), .mv (.t 5), none, none, [], none⟩,
  ⟨(some 2), .mv (.t 15), none, none, [], none⟩]
def ac_cmp_Or_int_7 : AC := .reg l_cmp_Or_int_7
def ac_cmp_Or_int_8 : AC := .seq ac_cmp_Or_int_7 .ret
def ac_cmp_Or_int_9 : AC := .cond (.t 14) ac_cmp_Or_int_8 .skip
def ac_cmp_Or_int_10 : AC := .seq ac_cmp_Or_int_6 ac_cmp_Or_int_9
def ac_cmp_Or_int_11 : AC := .seq ac_cmp_Or_int_5 ac_cmp_Or_int_10
def ac_cmp_Or_int_12 : AC := .block 1 ac_cmp_Or_int_11
def l_cmp_Or_int_13 : List AOp := [⟨(some 16), .bin .add (.t 8) (.k (.int .i64 1)), none, none, [], none⟩,
  ⟨(some 8), .mv (.t 16), none, none, [], none⟩]
def ac_cmp_Or_int_13 : AC := .reg l_cmp_Or_int_13
def ac_cmp_Or_int_14 : AC := .seq ac_cmp_Or_int_12 ac_cmp_Or_int_13
def ac_cmp_Or_int_15 : AC := .seq ac_cmp_Or_int_4 ac_cmp_Or_int_14
def ac_cmp_Or_int_16 : AC := .seq ac_cmp_Or_int_3 ac_cmp_Or_int_15
def ac_cmp_Or_int_17 : AC := .loop [3, 6, 7, 8] 0 ac_cmp_Or_int_16
def ac_cmp_Or_int_18 : AC := .block 0 ac_cmp_Or_int_17
def ac_cmp_Or_int_19 : AC := .seq ac_cmp_Or_int_2 ac_cmp_Or_int_18
def l_cmp_Or_int_20 : List AOp := [⟨(some 17), .mv (.t 3), none, none, [], none⟩,
  ⟨(some 2), .mv (.t 17), none, none, [], none⟩]
def ac_cmp_Or_int_20 : AC := .reg l_cmp_Or_int_20
def ac_cmp_Or_int_21 : AC := .seq ac_cmp_Or_int_20 .ret
def ac_cmp_Or_int_22 : AC := .seq ac_cmp_Or_int_19 ac_cmp_Or_int_21
def ac_cmp_Or_int_23 : AC := .seq ac_cmp_Or_int_1 ac_cmp_Or_int_22
def ac_cmp_Or_int_24 : AC := .seq ac_cmp_Or_int_0 ac_cmp_Or_int_23
def ac_cmp_Or_int : AC := ac_cmp_Or_int_24
theorem comp_cmp_Or_int : compF Try.prog [] (drawR Try.prog [] Try.f25.ntmps) [([3, 6, 7, 8], 0)] 1 Try.f25 = some (ac_cmp_Or_int, [.t 2]) := by kernel_rfl
def U_cmp_Or_int := (And.intro (And.intro (And.intro (And.intro (And.intro (And.intro @ac_cmp_Or_int.eq_1 (@mR _ _ ac_cmp_Or_int_0.eq_1)) (@mR _ _ ac_cmp_Or_int_1.eq_1)) (And.intro (@mR _ _ ac_cmp_Or_int_2.eq_1) (@mR _ _ ac_cmp_Or_int_3.eq_1))) (And.intro (And.intro (@mU _ _ ac_cmp_Or_int_4.eq_1) (@mR _ _ ac_cmp_Or_int_5.eq_1)) (And.intro (@mR _ _ ac_cmp_Or_int_6.eq_1) (@mR _ _ ac_cmp_Or_int_7.eq_1)))) (And.intro (And.intro (And.intro (And.intro (@mU _ _ ac_cmp_Or_int_8.eq_1) (@mU _ _ ac_cmp_Or_int_9.eq_1)) (@mU _ _ ac_cmp_Or_int_10.eq_1)) (And.intro (@mU _ _ ac_cmp_Or_int_11.eq_1) (@mU _ _ ac_cmp_Or_int_12.eq_1))) (And.intro (And.intro (@mR _ _ ac_cmp_Or_int_13.eq_1) (@mU _ _ ac_cmp_Or_int_14.eq_1)) (And.intro (@mU _ _ ac_cmp_Or_int_15.eq_1) (@mU _ _ ac_cmp_Or_int_16.eq_1))))) (And.intro (And.intro (And.intro (And.intro (And.intro (@mU _ _ ac_cmp_Or_int_17.eq_1) (@mU _ _ ac_cmp_Or_int_18.eq_1)) (@mU _ _ ac_cmp_Or_int_19.eq_1)) (And.intro (@mR _ _ ac_cmp_Or_int_20.eq_1) (@mU _ _ ac_cmp_Or_int_21.eq_1))) (And.intro (And.intro (@mU _ _ ac_cmp_Or_int_22.eq_1) (@mU _ _ ac_cmp_Or_int_23.eq_1)) (And.intro (@mU _ _ ac_cmp_Or_int_24.eq_1) @l_cmp_Or_int_0.eq_1))) (And.intro (And.intro (And.intro @l_cmp_Or_int_1.eq_1 @l_cmp_Or_int_2.eq_1) (And.intro @l_cmp_Or_int_3.eq_1 @l_cmp_Or_int_5.eq_1)) (And.intro (And.intro @l_cmp_Or_int_6.eq_1 @l_cmp_Or_int_7.eq_1) (And.intro @l_cmp_Or_int_13.eq_1 @l_cmp_Or_int_20.eq_1)))))

/- cmp.Compare[int] -/
def l_cmp_Compare_int_0 : List AOp := [⟨(some 4), .mv (.k (.int .i64 0)), none, none, [], none⟩]
def ac_cmp_Compare_int_0 : AC := .reg l_cmp_Compare_int_0
def l_cmp_Compare_int_1 : List AOp := [⟨(some 7), .mv (.t 0), none, none, [], none⟩,
  ⟨(some 8), .call false 34 [(.t 7)], none, none, [], none⟩,
  ⟨(some 5), .mv (.t 8), none, none, [], none⟩]
def ac_cmp_Compare_int_1 : AC := .reg l_cmp_Compare_int_1
def l_cmp_Compare_int_2 : List AOp := [⟨(some 9), .mv (.t 1), none, none, [], none⟩,
  ⟨(some 10), .call false 34 [(.t 9)], none, none, [], none⟩,
  ⟨(some 6), .mv (.t 10), none, none, [], none⟩]
def ac_cmp_Compare_int_2 : AC := .reg l_cmp_Compare_int_2
def l_cmp_Compare_int_3 : List AOp := [⟨(some 11), .mv (.t 5), none, none, [], none⟩]
def ac_cmp_Compare_int_3 : AC := .reg l_cmp_Compare_int_3
def l_cmp_Compare_int_4 : List AOp := [⟨(some 12), .mv (.t 6), none, none, [], none⟩]
def ac_cmp_Compare_int_4 : AC := .reg l_cmp_Compare_int_4
def l_cmp_Compare_int_5 : List AOp := [⟨(some 4), .mv (.k (.int .i64 0)), none, none, [], none⟩]
def ac_cmp_Compare_int_5 : AC := .reg l_cmp_Compare_int_5
def ac_cmp_Compare_int_6 : AC := .seq ac_cmp_Compare_int_5 .ret
def ac_cmp_Compare_int_7 : AC := .cond (.t 12) ac_cmp_Compare_int_6 .skip
def ac_cmp_Compare_int_8 : AC := .seq ac_cmp_Compare_int_4 ac_cmp_Compare_int_7
def l_cmp_Compare_int_9 : List AOp := [⟨(some 4), .mv (.k (.int .i64 (-1))), none, none, [], none⟩]
def ac_cmp_Compare_int_9 : AC := .reg l_cmp_Compare_int_9
def ac_cmp_Compare_int_10 : AC := .seq ac_cmp_Compare_int_9 .ret
def ac_cmp_Compare_int_11 : AC := .seq ac_cmp_Compare_int_8 ac_cmp_Compare_int_10
def ac_cmp_Compare_int_12 : AC := .cond (.t 11) ac_cmp_Compare_int_11 .skip
def ac_cmp_Compare_int_13 : AC := .seq ac_cmp_Compare_int_3 ac_cmp_Compare_int_12
def l_cmp_Compare_int_14 : List AOp := [⟨(some 13), .mv (.t 6), none, none, [], none⟩]
def ac_cmp_Compare_int_14 : AC := .reg l_cmp_Compare_int_14
def l_cmp_Compare_int_15 : List AOp := [⟨(some 4), .mv (.k (.int .i64 1)), none, none, [], none⟩]
def ac_cmp_Compare_int_15 : AC := .reg l_cmp_Compare_int_15
def ac_cmp_Compare_int_16 : AC := .seq ac_cmp_Compare_int_15 .ret
def ac_cmp_Compare_int_17 : AC := .cond (.t 13) ac_cmp_Compare_int_16 .skip
def ac_cmp_Compare_int_18 : AC := .seq ac_cmp_Compare_int_14 ac_cmp_Compare_int_17
def l_cmp_Compare_int_19 : List AOp := [⟨(some 14), .mv (.t 0), none, none, [], none⟩,
  ⟨(some 15), .mv (.t 1), none, none, [], none⟩,
  ⟨(some 16), .bin .lss (.t 14) (.t 15), none, none, [], none⟩]
def ac_cmp_Compare_int_19 : AC := .reg l_cmp_Compare_int_19
def l_cmp_Compare_int_20 : List AOp := [⟨(some 4), .mv (.k (.int .i64 (-1))), none, none, [], none⟩]
def ac_cmp_Compare_int_20 : AC := .reg l_cmp_Compare_int_20
def ac_cmp_Compare_int_21 : AC := .seq ac_cmp_Compare_int_20 .ret
def ac_cmp_Compare_int_22 : AC := .cond (.t 16) ac_cmp_Compare_int_21 .skip
def ac_cmp_Compare_int_23 : AC := .seq ac_cmp_Compare_int_19 ac_cmp_Compare_int_22
def l_cmp_Compare_int_24 : List AOp := [⟨(some 17), .mv (.t 0), none, none, [], none⟩,
  ⟨(some 18), .mv (.t 1), none, none, [], none⟩,
  ⟨(some 19), .bin .gtr (.t 17) (.t 18), none, none, [], none⟩]
def ac_cmp_Compare_int_24 : AC := .reg l_cmp_Compare_int_24
def l_cmp_Compare_int_25 : List AOp := [⟨(some 4), .mv (.k (.int .i64 1)), none, none, [], none⟩]
def ac_cmp_Compare_int_25 : AC := .reg l_cmp_Compare_int_25
def ac_cmp_Compare_int_26 : AC := .seq ac_cmp_Compare_int_25 .ret
def ac_cmp_Compare_int_27 : AC := .cond (.t 19) ac_cmp_Compare_int_26 .skip
def ac_cmp_Compare_int_28 : AC := .seq ac_cmp_Compare_int_24 ac_cmp_Compare_int_27
def l_cmp_Compare_int_29 : List AOp := [⟨(some 4), .mv (.k (.int .i64 0)), none, none, [], none⟩]
def ac_cmp_Compare_int_29 : AC := .reg l_cmp_Compare_int_29
def ac_cmp_Compare_int_30 : AC := .seq ac_cmp_Compare_int_29 .ret
def ac_cmp_Compare_int_31 : AC := .seq ac_cmp_Compare_int_28 ac_cmp_Compare_int_30
def ac_cmp_Compare_int_32 : AC := .seq ac_cmp_Compare_int_23 ac_cmp_Compare_int_31
def ac_cmp_Compare_int_33 : AC := .seq ac_cmp_Compare_int_18 ac_cmp_Compare_int_32
def ac_cmp_Compare_int_34 : AC := .seq ac_cmp_Compare_int_13 ac_cmp_Compare_int_33
def ac_cmp_Compare_int_35 : AC := .seq ac_cmp_Compare_int_2 ac_cmp_Compare_int_34
def ac_cmp_Compare_int_36 : AC := .seq ac_cmp_Compare_int_1 ac_cmp_Compare_int_35
def ac_cmp_Compare_int_37 : AC := .seq ac_cmp_Compare_int_0 ac_cmp_Compare_int_36
def ac_cmp_Compare_int : AC := ac_cmp_Compare_int_37
theorem comp_cmp_Compare_int : compF Try.prog [] (drawR Try.prog [] Try.f26.ntmps) [] 2 Try.f26 = some (ac_cmp_Compare_int, [.t 4]) := by kernel_rfl
def U_cmp_Compare_int := (And.intro (And.intro (And.intro (And.intro (And.intro (And.intro @ac_cmp_Compare_int.eq_1 (@mR _ _ ac_cmp_Compare_int_0.eq_1)) (And.intro (@mR _ _ ac_cmp_Compare_int_1.eq_1) (@mR _ _ ac_cmp_Compare_int_2.eq_1))) (And.intro (And.intro (@mR _ _ ac_cmp_Compare_int_3.eq_1) (@mR _ _ ac_cmp_Compare_int_4.eq_1)) (@mR _ _ ac_cmp_Compare_int_5.eq_1))) (And.intro (And.intro (And.intro (@mU _ _ ac_cmp_Compare_int_6.eq_1) (@mU _ _ ac_cmp_Compare_int_7.eq_1)) (And.intro (@mU _ _ ac_cmp_Compare_int_8.eq_1) (@mR _ _ ac_cmp_Compare_int_9.eq_1))) (And.intro (And.intro (@mU _ _ ac_cmp_Compare_int_10.eq_1) (@mU _ _ ac_cmp_Compare_int_11.eq_1)) (@mU _ _ ac_cmp_Compare_int_12.eq_1)))) (And.intro (And.intro (And.intro (And.intro (@mU _ _ ac_cmp_Compare_int_13.eq_1) (@mR _ _ ac_cmp_Compare_int_14.eq_1)) (And.intro (@mR _ _ ac_cmp_Compare_int_15.eq_1) (@mU _ _ ac_cmp_Compare_int_16.eq_1))) (And.intro (And.intro (@mU _ _ ac_cmp_Compare_int_17.eq_1) (@mU _ _ ac_cmp_Compare_int_18.eq_1)) (@mR _ _ ac_cmp_Compare_int_19.eq_1))) (And.intro (And.intro (And.intro (@mR _ _ ac_cmp_Compare_int_20.eq_1) (@mU _ _ ac_cmp_Compare_int_21.eq_1)) (@mU _ _ ac_cmp_Compare_int_22.eq_1)) (And.intro (And.intro (@mU _ _ ac_cmp_Compare_int_23.eq_1) (@mR _ _ ac_cmp_Compare_int_24.eq_1)) (@mR _ _ ac_cmp_Compare_int_25.eq_1))))) (And.intro (And.intro (And.intro (And.intro (And.intro (@mU _ _ ac_cmp_Compare_int_26.eq_1) (@mU _ _ ac_cmp_Compare_int_27.eq_1)) (And.intro (@mU _ _ ac_cmp_Compare_int_28.eq_1) (@mR _ _ ac_cmp_Compare_int_29.eq_1))) (And.intro (And.intro (@mU _ _ ac_cmp_Compare_int_30.eq_1) (@mU _ _ ac_cmp_Compare_int_31.eq_1)) (@mU _ _ ac_cmp_Compare_int_32.eq_1))) (And.intro (And.intro (And.intro (@mU _ _ ac_cmp_Compare_int_33.eq_1) (@mU _ _ ac_cmp_Compare_int_34.eq_1)) (@mU _ _ ac_cmp_Compare_int_35.eq_1)) (And.intro (And.intro (@mU _ _ ac_cmp_Compare_int_36.eq_1) (@mU _ _ ac_cmp_Compare_int_37.eq_1)) @l_cmp_Compare_int_0.eq_1))) (And.intro (And.intro (And.intro (And.intro @l_cmp_Compare_int_1.eq_1 @l_cmp_Compare_int_2.eq_1) (And.intro @l_cmp_Compare_int_3.eq_1 @l_cmp_Compare_int_4.eq_1)) (And.intro (And.intro @l_cmp_Compare_int_5.eq_1 @l_cmp_Compare_int_9.eq_1) @l_cmp_Compare_int_14.eq_1)) (And.intro (And.intro (And.intro @l_cmp_Compare_int_15.eq_1 @l_cmp_Compare_int_19.eq_1) @l_cmp_Compare_int_20.eq_1) (And.intro (And.intro @l_cmp_Compare_int_24.eq_1 @l_cmp_Compare_int_25.eq_1) @l_cmp_Compare_int_29.eq_1)))))

/- scoria/wear.byWorn -/
def l_wear_byWorn_0 : List AOp := [⟨(some 2), .box (.t 0), none, none, [], none⟩,
  ⟨(some 3), .box (.t 1), none, none, [], none⟩,
  ⟨(some 4), .mv (.k (.int .i64 0)), none, none, [], none⟩]
def ac_wear_byWorn_0 : AC := .reg l_wear_byWorn_0
def l_wear_byWorn_1 : List AOp := [⟨(some 5), .load (some 3) (.t 2), none, none, [], none⟩,
  ⟨(some 6), .call false 31 [(.t 5)], none, none, [], none⟩,
  ⟨(some 7), .load (some 3) (.t 3), none, none, [], none⟩,
  ⟨(some 8), .call false 31 [(.t 7)], none, none, [], none⟩,
  ⟨(some 9), .call false 26 [(.t 6), (.t 8)], none, none, [], none⟩,
  ⟨(some 4), .mv (.t 9), none, none, [], none⟩]
def ac_wear_byWorn_1 : AC := .dreg 0 l_wear_byWorn_1
def ac_wear_byWorn_2 : AC := .seq ac_wear_byWorn_1 .ret
def ac_wear_byWorn_3 : AC := .seq ac_wear_byWorn_0 ac_wear_byWorn_2
def ac_wear_byWorn : AC := ac_wear_byWorn_3
theorem comp_wear_byWorn : compF Try.prog [] (drawR Try.prog [] Try.f27.ntmps) [] 2 Try.f27 = some (ac_wear_byWorn, [.t 4]) := by kernel_rfl
def U_wear_byWorn := (And.intro (And.intro (And.intro @ac_wear_byWorn.eq_1 (@mR _ _ ac_wear_byWorn_0.eq_1)) (And.intro (@mD _ _ _ ac_wear_byWorn_1.eq_1) (@mU _ _ ac_wear_byWorn_2.eq_1))) (And.intro (And.intro (@mU _ _ ac_wear_byWorn_3.eq_1) @l_wear_byWorn_0.eq_1) @l_wear_byWorn_1.eq_1))

/- scoria/scoriaref08.worn -/
def l_ref08_worn_0 : List AOp := [⟨(some 2), .mv (.k (.int .i64 0)), none, none, [], none⟩]
def ac_ref08_worn_0 : AC := .reg l_ref08_worn_0
def l_ref08_worn_1 : List AOp := [⟨(some 3), .mv (.t 0), none, none, [], none⟩,
  ⟨(some 4), .bin .lss (.t 3) (.k (.int .i64 0)), none, none, [], none⟩]
def ac_ref08_worn_1 : AC := .reg l_ref08_worn_1
def l_ref08_worn_2 : List AOp := [⟨(some 2), .mv (.k (.int .i64 0)), none, none, [], none⟩]
def ac_ref08_worn_2 : AC := .reg l_ref08_worn_2
def ac_ref08_worn_3 : AC := .seq ac_ref08_worn_2 .ret
def ac_ref08_worn_4 : AC := .cond (.t 4) ac_ref08_worn_3 .skip
def ac_ref08_worn_5 : AC := .seq ac_ref08_worn_1 ac_ref08_worn_4
def l_ref08_worn_6 : List AOp := [⟨(some 5), .mv (.t 0), none, none, [], none⟩,
  ⟨(some 2), .mv (.t 5), none, none, [], none⟩]
def ac_ref08_worn_6 : AC := .reg l_ref08_worn_6
def ac_ref08_worn_7 : AC := .seq ac_ref08_worn_6 .ret
def ac_ref08_worn_8 : AC := .seq ac_ref08_worn_5 ac_ref08_worn_7
def ac_ref08_worn_9 : AC := .seq ac_ref08_worn_0 ac_ref08_worn_8
def ac_ref08_worn : AC := ac_ref08_worn_9
theorem comp_ref08_worn : compF Try.prog [] (drawR Try.prog [] Try.f28.ntmps) [] 1 Try.f28 = some (ac_ref08_worn, [.t 2]) := by kernel_rfl
def U_ref08_worn := (And.intro (And.intro (And.intro (And.intro @ac_ref08_worn.eq_1 (@mR _ _ ac_ref08_worn_0.eq_1)) (And.intro (@mR _ _ ac_ref08_worn_1.eq_1) (@mR _ _ ac_ref08_worn_2.eq_1))) (And.intro (And.intro (@mU _ _ ac_ref08_worn_3.eq_1) (@mU _ _ ac_ref08_worn_4.eq_1)) (And.intro (@mU _ _ ac_ref08_worn_5.eq_1) (@mR _ _ ac_ref08_worn_6.eq_1)))) (And.intro (And.intro (And.intro (@mU _ _ ac_ref08_worn_7.eq_1) (@mU _ _ ac_ref08_worn_8.eq_1)) (And.intro (@mU _ _ ac_ref08_worn_9.eq_1) @l_ref08_worn_0.eq_1)) (And.intro (And.intro @l_ref08_worn_1.eq_1 @l_ref08_worn_2.eq_1) @l_ref08_worn_6.eq_1)))

/- scoria/wear.good -/
def l_wear_good_0 : List AOp := [⟨(some 1), .box (.t 0), none, none, [], none⟩,
  ⟨(some 2), .mv (.k (.bool false)), none, none, [], none⟩]
def ac_wear_good_0 : AC := .reg l_wear_good_0
def l_wear_good_1 : List AOp := [⟨(some 3), .faddr 0 (.t 1), none, none, [], none⟩,
  ⟨(some 4), .load none (.t 3), none, none, [], none⟩,
  ⟨(some 5), .bin .geq (.t 4) (.k (.int .i64 0)), none, none, [], none⟩,
  ⟨(some 6), .mv (.t 5), none, none, [], none⟩,
  ⟨(some 7), .faddr 0 (.t 1), (some (6, true)), none, [], none⟩,
  ⟨(some 8), .load none (.t 7), (some (6, true)), none, [], none⟩,
  ⟨(some 9), .bin .leq (.t 8) (.k (.int .i64 2)), (some (6, true)), none, [], none⟩,
  ⟨(some 10), .pick (.t 6) (.t 9) (.k (.bool false)), none, none, [], none⟩,
  ⟨(some 2), .mv (.t 10), none, none, [], none⟩]
def ac_wear_good_1 : AC := .reg l_wear_good_1
def ac_wear_good_2 : AC := .seq ac_wear_good_1 .ret
def ac_wear_good_3 : AC := .seq ac_wear_good_0 ac_wear_good_2
def ac_wear_good : AC := ac_wear_good_3
theorem comp_wear_good : compF Try.prog [] (drawR Try.prog [] Try.f29.ntmps) [] 1 Try.f29 = some (ac_wear_good, [.t 2]) := by kernel_rfl
def U_wear_good := (And.intro (And.intro (And.intro @ac_wear_good.eq_1 (@mR _ _ ac_wear_good_0.eq_1)) (And.intro (@mR _ _ ac_wear_good_1.eq_1) (@mU _ _ ac_wear_good_2.eq_1))) (And.intro (And.intro (@mU _ _ ac_wear_good_3.eq_1) @l_wear_good_0.eq_1) @l_wear_good_1.eq_1))

/- scoria/wear.most -/
def l_wear_most_0 : List AOp := [⟨(some 2), .mv (.k (.int .i64 0)), none, none, [], none⟩]
def ac_wear_most_0 : AC := .reg l_wear_most_0
def l_wear_most_1 : List AOp := [⟨(some 3), .mv (.t 0), none, none, [], none⟩,
  ⟨(some 4), .call false 21 [(.t 3), (.k (.fn (.func 29) [] [])), (.k (.fn (.func 35) [] []))], none, none, [], none⟩,
  ⟨(some 2), .mv (.t 4), none, none, [], none⟩]
def ac_wear_most_1 : AC := .reg l_wear_most_1
def ac_wear_most_2 : AC := .seq ac_wear_most_1 .ret
def ac_wear_most_3 : AC := .seq ac_wear_most_0 ac_wear_most_2
def ac_wear_most : AC := ac_wear_most_3
theorem comp_wear_most : compF Try.prog [] (drawR Try.prog [] Try.f30.ntmps) [] 1 Try.f30 = some (ac_wear_most, [.t 2]) := by kernel_rfl
def U_wear_most := (And.intro (And.intro (And.intro @ac_wear_most.eq_1 (@mR _ _ ac_wear_most_0.eq_1)) (And.intro (@mR _ _ ac_wear_most_1.eq_1) (@mU _ _ ac_wear_most_2.eq_1))) (And.intro (And.intro (@mU _ _ ac_wear_most_3.eq_1) @l_wear_most_0.eq_1) @l_wear_most_1.eq_1))

/- scoria/wear.worn -/
def l_wear_worn_0 : List AOp := [⟨(some 1), .box (.t 0), none, none, [], none⟩,
  ⟨(some 2), .mv (.k (.int .i64 0)), none, none, [], none⟩]
def ac_wear_worn_0 : AC := .reg l_wear_worn_0
def l_wear_worn_1 : List AOp := [⟨(some 3), .faddr 2 (.t 1), none, none, [], none⟩,
  ⟨(some 4), .load none (.t 3), none, none, [], none⟩,
  ⟨(some 5), .mm true [(.t 4), (.k (.int .i64 0))], none, none, [], none⟩,
  ⟨(some 2), .mv (.t 5), none, none, [], none⟩]
def ac_wear_worn_1 : AC := .reg l_wear_worn_1
def ac_wear_worn_2 : AC := .seq ac_wear_worn_1 .ret
def ac_wear_worn_3 : AC := .seq ac_wear_worn_0 ac_wear_worn_2
def ac_wear_worn : AC := ac_wear_worn_3
theorem comp_wear_worn : compF Try.prog [] (drawR Try.prog [] Try.f31.ntmps) [] 1 Try.f31 = some (ac_wear_worn, [.t 2]) := by kernel_rfl
def U_wear_worn := (And.intro (And.intro (And.intro @ac_wear_worn.eq_1 (@mR _ _ ac_wear_worn_0.eq_1)) (And.intro (@mR _ _ ac_wear_worn_1.eq_1) (@mU _ _ ac_wear_worn_2.eq_1))) (And.intro (And.intro (@mU _ _ ac_wear_worn_3.eq_1) @l_wear_worn_0.eq_1) @l_wear_worn_1.eq_1))

/- scoria/scoriaref08.bounds -/
def l_ref08_bounds_0 : List AOp := [⟨(some 2), .mv (.k (.int .i64 0)), none, none, [], none⟩,
  ⟨(some 3), .mv (.k (.int .i64 0)), none, none, [], none⟩,
  ⟨(some 4), .mv (.k (.bool false)), none, none, [], none⟩]
def ac_ref08_bounds_0 : AC := .reg l_ref08_bounds_0
def l_ref08_bounds_1 : List AOp := [⟨(some 5), .mv (.k (.int .i64 0)), none, none, [], none⟩,
  ⟨(some 6), .mv (.k (.int .i64 0)), none, none, [], none⟩,
  ⟨(some 7), .mv (.k (.bool false)), none, none, [], none⟩]
def ac_ref08_bounds_1 : AC := .reg l_ref08_bounds_1
def l_ref08_bounds_2 : List AOp := [⟨(some 8), .mv (.k (.int .i64 0)), none, none, [], none⟩]
def ac_ref08_bounds_2 : AC := .reg l_ref08_bounds_2
def l_ref08_bounds_3 : List AOp := [⟨(some 10), .mv (.t 8), none, none, [], none⟩,
  ⟨(some 11), .mv (.t 0), none, none, [], none⟩,
  ⟨(some 12), .len (.t 11), none, none, [], none⟩,
  ⟨(some 13), .bin .lss (.t 10) (.t 12), none, none, [], none⟩]
def ac_ref08_bounds_3 : AC := .reg l_ref08_bounds_3
def ac_ref08_bounds_4 : AC := .cond (.t 13) .skip (.exit 0)
def ac_ref08_bounds_5 : AC := .seq ac_ref08_bounds_3 ac_ref08_bounds_4
def l_ref08_bounds_6 : List AOp := [⟨(some 16), .mv (.t 0), none, none, [], none⟩,
  ⟨(some 17), .mv (.t 8), none, none, [], none⟩,
  ⟨(some 18), .isl 3 (.t 16) (.t 17), none, none, [], none⟩,
  ⟨(some 19), .faddr 0 (.t 18), none, none, [], none⟩,
  ⟨(some 20), .load none (.t 19), none, none, [], none⟩,
  ⟨(some 21), .bin .lss (.t 20) (.k (.int .i64 0)), none, none, [], none⟩,
  ⟨(some 22), .mv (.t 21), none, none, [], none⟩,
  ⟨(some 23), .mv (.t 0), (some (22, false)), none, [], none⟩,
  ⟨(some 24), .mv (.t 8), (some (22, false)), none, [], none⟩,
  ⟨(some 25), .isl 3 (.t 23) (.t 24), (some (22, false)), none, [], none⟩,
  ⟨(some 26), .faddr 0 (.t 25), (some (22, false)), none, [], none⟩,
  ⟨(some 27), .load none (.t 26), (some (22, false)), none, [], none⟩,
  ⟨(some 28), .bin .gtr (.t 27) (.k (.int .i64 2)), (some (22, false)), none, [], none⟩,
  ⟨(some 29), .pick (.t 22) (.k (.bool true)) (.t 28), none, none, [], none⟩]
def ac_ref08_bounds_6 : AC := .reg l_ref08_bounds_6
def ac_ref08_bounds_7 : AC := .cond (.t 29) (.exit 1) .skip
def ac_ref08_bounds_8 : AC := .seq ac_ref08_bounds_6 ac_ref08_bounds_7
def l_ref08_bounds_9 : List AOp := [⟨(some 30), .mv (.t 0), none, none, [], none⟩,
  ⟨(some 31), .mv (.t 8), none, none, [], none⟩,
  ⟨(some 32), .isl 3 (.t 30) (.t 31), none, none, [], none⟩,
  ⟨(some 33), .faddr 2 (.t 32), none, none, [], none⟩,
  ⟨(some 34), .load none (.t 33), none, none, [], none⟩,
  ⟨(some 35), .call false 28 [(.t 34)], none, none, [], none⟩,
  ⟨(some 9), .mv (.t 35), none, none, [], none⟩]
def ac_ref08_bounds_9 : AC := .reg l_ref08_bounds_9
def l_ref08_bounds_10 : List AOp := [⟨(some 36), .mv (.t 7), none, none, [], none⟩,
  ⟨(some 37), .un .not (.t 36), none, none, [], none⟩,
  ⟨(some 38), .mv (.t 37), none, none, [], none⟩,
  ⟨(some 39), .mv (.t 9), (some (38, false)), none, [], none⟩,
  ⟨(some 40), .mv (.t 5), (some (38, false)), none, [], none⟩,
  ⟨(some 41), .bin .lss (.t 39) (.t 40), (some (38, false)), none, [], none⟩,
  ⟨(some 42), .pick (.t 38) (.k (.bool true)) (.t 41), none, none, [], none⟩]
def ac_ref08_bounds_10 : AC := .reg l_ref08_bounds_10
def l_ref08_bounds_11 : List AOp := [⟨(some 43), .mv (.t 9), none, none, [], none⟩,
  ⟨(some 5), .mv (.t 43), none, none, [], none⟩]
def ac_ref08_bounds_11 : AC := .reg l_ref08_bounds_11
def ac_ref08_bounds_12 : AC := .cond (.t 42) ac_ref08_bounds_11 .skip
def ac_ref08_bounds_13 : AC := .seq ac_ref08_bounds_10 ac_ref08_bounds_12
def l_ref08_bounds_14 : List AOp := [⟨(some 44), .mv (.t 7), none, none, [], none⟩,
  ⟨(some 45), .un .not (.t 44), none, none, [], none⟩,
  ⟨(some 46), .mv (.t 45), none, none, [], none⟩,
  ⟨(some 47), .mv (.t 9), (some (46, false)), none, [], none⟩,
  ⟨(some 48), .mv (.t 6), (some (46, false)), none, [], none⟩,
  ⟨(some 49), .bin .gtr (.t 47) (.t 48), (some (46, false)), none, [], none⟩,
  ⟨(some 50), .pick (.t 46) (.k (.bool true)) (.t 49), none, none, [], none⟩]
def ac_ref08_bounds_14 : AC := .reg l_ref08_bounds_14
def l_ref08_bounds_15 : List AOp := [⟨(some 51), .mv (.t 9), none, none, [], none⟩,
  ⟨(some 6), .mv (.t 51), none, none, [], none⟩]
def ac_ref08_bounds_15 : AC := .reg l_ref08_bounds_15
def ac_ref08_bounds_16 : AC := .cond (.t 50) ac_ref08_bounds_15 .skip
def ac_ref08_bounds_17 : AC := .seq ac_ref08_bounds_14 ac_ref08_bounds_16
def l_ref08_bounds_18 : List AOp := [⟨(some 7), .mv (.k (.bool true)), none, none, [], none⟩]
def ac_ref08_bounds_18 : AC := .reg l_ref08_bounds_18
def ac_ref08_bounds_19 : AC := .seq ac_ref08_bounds_17 ac_ref08_bounds_18
def ac_ref08_bounds_20 : AC := .seq ac_ref08_bounds_13 ac_ref08_bounds_19
def ac_ref08_bounds_21 : AC := .seq ac_ref08_bounds_9 ac_ref08_bounds_20
def ac_ref08_bounds_22 : AC := .seq ac_ref08_bounds_8 ac_ref08_bounds_21
def ac_ref08_bounds_23 : AC := .block 1 ac_ref08_bounds_22
def l_ref08_bounds_24 : List AOp := [⟨(some 14), .mv (.t 8), none, none, [], none⟩,
  ⟨(some 15), .bin .add (.t 14) (.k (.int .i64 1)), none, none, [], none⟩,
  ⟨(some 8), .mv (.t 15), none, none, [], none⟩]
def ac_ref08_bounds_24 : AC := .reg l_ref08_bounds_24
def ac_ref08_bounds_25 : AC := .seq ac_ref08_bounds_23 ac_ref08_bounds_24
def ac_ref08_bounds_26 : AC := .seq ac_ref08_bounds_5 ac_ref08_bounds_25
def ac_ref08_bounds_27 : AC := .loop [0, 5, 6, 7, 8] 0 ac_ref08_bounds_26
def ac_ref08_bounds_28 : AC := .block 0 ac_ref08_bounds_27
def ac_ref08_bounds_29 : AC := .seq ac_ref08_bounds_2 ac_ref08_bounds_28
def l_ref08_bounds_30 : List AOp := [⟨(some 52), .mv (.t 5), none, none, [], none⟩,
  ⟨(some 53), .mv (.t 6), none, none, [], none⟩,
  ⟨(some 54), .mv (.t 7), none, none, [], none⟩,
  ⟨(some 2), .mv (.t 52), none, none, [], none⟩,
  ⟨(some 3), .mv (.t 53), none, none, [], none⟩,
  ⟨(some 4), .mv (.t 54), none, none, [], none⟩]
def ac_ref08_bounds_30 : AC := .reg l_ref08_bounds_30
def ac_ref08_bounds_31 : AC := .seq ac_ref08_bounds_30 .ret
def ac_ref08_bounds_32 : AC := .seq ac_ref08_bounds_29 ac_ref08_bounds_31
def ac_ref08_bounds_33 : AC := .seq ac_ref08_bounds_1 ac_ref08_bounds_32
def ac_ref08_bounds_34 : AC := .seq ac_ref08_bounds_0 ac_ref08_bounds_33
def ac_ref08_bounds : AC := ac_ref08_bounds_34
theorem comp_ref08_bounds : compF Try.prog [] (drawR Try.prog [] Try.f32.ntmps) [([0, 5, 6, 7, 8], 0)] 1 Try.f32 = some (ac_ref08_bounds, [.t 2, .t 3, .t 4]) := by kernel_rfl
def U_ref08_bounds := (And.intro (And.intro (And.intro (And.intro (And.intro (And.intro @ac_ref08_bounds.eq_1 (@mR _ _ ac_ref08_bounds_0.eq_1)) (And.intro (@mR _ _ ac_ref08_bounds_1.eq_1) (@mR _ _ ac_ref08_bounds_2.eq_1))) (And.intro (And.intro (@mR _ _ ac_ref08_bounds_3.eq_1) (@mU _ _ ac_ref08_bounds_4.eq_1)) (@mU _ _ ac_ref08_bounds_5.eq_1))) (And.intro (And.intro (And.intro (@mR _ _ ac_ref08_bounds_6.eq_1) (@mU _ _ ac_ref08_bounds_7.eq_1)) (@mU _ _ ac_ref08_bounds_8.eq_1)) (And.intro (And.intro (@mR _ _ ac_ref08_bounds_9.eq_1) (@mR _ _ ac_ref08_bounds_10.eq_1)) (@mR _ _ ac_ref08_bounds_11.eq_1)))) (And.intro (And.intro (And.intro (And.intro (@mU _ _ ac_ref08_bounds_12.eq_1) (@mU _ _ ac_ref08_bounds_13.eq_1)) (@mR _ _ ac_ref08_bounds_14.eq_1)) (And.intro (And.intro (@mR _ _ ac_ref08_bounds_15.eq_1) (@mU _ _ ac_ref08_bounds_16.eq_1)) (@mU _ _ ac_ref08_bounds_17.eq_1))) (And.intro (And.intro (And.intro (@mR _ _ ac_ref08_bounds_18.eq_1) (@mU _ _ ac_ref08_bounds_19.eq_1)) (@mU _ _ ac_ref08_bounds_20.eq_1)) (And.intro (And.intro (@mU _ _ ac_ref08_bounds_21.eq_1) (@mU _ _ ac_ref08_bounds_22.eq_1)) (@mU _ _ ac_ref08_bounds_23.eq_1))))) (And.intro (And.intro (And.intro (And.intro (And.intro (@mR _ _ ac_ref08_bounds_24.eq_1) (@mU _ _ ac_ref08_bounds_25.eq_1)) (@mU _ _ ac_ref08_bounds_26.eq_1)) (And.intro (And.intro (@mU _ _ ac_ref08_bounds_27.eq_1) (@mU _ _ ac_ref08_bounds_28.eq_1)) (@mU _ _ ac_ref08_bounds_29.eq_1))) (And.intro (And.intro (And.intro (@mR _ _ ac_ref08_bounds_30.eq_1) (@mU _ _ ac_ref08_bounds_31.eq_1)) (@mU _ _ ac_ref08_bounds_32.eq_1)) (And.intro (And.intro (@mU _ _ ac_ref08_bounds_33.eq_1) (@mU _ _ ac_ref08_bounds_34.eq_1)) @l_ref08_bounds_0.eq_1))) (And.intro (And.intro (And.intro (And.intro @l_ref08_bounds_1.eq_1 @l_ref08_bounds_2.eq_1) @l_ref08_bounds_3.eq_1) (And.intro (And.intro @l_ref08_bounds_6.eq_1 @l_ref08_bounds_9.eq_1) @l_ref08_bounds_10.eq_1)) (And.intro (And.intro (And.intro @l_ref08_bounds_11.eq_1 @l_ref08_bounds_14.eq_1) @l_ref08_bounds_15.eq_1) (And.intro (And.intro @l_ref08_bounds_18.eq_1 @l_ref08_bounds_24.eq_1) @l_ref08_bounds_30.eq_1)))))

/- scoria/wear.is$1 -/
def l_wear_is_c1_0 : List AOp := [⟨(some 2), .box (.t 0), none, none, [], none⟩,
  ⟨(some 3), .mv (.k (.bool false)), none, none, [], none⟩]
def ac_wear_is_c1_0 : AC := .reg l_wear_is_c1_0
def l_wear_is_c1_1 : List AOp := [⟨(some 4), .faddr 0 (.t 2), none, none, [], none⟩,
  ⟨(some 5), .load none (.t 4), none, none, [], none⟩,
  ⟨(some 6), .load none (.t 1), none, none, [], none⟩,
  ⟨(some 7), .bin .eql (.t 5) (.t 6), none, none, [], none⟩,
  ⟨(some 3), .mv (.t 7), none, none, [], none⟩]
def ac_wear_is_c1_1 : AC := .reg l_wear_is_c1_1
def ac_wear_is_c1_2 : AC := .seq ac_wear_is_c1_1 .ret
def ac_wear_is_c1_3 : AC := .seq ac_wear_is_c1_0 ac_wear_is_c1_2
def ac_wear_is_c1 : AC := ac_wear_is_c1_3
theorem comp_wear_is_c1 : compF Try.prog [] (drawR Try.prog [] Try.f33.ntmps) [] 2 Try.f33 = some (ac_wear_is_c1, [.t 3]) := by kernel_rfl
def U_wear_is_c1 := (And.intro (And.intro (And.intro @ac_wear_is_c1.eq_1 (@mR _ _ ac_wear_is_c1_0.eq_1)) (And.intro (@mR _ _ ac_wear_is_c1_1.eq_1) (@mU _ _ ac_wear_is_c1_2.eq_1))) (And.intro (And.intro (@mU _ _ ac_wear_is_c1_3.eq_1) @l_wear_is_c1_0.eq_1) @l_wear_is_c1_1.eq_1))

/- cmp.isNaN[int] -/
def l_cmp_isNaN_int_0 : List AOp := [⟨(some 2), .mv (.k (.bool false)), none, none, [], none⟩]
def ac_cmp_isNaN_int_0 : AC := .reg l_cmp_isNaN_int_0
def l_cmp_isNaN_int_1 : List AOp := [⟨(some 3), .mv (.t 0), none, none, [], none⟩,
  ⟨(some 4), .mv (.t 0), none, none, [], none⟩,
  ⟨(some 5), .bin .neq (.t 3) (.t 4), none, none, [], none⟩,
  ⟨(some 2), .mv (.t 5), none, none, [], none⟩]
def ac_cmp_isNaN_int_1 : AC := .reg l_cmp_isNaN_int_1
def ac_cmp_isNaN_int_2 : AC := .seq ac_cmp_isNaN_int_1 .ret
def ac_cmp_isNaN_int_3 : AC := .seq ac_cmp_isNaN_int_0 ac_cmp_isNaN_int_2
def ac_cmp_isNaN_int : AC := ac_cmp_isNaN_int_3
theorem comp_cmp_isNaN_int : compF Try.prog [] (drawR Try.prog [] Try.f34.ntmps) [] 1 Try.f34 = some (ac_cmp_isNaN_int, [.t 2]) := by kernel_rfl
def U_cmp_isNaN_int := (And.intro (And.intro (And.intro @ac_cmp_isNaN_int.eq_1 (@mR _ _ ac_cmp_isNaN_int_0.eq_1)) (And.intro (@mR _ _ ac_cmp_isNaN_int_1.eq_1) (@mU _ _ ac_cmp_isNaN_int_2.eq_1))) (And.intro (And.intro (@mU _ _ ac_cmp_isNaN_int_3.eq_1) @l_cmp_isNaN_int_0.eq_1) @l_cmp_isNaN_int_1.eq_1))

/- scoria/wear.most$1 -/
def l_wear_most_c1_0 : List AOp := [⟨(some 2), .box (.t 0), none, none, [], none⟩,
  ⟨(some 3), .box (.t 1), none, none, [], none⟩,
  ⟨(some 4), .mv (.k (.int .i64 0)), none, none, [], none⟩]
def ac_wear_most_c1_0 : AC := .reg l_wear_most_c1_0
def l_wear_most_c1_1 : List AOp := [⟨(some 5), .load (some 3) (.t 3), none, none, [], none⟩,
  ⟨(some 6), .load (some 3) (.t 2), none, none, [], none⟩,
  ⟨(some 7), .call false 27 [(.t 5), (.t 6)], none, none, [], none⟩,
  ⟨(some 4), .mv (.t 7), none, none, [], none⟩]
def ac_wear_most_c1_1 : AC := .reg l_wear_most_c1_1
def ac_wear_most_c1_2 : AC := .seq ac_wear_most_c1_1 .ret
def ac_wear_most_c1_3 : AC := .seq ac_wear_most_c1_0 ac_wear_most_c1_2
def ac_wear_most_c1 : AC := ac_wear_most_c1_3
theorem comp_wear_most_c1 : compF Try.prog [] (drawR Try.prog [] Try.f35.ntmps) [] 2 Try.f35 = some (ac_wear_most_c1, [.t 4]) := by kernel_rfl
def U_wear_most_c1 := (And.intro (And.intro (And.intro @ac_wear_most_c1.eq_1 (@mR _ _ ac_wear_most_c1_0.eq_1)) (And.intro (@mR _ _ ac_wear_most_c1_1.eq_1) (@mU _ _ ac_wear_most_c1_2.eq_1))) (And.intro (And.intro (@mU _ _ ac_wear_most_c1_3.eq_1) @l_wear_most_c1_0.eq_1) @l_wear_most_c1_1.eq_1))

end Go.Proofs.Ytfdehjkpglkheaa.Aw
