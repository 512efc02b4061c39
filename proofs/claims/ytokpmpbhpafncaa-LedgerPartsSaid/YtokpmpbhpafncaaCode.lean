/-
  The functions of the seat, translated to abstract code. Written by a program (wip/Gen2.lean).
-/
import Derived.Test.YtokpmpbhpafncaaAwBun
import Derived.Test.YtokpmpbhpafncaaProg
set_option maxRecDepth 100000
set_option linter.all false
namespace Go.Proofs.Ytokpmpbhpafncaa.Aw
open Go.RowKit
/- scoria/scorialaw13.LedgerParts -/
def l_law13_LedgerParts_0 : List AOp := [⟨(some 4), .mv (.k (.bool false)), none, none, [], none⟩]
def ac_law13_LedgerParts_0 : AC := .reg l_law13_LedgerParts_0
def l_law13_LedgerParts_1 : List AOp := [⟨(some 11), .mv (.t 0), none, none, [], none⟩,
  ⟨(some 12), .icall 9 [(.t 11)], none, none, [], none⟩,
  ⟨(some 13), .mv (.t 0), none, none, [], none⟩,
  ⟨(some 14), .icall 9 [(.t 13)], none, none, [], none⟩,
  ⟨(some 5), .mv (.t 12), none, none, [], none⟩,
  ⟨(some 6), .mv (.t 14), none, none, [], none⟩]
def ac_law13_LedgerParts_1 : AC := .reg l_law13_LedgerParts_1
def l_law13_LedgerParts_2 : List AOp := [⟨(some 15), .call false 10 [], none, none, [], none⟩,
  ⟨(some 16), .un .not (.t 15), none, none, [], none⟩,
  ⟨(some 17), .mv (.t 16), none, none, [], none⟩,
  ⟨(some 18), .mv (.t 5), (some (17, false)), none, [], none⟩,
  ⟨(some 19), .isn .p false (.t 18), (some (17, false)), none, [], none⟩,
  ⟨(some 20), .pick (.t 17) (.k (.bool true)) (.t 19), none, none, [], none⟩,
  ⟨(some 21), .mv (.t 20), none, none, [], none⟩,
  ⟨(some 22), .mv (.t 6), (some (21, false)), none, [], none⟩,
  ⟨(some 23), .isn .p false (.t 22), (some (21, false)), none, [], none⟩,
  ⟨(some 24), .pick (.t 21) (.k (.bool true)) (.t 23), none, none, [], none⟩,
  ⟨(some 25), .mv (.t 24), none, none, [], none⟩,
  ⟨(some 26), .mv (.t 5), (some (25, false)), none, [], none⟩,
  ⟨(some 27), .icall 11 [(.t 26), (.k (.int .i64 1)), (.k (.int .i64 9))], (some (25, false)), none, [], none⟩,
  ⟨(some 28), .bin .neq (.t 27) (.k (.int .i64 0)), (some (25, false)), none, [], none⟩,
  ⟨(some 29), .pick (.t 25) (.k (.bool true)) (.t 28), none, none, [], none⟩,
  ⟨(some 30), .mv (.t 29), none, none, [], none⟩,
  ⟨(some 31), .mv (.t 6), (some (30, false)), none, [], none⟩,
  ⟨(some 32), .icall 11 [(.t 31), (.k (.int .i64 1)), (.k (.int .i64 9))], (some (30, false)), none, [], none⟩,
  ⟨(some 33), .bin .neq (.t 32) (.k (.int .i64 0)), (some (30, false)), none, [], none⟩,
  ⟨(some 34), .pick (.t 30) (.k (.bool true)) (.t 33), none, none, [], none⟩]
def ac_law13_LedgerParts_2 : AC := .reg l_law13_LedgerParts_2
def l_law13_LedgerParts_3 : List AOp := [⟨(some 4), .mv (.k (.bool false)), none, none, [], none⟩]
def ac_law13_LedgerParts_3 : AC := .reg l_law13_LedgerParts_3
def ac_law13_LedgerParts_4 : AC := .seq ac_law13_LedgerParts_3 .ret
def ac_law13_LedgerParts_5 : AC := .cond (.t 34) ac_law13_LedgerParts_4 .skip
def ac_law13_LedgerParts_6 : AC := .seq ac_law13_LedgerParts_2 ac_law13_LedgerParts_5
def l_law13_LedgerParts_7 : List AOp := [⟨(some 7), .mv (.k (.int .i64 0)), none, none, [], none⟩]
def ac_law13_LedgerParts_7 : AC := .reg l_law13_LedgerParts_7
def l_law13_LedgerParts_8 : List AOp := [⟨(some 8), .mv (.k (.int .i64 0)), none, none, [], none⟩]
def ac_law13_LedgerParts_8 : AC := .reg l_law13_LedgerParts_8
def l_law13_LedgerParts_9 : List AOp := [⟨(some 35), .mv (.t 8), none, none, [], none⟩,
  ⟨(some 36), .mv (.t 1), none, none, [], none⟩,
  ⟨(some 37), .len (.t 36), none, none, [], none⟩,
  ⟨(some 38), .bin .lss (.t 35) (.t 37), none, none, [], none⟩,
  ⟨(some 39), .mv (.t 38), none, none, [], none⟩,
  ⟨(some 40), .mv (.t 8), (some (39, true)), none, [], none⟩,
  ⟨(some 41), .bin .lss (.t 40) (.k (.int .i64 100)), (some (39, true)), none, [], none⟩,
  ⟨(some 42), .pick (.t 39) (.t 41) (.k (.bool false)), none, none, [], none⟩]
def ac_law13_LedgerParts_9 : AC := .reg l_law13_LedgerParts_9
def ac_law13_LedgerParts_10 : AC := .cond (.t 42) .skip (.exit 0)
def ac_law13_LedgerParts_11 : AC := .seq ac_law13_LedgerParts_9 ac_law13_LedgerParts_10
def l_law13_LedgerParts_12 : List AOp := [⟨(some 45), .mv (.t 1), none, none, [], none⟩,
  ⟨(some 46), .mv (.t 8), none, none, [], none⟩,
  ⟨(some 47), .isl 1 (.t 45) (.t 46), none, none, [], none⟩,
  ⟨(some 48), .load none (.t 47), none, none, [], none⟩,
  ⟨(some 49), .bin .rem (.t 48) (.k (.int .u8 100)), none, none, [], none⟩,
  ⟨(some 50), .conv .i64 (.t 49), none, none, [], none⟩,
  ⟨(some 9), .mv (.t 50), none, none, [], none⟩]
def ac_law13_LedgerParts_12 : AC := .reg l_law13_LedgerParts_12
def l_law13_LedgerParts_13 : List AOp := [⟨(some 51), .mv (.t 5), none, none, [], none⟩,
  ⟨(some 52), .mv (.t 9), none, none, [], none⟩,
  ⟨(some 53), .icall 12 [(.t 51), (.k (.int .i64 1)), (.t 52)], none, none, [], none⟩,
  ⟨(some 10), .mv (.t 53), none, none, [], none⟩]
def ac_law13_LedgerParts_13 : AC := .reg l_law13_LedgerParts_13
def l_law13_LedgerParts_14 : List AOp := [⟨(some 54), .mv (.t 10), none, none, [], none⟩,
  ⟨(some 55), .bin .eql (.t 54) (.k (.int .i64 0)), none, none, [], none⟩,
  ⟨(some 56), .mv (.t 9), none, none, [], none⟩,
  ⟨(some 57), .mv (.t 0), none, none, [], none⟩,
  ⟨(some 58), .mm true [(.t 57), (.k (.int .i64 0))], none, none, [], none⟩,
  ⟨(some 59), .mv (.t 7), none, none, [], none⟩,
  ⟨(some 60), .bin .sub (.t 58) (.t 59), none, none, [], none⟩,
  ⟨(some 61), .bin .leq (.t 56) (.t 60), none, none, [], none⟩,
  ⟨(some 62), .eqb true (.t 55) (.t 61), none, none, [], none⟩]
def ac_law13_LedgerParts_14 : AC := .reg l_law13_LedgerParts_14
def l_law13_LedgerParts_15 : List AOp := [⟨(some 4), .mv (.k (.bool false)), none, none, [], none⟩]
def ac_law13_LedgerParts_15 : AC := .reg l_law13_LedgerParts_15
def ac_law13_LedgerParts_16 : AC := .seq ac_law13_LedgerParts_15 .ret
def ac_law13_LedgerParts_17 : AC := .cond (.t 62) ac_law13_LedgerParts_16 .skip
def ac_law13_LedgerParts_18 : AC := .seq ac_law13_LedgerParts_14 ac_law13_LedgerParts_17
def l_law13_LedgerParts_19 : List AOp := [⟨(some 63), .mv (.t 10), none, none, [], none⟩,
  ⟨(some 64), .bin .eql (.t 63) (.k (.int .i64 0)), none, none, [], none⟩]
def ac_law13_LedgerParts_19 : AC := .reg l_law13_LedgerParts_19
def l_law13_LedgerParts_20 : List AOp := [⟨(some 65), .mv (.t 7), none, none, [], none⟩,
  ⟨(some 66), .mv (.t 9), none, none, [], none⟩,
  ⟨(some 67), .bin .add (.t 65) (.t 66), none, none, [], none⟩,
  ⟨(some 7), .mv (.t 67), none, none, [], none⟩]
def ac_law13_LedgerParts_20 : AC := .reg l_law13_LedgerParts_20
def ac_law13_LedgerParts_21 : AC := .cond (.t 64) ac_law13_LedgerParts_20 .skip
def ac_law13_LedgerParts_22 : AC := .seq ac_law13_LedgerParts_19 ac_law13_LedgerParts_21
def ac_law13_LedgerParts_23 : AC := .seq ac_law13_LedgerParts_18 ac_law13_LedgerParts_22
def ac_law13_LedgerParts_24 : AC := .seq ac_law13_LedgerParts_13 ac_law13_LedgerParts_23
def ac_law13_LedgerParts_25 : AC := .seq ac_law13_LedgerParts_12 ac_law13_LedgerParts_24
def ac_law13_LedgerParts_26 : AC := .block 1 ac_law13_LedgerParts_25
def l_law13_LedgerParts_27 : List AOp := [⟨(some 43), .mv (.t 8), none, none, [], none⟩,
  ⟨(some 44), .bin .add (.t 43) (.k (.int .i64 1)), none, none, [], none⟩,
  ⟨(some 8), .mv (.t 44), none, none, [], none⟩]
def ac_law13_LedgerParts_27 : AC := .reg l_law13_LedgerParts_27
def ac_law13_LedgerParts_28 : AC := .seq ac_law13_LedgerParts_26 ac_law13_LedgerParts_27
def ac_law13_LedgerParts_29 : AC := .seq ac_law13_LedgerParts_11 ac_law13_LedgerParts_28
def ac_law13_LedgerParts_30 : AC := .loop [0, 1, 5, 6, 7, 8] 1000000000 ac_law13_LedgerParts_29
def ac_law13_LedgerParts_31 : AC := .block 0 ac_law13_LedgerParts_30
def ac_law13_LedgerParts_32 : AC := .seq ac_law13_LedgerParts_8 ac_law13_LedgerParts_31
def l_law13_LedgerParts_33 : List AOp := [⟨(some 68), .mv (.t 6), none, none, [], none⟩,
  ⟨(some 69), .mv (.t 7), none, none, [], none⟩,
  ⟨(some 70), .icall 12 [(.t 68), (.k (.int .i64 1)), (.t 69)], none, none, [], none⟩,
  ⟨(some 71), .bin .eql (.t 70) (.k (.int .i64 0)), none, none, [], none⟩,
  ⟨(some 72), .mv (.t 71), none, none, [], none⟩,
  ⟨(some 73), .mv (.t 5), (some (72, true)), none, [], none⟩,
  ⟨(some 74), .rcall 13 [(.t 73)], (some (72, true)), none, [], none⟩,
  ⟨(some 75), .mv (.t 7), (some (72, true)), none, [], none⟩,
  ⟨(some 76), .bin .eql (.t 74) (.t 75), (some (72, true)), none, [], none⟩,
  ⟨(some 77), .pick (.t 72) (.t 76) (.k (.bool false)), none, none, [], none⟩,
  ⟨(some 78), .mv (.t 77), none, none, [], none⟩,
  ⟨(some 79), .mv (.t 6), (some (78, true)), none, [], none⟩,
  ⟨(some 80), .rcall 13 [(.t 79)], (some (78, true)), none, [], none⟩,
  ⟨(some 81), .mv (.t 7), (some (78, true)), none, [], none⟩,
  ⟨(some 82), .bin .eql (.t 80) (.t 81), (some (78, true)), none, [], none⟩,
  ⟨(some 83), .pick (.t 78) (.t 82) (.k (.bool false)), none, none, [], none⟩,
  ⟨(some 84), .mv (.t 83), none, none, [], none⟩,
  ⟨(some 85), .mv (.t 5), (some (84, true)), none, [], none⟩,
  ⟨(some 86), .rcall 14 [(.t 85)], (some (84, true)), none, [], none⟩,
  ⟨(some 87), .mv (.t 6), (some (84, true)), none, [], none⟩,
  ⟨(some 88), .rcall 14 [(.t 87)], (some (84, true)), none, [], none⟩,
  ⟨(some 89), .bin .eql (.t 86) (.t 88), (some (84, true)), none, [], none⟩,
  ⟨(some 90), .pick (.t 84) (.t 89) (.k (.bool false)), none, none, [], none⟩,
  ⟨(some 4), .mv (.t 90), none, none, [], none⟩]
def ac_law13_LedgerParts_33 : AC := .reg l_law13_LedgerParts_33
def ac_law13_LedgerParts_34 : AC := .seq ac_law13_LedgerParts_33 .ret
def ac_law13_LedgerParts_35 : AC := .seq ac_law13_LedgerParts_32 ac_law13_LedgerParts_34
def ac_law13_LedgerParts_36 : AC := .seq ac_law13_LedgerParts_7 ac_law13_LedgerParts_35
def ac_law13_LedgerParts_37 : AC := .seq ac_law13_LedgerParts_6 ac_law13_LedgerParts_36
def ac_law13_LedgerParts_38 : AC := .seq ac_law13_LedgerParts_1 ac_law13_LedgerParts_37
def ac_law13_LedgerParts_39 : AC := .seq ac_law13_LedgerParts_0 ac_law13_LedgerParts_38
def ac_law13_LedgerParts : AC := ac_law13_LedgerParts_39
theorem comp_law13_LedgerParts : compF Try.prog [1000009, 1000011, 1000012, 4000013, 4000014] (drawR Try.prog [1000009, 1000011, 1000012, 4000013, 4000014] Try.f3.ntmps) [([0, 1, 5, 6, 7, 8], 1000000000)] 2 Try.f3 = some (ac_law13_LedgerParts, [.t 4]) := by kernel_rfl
def U_law13_LedgerParts := (And.intro (And.intro (And.intro (And.intro (And.intro (And.intro @ac_law13_LedgerParts.eq_1 (@mR _ _ ac_law13_LedgerParts_0.eq_1)) (And.intro (@mR _ _ ac_law13_LedgerParts_1.eq_1) (@mR _ _ ac_law13_LedgerParts_2.eq_1))) (And.intro (And.intro (@mR _ _ ac_law13_LedgerParts_3.eq_1) (@mU _ _ ac_law13_LedgerParts_4.eq_1)) (@mU _ _ ac_law13_LedgerParts_5.eq_1))) (And.intro (And.intro (And.intro (@mU _ _ ac_law13_LedgerParts_6.eq_1) (@mR _ _ ac_law13_LedgerParts_7.eq_1)) (And.intro (@mR _ _ ac_law13_LedgerParts_8.eq_1) (@mR _ _ ac_law13_LedgerParts_9.eq_1))) (And.intro (And.intro (@mU _ _ ac_law13_LedgerParts_10.eq_1) (@mU _ _ ac_law13_LedgerParts_11.eq_1)) (@mR _ _ ac_law13_LedgerParts_12.eq_1)))) (And.intro (And.intro (And.intro (And.intro (@mR _ _ ac_law13_LedgerParts_13.eq_1) (@mR _ _ ac_law13_LedgerParts_14.eq_1)) (And.intro (@mR _ _ ac_law13_LedgerParts_15.eq_1) (@mU _ _ ac_law13_LedgerParts_16.eq_1))) (And.intro (And.intro (@mU _ _ ac_law13_LedgerParts_17.eq_1) (@mU _ _ ac_law13_LedgerParts_18.eq_1)) (@mR _ _ ac_law13_LedgerParts_19.eq_1))) (And.intro (And.intro (And.intro (@mR _ _ ac_law13_LedgerParts_20.eq_1) (@mU _ _ ac_law13_LedgerParts_21.eq_1)) (And.intro (@mU _ _ ac_law13_LedgerParts_22.eq_1) (@mU _ _ ac_law13_LedgerParts_23.eq_1))) (And.intro (And.intro (@mU _ _ ac_law13_LedgerParts_24.eq_1) (@mU _ _ ac_law13_LedgerParts_25.eq_1)) (@mU _ _ ac_law13_LedgerParts_26.eq_1))))) (And.intro (And.intro (And.intro (And.intro (And.intro (@mR _ _ ac_law13_LedgerParts_27.eq_1) (@mU _ _ ac_law13_LedgerParts_28.eq_1)) (And.intro (@mU _ _ ac_law13_LedgerParts_29.eq_1) (@mU _ _ ac_law13_LedgerParts_30.eq_1))) (And.intro (And.intro (@mU _ _ ac_law13_LedgerParts_31.eq_1) (@mU _ _ ac_law13_LedgerParts_32.eq_1)) (@mR _ _ ac_law13_LedgerParts_33.eq_1))) (And.intro (And.intro (And.intro (@mU _ _ ac_law13_LedgerParts_34.eq_1) (@mU _ _ ac_law13_LedgerParts_35.eq_1)) (And.intro (@mU _ _ ac_law13_LedgerParts_36.eq_1) (@mU _ _ ac_law13_LedgerParts_37.eq_1))) (And.intro (And.intro (@mU _ _ ac_law13_LedgerParts_38.eq_1) (@mU _ _ ac_law13_LedgerParts_39.eq_1)) @l_law13_LedgerParts_0.eq_1))) (And.intro (And.intro (And.intro (And.intro @l_law13_LedgerParts_1.eq_1 @l_law13_LedgerParts_2.eq_1) (And.intro @l_law13_LedgerParts_3.eq_1 @l_law13_LedgerParts_7.eq_1)) (And.intro (And.intro @l_law13_LedgerParts_8.eq_1 @l_law13_LedgerParts_9.eq_1) @l_law13_LedgerParts_12.eq_1)) (And.intro (And.intro (And.intro @l_law13_LedgerParts_13.eq_1 @l_law13_LedgerParts_14.eq_1) (And.intro @l_law13_LedgerParts_15.eq_1 @l_law13_LedgerParts_19.eq_1)) (And.intro (And.intro @l_law13_LedgerParts_20.eq_1 @l_law13_LedgerParts_27.eq_1) @l_law13_LedgerParts_33.eq_1)))))

/- scoria/scorialaw13.LedgerMany -/
def l_law13_LedgerMany_0 : List AOp := [⟨(some 4), .mv (.k (.bool false)), none, none, [], none⟩]
def ac_law13_LedgerMany_0 : AC := .reg l_law13_LedgerMany_0
def l_law13_LedgerMany_1 : List AOp := [⟨(some 12), .icall 9 [(.k (.int .i64 9))], none, none, [], none⟩,
  ⟨(some 5), .mv (.t 12), none, none, [], none⟩]
def ac_law13_LedgerMany_1 : AC := .reg l_law13_LedgerMany_1
def l_law13_LedgerMany_2 : List AOp := [⟨(some 13), .call false 10 [], none, none, [], none⟩,
  ⟨(some 14), .un .not (.t 13), none, none, [], none⟩,
  ⟨(some 15), .mv (.t 14), none, none, [], none⟩,
  ⟨(some 16), .mv (.t 5), (some (15, false)), none, [], none⟩,
  ⟨(some 17), .isn .p false (.t 16), (some (15, false)), none, [], none⟩,
  ⟨(some 18), .pick (.t 15) (.k (.bool true)) (.t 17), none, none, [], none⟩]
def ac_law13_LedgerMany_2 : AC := .reg l_law13_LedgerMany_2
def l_law13_LedgerMany_3 : List AOp := [⟨(some 4), .mv (.k (.bool false)), none, none, [], none⟩]
def ac_law13_LedgerMany_3 : AC := .reg l_law13_LedgerMany_3
def ac_law13_LedgerMany_4 : AC := .seq ac_law13_LedgerMany_3 .ret
def ac_law13_LedgerMany_5 : AC := .cond (.t 18) ac_law13_LedgerMany_4 .skip
def ac_law13_LedgerMany_6 : AC := .seq ac_law13_LedgerMany_2 ac_law13_LedgerMany_5
def l_law13_LedgerMany_7 : List AOp := [⟨(some 19), .mv (.t 0), none, none, [], none⟩,
  ⟨(some 20), .bin .rem (.t 19) (.k (.int .i64 1000)), none, none, [], none⟩,
  ⟨(some 21), .bin .add (.t 20) (.k (.int .i64 1000)), none, none, [], none⟩,
  ⟨(some 22), .bin .rem (.t 21) (.k (.int .i64 1000)), none, none, [], none⟩,
  ⟨(some 23), .bin .add (.k (.int .i64 1)) (.t 22), none, none, [], none⟩,
  ⟨(some 0), .mv (.t 23), none, none, [], none⟩]
def ac_law13_LedgerMany_7 : AC := .reg l_law13_LedgerMany_7
def l_law13_LedgerMany_8 : List AOp := [⟨(some 6), .mv (.k (.int .i64 0)), none, none, [], none⟩]
def ac_law13_LedgerMany_8 : AC := .reg l_law13_LedgerMany_8
def l_law13_LedgerMany_9 : List AOp := [⟨(some 24), .mv (.t 6), none, none, [], none⟩,
  ⟨(some 25), .bin .lss (.t 24) (.k (.int .i64 8)), none, none, [], none⟩]
def ac_law13_LedgerMany_9 : AC := .reg l_law13_LedgerMany_9
def ac_law13_LedgerMany_10 : AC := .cond (.t 25) .skip (.exit 0)
def ac_law13_LedgerMany_11 : AC := .seq ac_law13_LedgerMany_9 ac_law13_LedgerMany_10
def l_law13_LedgerMany_12 : List AOp := [⟨(some 28), .mv (.t 5), none, none, [], none⟩,
  ⟨(some 29), .mv (.t 0), none, none, [], none⟩,
  ⟨(some 30), .mv (.t 6), none, none, [], none⟩,
  ⟨(some 31), .bin .mul (.k (.int .i64 3)) (.t 30), none, none, [], none⟩,
  ⟨(some 32), .bin .add (.t 29) (.t 31), none, none, [], none⟩,
  ⟨(some 33), .mv (.t 6), none, none, [], none⟩,
  ⟨(some 34), .icall 11 [(.t 28), (.t 32), (.t 33)], none, none, [], none⟩,
  ⟨(some 35), .bin .neq (.t 34) (.k (.int .i64 0)), none, none, [], none⟩]
def ac_law13_LedgerMany_12 : AC := .reg l_law13_LedgerMany_12
def l_law13_LedgerMany_13 : List AOp := [⟨(some 4), .mv (.k (.bool false)), none, none, [], none⟩]
def ac_law13_LedgerMany_13 : AC := .reg l_law13_LedgerMany_13
def ac_law13_LedgerMany_14 : AC := .seq ac_law13_LedgerMany_13 .ret
def ac_law13_LedgerMany_15 : AC := .cond (.t 35) ac_law13_LedgerMany_14 .skip
def ac_law13_LedgerMany_16 : AC := .seq ac_law13_LedgerMany_12 ac_law13_LedgerMany_15
def ac_law13_LedgerMany_17 : AC := .block 1 ac_law13_LedgerMany_16
def l_law13_LedgerMany_18 : List AOp := [⟨(some 26), .mv (.t 6), none, none, [], none⟩,
  ⟨(some 27), .bin .add (.t 26) (.k (.int .i64 1)), none, none, [], none⟩,
  ⟨(some 6), .mv (.t 27), none, none, [], none⟩]
def ac_law13_LedgerMany_18 : AC := .reg l_law13_LedgerMany_18
def ac_law13_LedgerMany_19 : AC := .seq ac_law13_LedgerMany_17 ac_law13_LedgerMany_18
def ac_law13_LedgerMany_20 : AC := .seq ac_law13_LedgerMany_11 ac_law13_LedgerMany_19
def ac_law13_LedgerMany_21 : AC := .loop [0, 1, 5, 6] 1000000000 ac_law13_LedgerMany_20
def ac_law13_LedgerMany_22 : AC := .block 0 ac_law13_LedgerMany_21
def ac_law13_LedgerMany_23 : AC := .seq ac_law13_LedgerMany_8 ac_law13_LedgerMany_22
def l_law13_LedgerMany_24 : List AOp := [⟨(some 36), .mv (.t 0), none, none, [], none⟩,
  ⟨(some 37), .mv (.t 1), none, none, [], none⟩,
  ⟨(some 38), .bin .rem (.t 37) (.k (.int .i64 8)), none, none, [], none⟩,
  ⟨(some 39), .bin .add (.t 38) (.k (.int .i64 8)), none, none, [], none⟩,
  ⟨(some 40), .bin .rem (.t 39) (.k (.int .i64 8)), none, none, [], none⟩,
  ⟨(some 41), .bin .mul (.k (.int .i64 3)) (.t 40), none, none, [], none⟩,
  ⟨(some 42), .bin .add (.t 36) (.t 41), none, none, [], none⟩,
  ⟨(some 7), .mv (.t 42), none, none, [], none⟩]
def ac_law13_LedgerMany_24 : AC := .reg l_law13_LedgerMany_24
def l_law13_LedgerMany_25 : List AOp := [⟨(some 44), .mv (.t 5), none, none, [], none⟩,
  ⟨(some 45), .mv (.t 0), none, none, [], none⟩,
  ⟨(some 46), .bin .add (.t 45) (.k (.int .i64 1)), none, none, [], none⟩,
  ⟨(some 47), .icall 15 [(.t 44), (.t 46)], none, none, [], none⟩,
  ⟨(some 43), .mv (.t 47), none, none, [], none⟩,
  ⟨(some 48), .ext 0 (.t 43), none, none, [], none⟩,
  ⟨(some 49), .ext 1 (.t 43), none, none, [], none⟩,
  ⟨(some 8), .mv (.t 48), none, none, [], none⟩,
  ⟨(some 9), .mv (.t 49), none, none, [], none⟩]
def ac_law13_LedgerMany_25 : AC := .reg l_law13_LedgerMany_25
def l_law13_LedgerMany_26 : List AOp := [⟨(some 50), .mv (.t 5), none, none, [], none⟩,
  ⟨(some 51), .mv (.t 0), none, none, [], none⟩,
  ⟨(some 52), .bin .add (.t 51) (.k (.int .i64 1)), none, none, [], none⟩,
  ⟨(some 53), .icall 11 [(.t 50), (.t 52), (.k (.int .i64 0))], none, none, [], none⟩,
  ⟨(some 54), .bin .neq (.t 53) (.k (.int .i64 70)), none, none, [], none⟩,
  ⟨(some 55), .mv (.t 54), none, none, [], none⟩,
  ⟨(some 56), .mv (.t 5), (some (55, false)), none, [], none⟩,
  ⟨(some 57), .mv (.t 7), (some (55, false)), none, [], none⟩,
  ⟨(some 58), .icall 11 [(.t 56), (.t 57), (.k (.int .i64 0))], (some (55, false)), none, [], none⟩,
  ⟨(some 59), .bin .neq (.t 58) (.k (.int .i64 7)), (some (55, false)), none, [], none⟩,
  ⟨(some 60), .pick (.t 55) (.k (.bool true)) (.t 59), none, none, [], none⟩,
  ⟨(some 61), .mv (.t 60), none, none, [], none⟩,
  ⟨(some 62), .mv (.t 9), (some (61, false)), none, [], none⟩,
  ⟨(some 63), .bin .neq (.t 62) (.k (.int .i64 4)), (some (61, false)), none, [], none⟩,
  ⟨(some 64), .pick (.t 61) (.k (.bool true)) (.t 63), none, none, [], none⟩]
def ac_law13_LedgerMany_26 : AC := .reg l_law13_LedgerMany_26
def l_law13_LedgerMany_27 : List AOp := [⟨(some 4), .mv (.k (.bool false)), none, none, [], none⟩]
def ac_law13_LedgerMany_27 : AC := .reg l_law13_LedgerMany_27
def ac_law13_LedgerMany_28 : AC := .seq ac_law13_LedgerMany_27 .ret
def ac_law13_LedgerMany_29 : AC := .cond (.t 64) ac_law13_LedgerMany_28 .skip
def ac_law13_LedgerMany_30 : AC := .seq ac_law13_LedgerMany_26 ac_law13_LedgerMany_29
def l_law13_LedgerMany_31 : List AOp := [⟨(some 66), .mv (.t 5), none, none, [], none⟩,
  ⟨(some 67), .mv (.t 7), none, none, [], none⟩,
  ⟨(some 68), .icall 15 [(.t 66), (.t 67)], none, none, [], none⟩,
  ⟨(some 65), .mv (.t 68), none, none, [], none⟩,
  ⟨(some 69), .ext 0 (.t 65), none, none, [], none⟩,
  ⟨(some 70), .ext 1 (.t 65), none, none, [], none⟩,
  ⟨(some 10), .mv (.t 69), none, none, [], none⟩,
  ⟨(some 11), .mv (.t 70), none, none, [], none⟩]
def ac_law13_LedgerMany_31 : AC := .reg l_law13_LedgerMany_31
def l_law13_LedgerMany_32 : List AOp := [⟨(some 71), .mv (.t 11), none, none, [], none⟩,
  ⟨(some 72), .bin .eql (.t 71) (.k (.int .i64 0)), none, none, [], none⟩,
  ⟨(some 73), .mv (.t 72), none, none, [], none⟩,
  ⟨(some 74), .mv (.t 5), (some (73, true)), none, [], none⟩,
  ⟨(some 75), .mv (.t 0), (some (73, true)), none, [], none⟩,
  ⟨(some 76), .bin .add (.t 75) (.k (.int .i64 1)), (some (73, true)), none, [], none⟩,
  ⟨(some 77), .icall 11 [(.t 74), (.t 76), (.k (.int .i64 0))], (some (73, true)), none, [], none⟩,
  ⟨(some 78), .bin .eql (.t 77) (.k (.int .i64 0)), (some (73, true)), none, [], none⟩,
  ⟨(some 79), .pick (.t 73) (.t 78) (.k (.bool false)), none, none, [], none⟩,
  ⟨(some 80), .mv (.t 79), none, none, [], none⟩,
  ⟨(some 81), .mv (.t 5), (some (80, true)), none, [], none⟩,
  ⟨(some 82), .icall 16 [(.t 81)], (some (80, true)), none, [], none⟩,
  ⟨(some 83), .len (.t 82), (some (80, true)), none, [], none⟩,
  ⟨(some 84), .bin .eql (.t 83) (.k (.int .i64 8)), (some (80, true)), none, [], none⟩,
  ⟨(some 85), .pick (.t 80) (.t 84) (.k (.bool false)), none, none, [], none⟩,
  ⟨(some 4), .mv (.t 85), none, none, [], none⟩]
def ac_law13_LedgerMany_32 : AC := .reg l_law13_LedgerMany_32
def ac_law13_LedgerMany_33 : AC := .seq ac_law13_LedgerMany_32 .ret
def ac_law13_LedgerMany_34 : AC := .seq ac_law13_LedgerMany_31 ac_law13_LedgerMany_33
def ac_law13_LedgerMany_35 : AC := .seq ac_law13_LedgerMany_30 ac_law13_LedgerMany_34
def ac_law13_LedgerMany_36 : AC := .seq ac_law13_LedgerMany_25 ac_law13_LedgerMany_35
def ac_law13_LedgerMany_37 : AC := .seq ac_law13_LedgerMany_24 ac_law13_LedgerMany_36
def ac_law13_LedgerMany_38 : AC := .seq ac_law13_LedgerMany_23 ac_law13_LedgerMany_37
def ac_law13_LedgerMany_39 : AC := .seq ac_law13_LedgerMany_7 ac_law13_LedgerMany_38
def ac_law13_LedgerMany_40 : AC := .seq ac_law13_LedgerMany_6 ac_law13_LedgerMany_39
def ac_law13_LedgerMany_41 : AC := .seq ac_law13_LedgerMany_1 ac_law13_LedgerMany_40
def ac_law13_LedgerMany_42 : AC := .seq ac_law13_LedgerMany_0 ac_law13_LedgerMany_41
def ac_law13_LedgerMany : AC := ac_law13_LedgerMany_42
theorem comp_law13_LedgerMany : compF Try.prog [1000009, 1000011, 1000015, 1000016] (drawR Try.prog [1000009, 1000011, 1000015, 1000016] Try.f4.ntmps) [([0, 1, 5, 6], 1000000000)] 2 Try.f4 = some (ac_law13_LedgerMany, [.t 4]) := by kernel_rfl
def U_law13_LedgerMany := (And.intro (And.intro (And.intro (And.intro (And.intro (And.intro @ac_law13_LedgerMany.eq_1 (@mR _ _ ac_law13_LedgerMany_0.eq_1)) (And.intro (@mR _ _ ac_law13_LedgerMany_1.eq_1) (@mR _ _ ac_law13_LedgerMany_2.eq_1))) (And.intro (And.intro (@mR _ _ ac_law13_LedgerMany_3.eq_1) (@mU _ _ ac_law13_LedgerMany_4.eq_1)) (And.intro (@mU _ _ ac_law13_LedgerMany_5.eq_1) (@mU _ _ ac_law13_LedgerMany_6.eq_1)))) (And.intro (And.intro (And.intro (@mR _ _ ac_law13_LedgerMany_7.eq_1) (@mR _ _ ac_law13_LedgerMany_8.eq_1)) (And.intro (@mR _ _ ac_law13_LedgerMany_9.eq_1) (@mU _ _ ac_law13_LedgerMany_10.eq_1))) (And.intro (And.intro (@mU _ _ ac_law13_LedgerMany_11.eq_1) (@mR _ _ ac_law13_LedgerMany_12.eq_1)) (@mR _ _ ac_law13_LedgerMany_13.eq_1)))) (And.intro (And.intro (And.intro (And.intro (@mU _ _ ac_law13_LedgerMany_14.eq_1) (@mU _ _ ac_law13_LedgerMany_15.eq_1)) (And.intro (@mU _ _ ac_law13_LedgerMany_16.eq_1) (@mU _ _ ac_law13_LedgerMany_17.eq_1))) (And.intro (And.intro (@mR _ _ ac_law13_LedgerMany_18.eq_1) (@mU _ _ ac_law13_LedgerMany_19.eq_1)) (And.intro (@mU _ _ ac_law13_LedgerMany_20.eq_1) (@mU _ _ ac_law13_LedgerMany_21.eq_1)))) (And.intro (And.intro (And.intro (@mU _ _ ac_law13_LedgerMany_22.eq_1) (@mU _ _ ac_law13_LedgerMany_23.eq_1)) (And.intro (@mR _ _ ac_law13_LedgerMany_24.eq_1) (@mR _ _ ac_law13_LedgerMany_25.eq_1))) (And.intro (And.intro (@mR _ _ ac_law13_LedgerMany_26.eq_1) (@mR _ _ ac_law13_LedgerMany_27.eq_1)) (@mU _ _ ac_law13_LedgerMany_28.eq_1))))) (And.intro (And.intro (And.intro (And.intro (And.intro (@mU _ _ ac_law13_LedgerMany_29.eq_1) (@mU _ _ ac_law13_LedgerMany_30.eq_1)) (And.intro (@mR _ _ ac_law13_LedgerMany_31.eq_1) (@mR _ _ ac_law13_LedgerMany_32.eq_1))) (And.intro (And.intro (@mU _ _ ac_law13_LedgerMany_33.eq_1) (@mU _ _ ac_law13_LedgerMany_34.eq_1)) (And.intro (@mU _ _ ac_law13_LedgerMany_35.eq_1) (@mU _ _ ac_law13_LedgerMany_36.eq_1)))) (And.intro (And.intro (And.intro (@mU _ _ ac_law13_LedgerMany_37.eq_1) (@mU _ _ ac_law13_LedgerMany_38.eq_1)) (And.intro (@mU _ _ ac_law13_LedgerMany_39.eq_1) (@mU _ _ ac_law13_LedgerMany_40.eq_1))) (And.intro (And.intro (@mU _ _ ac_law13_LedgerMany_41.eq_1) (@mU _ _ ac_law13_LedgerMany_42.eq_1)) @l_law13_LedgerMany_0.eq_1))) (And.intro (And.intro (And.intro (And.intro @l_law13_LedgerMany_1.eq_1 @l_law13_LedgerMany_2.eq_1) (And.intro @l_law13_LedgerMany_3.eq_1 @l_law13_LedgerMany_7.eq_1)) (And.intro (And.intro @l_law13_LedgerMany_8.eq_1 @l_law13_LedgerMany_9.eq_1) (And.intro @l_law13_LedgerMany_12.eq_1 @l_law13_LedgerMany_13.eq_1))) (And.intro (And.intro (And.intro @l_law13_LedgerMany_18.eq_1 @l_law13_LedgerMany_24.eq_1) (And.intro @l_law13_LedgerMany_25.eq_1 @l_law13_LedgerMany_26.eq_1)) (And.intro (And.intro @l_law13_LedgerMany_27.eq_1 @l_law13_LedgerMany_31.eq_1) @l_law13_LedgerMany_32.eq_1)))))

/- scoria/scorialaw13.LedgerSums -/
def l_law13_LedgerSums_0 : List AOp := [⟨(some 4), .mv (.k (.bool false)), none, none, [], none⟩]
def ac_law13_LedgerSums_0 : AC := .reg l_law13_LedgerSums_0
def l_law13_LedgerSums_1 : List AOp := [⟨(some 19), .mv (.t 0), none, none, [], none⟩,
  ⟨(some 20), .icall 9 [(.t 19)], none, none, [], none⟩,
  ⟨(some 5), .mv (.t 20), none, none, [], none⟩]
def ac_law13_LedgerSums_1 : AC := .reg l_law13_LedgerSums_1
def l_law13_LedgerSums_2 : List AOp := [⟨(some 21), .call false 10 [], none, none, [], none⟩,
  ⟨(some 22), .un .not (.t 21), none, none, [], none⟩,
  ⟨(some 23), .mv (.t 22), none, none, [], none⟩,
  ⟨(some 24), .mv (.t 5), (some (23, false)), none, [], none⟩,
  ⟨(some 25), .isn .p false (.t 24), (some (23, false)), none, [], none⟩,
  ⟨(some 26), .pick (.t 23) (.k (.bool true)) (.t 25), none, none, [], none⟩]
def ac_law13_LedgerSums_2 : AC := .reg l_law13_LedgerSums_2
def l_law13_LedgerSums_3 : List AOp := [⟨(some 4), .mv (.k (.bool false)), none, none, [], none⟩]
def ac_law13_LedgerSums_3 : AC := .reg l_law13_LedgerSums_3
def ac_law13_LedgerSums_4 : AC := .seq ac_law13_LedgerSums_3 .ret
def ac_law13_LedgerSums_5 : AC := .cond (.t 26) ac_law13_LedgerSums_4 .skip
def ac_law13_LedgerSums_6 : AC := .seq ac_law13_LedgerSums_2 ac_law13_LedgerSums_5
def l_law13_LedgerSums_7 : List AOp := [⟨(some 27), .mv (.t 0), none, none, [], none⟩,
  ⟨(some 28), .mm true [(.t 27), (.k (.int .i64 0))], none, none, [], none⟩,
  ⟨(some 6), .mv (.t 28), none, none, [], none⟩]
def ac_law13_LedgerSums_7 : AC := .reg l_law13_LedgerSums_7
def l_law13_LedgerSums_8 : List AOp := [⟨(some 7), .mv (.k (.int .i64 0)), none, none, [], none⟩]
def ac_law13_LedgerSums_8 : AC := .reg l_law13_LedgerSums_8
def l_law13_LedgerSums_9 : List AOp := [⟨(some 29), .mv (.t 7), none, none, [], none⟩,
  ⟨(some 30), .mv (.t 1), none, none, [], none⟩,
  ⟨(some 31), .len (.t 30), none, none, [], none⟩,
  ⟨(some 32), .bin .lss (.t 29) (.t 31), none, none, [], none⟩,
  ⟨(some 33), .mv (.t 32), none, none, [], none⟩,
  ⟨(some 34), .mv (.t 7), (some (33, true)), none, [], none⟩,
  ⟨(some 35), .bin .lss (.t 34) (.k (.int .i64 200)), (some (33, true)), none, [], none⟩,
  ⟨(some 36), .pick (.t 33) (.t 35) (.k (.bool false)), none, none, [], none⟩]
def ac_law13_LedgerSums_9 : AC := .reg l_law13_LedgerSums_9
def ac_law13_LedgerSums_10 : AC := .cond (.t 36) .skip (.exit 0)
def ac_law13_LedgerSums_11 : AC := .seq ac_law13_LedgerSums_9 ac_law13_LedgerSums_10
def l_law13_LedgerSums_12 : List AOp := [⟨(some 39), .mv (.t 5), none, none, [], none⟩,
  ⟨(some 40), .rcall 13 [(.t 39)], none, none, [], none⟩,
  ⟨(some 8), .mv (.t 40), none, none, [], none⟩]
def ac_law13_LedgerSums_12 : AC := .reg l_law13_LedgerSums_12
def l_law13_LedgerSums_13 : List AOp := [⟨(some 41), .mv (.t 1), none, none, [], none⟩,
  ⟨(some 42), .mv (.t 7), none, none, [], none⟩,
  ⟨(some 43), .isl 3 (.t 41) (.t 42), none, none, [], none⟩,
  ⟨(some 44), .faddr 0 (.t 43), none, none, [], none⟩,
  ⟨(some 45), .load none (.t 44), none, none, [], none⟩]
def ac_law13_LedgerSums_13 : AC := .reg l_law13_LedgerSums_13
def l_law13_LedgerSums_14 : List AOp := [⟨(some 47), .bin .eql (.t 45) (.k (.int .i64 0)), none, none, [], none⟩,
  ⟨(some 46), .mv (.t 47), none, none, [], none⟩]
def ac_law13_LedgerSums_14 : AC := .reg l_law13_LedgerSums_14
def l_law13_LedgerSums_15 : List AOp := [⟨(some 48), .mv (.t 5), none, none, [], none⟩,
  ⟨(some 49), .mv (.t 1), none, none, [], none⟩,
  ⟨(some 50), .mv (.t 7), none, none, [], none⟩,
  ⟨(some 51), .isl 3 (.t 49) (.t 50), none, none, [], none⟩,
  ⟨(some 52), .faddr 1 (.t 51), none, none, [], none⟩,
  ⟨(some 53), .load none (.t 52), none, none, [], none⟩,
  ⟨(some 54), .mv (.t 1), none, none, [], none⟩,
  ⟨(some 55), .mv (.t 7), none, none, [], none⟩,
  ⟨(some 56), .isl 3 (.t 54) (.t 55), none, none, [], none⟩,
  ⟨(some 57), .faddr 2 (.t 56), none, none, [], none⟩,
  ⟨(some 58), .load none (.t 57), none, none, [], none⟩,
  ⟨(some 59), .icall 11 [(.t 48), (.t 53), (.t 58)], none, none, [], none⟩]
def ac_law13_LedgerSums_15 : AC := .dreg 0 l_law13_LedgerSums_15
def l_law13_LedgerSums_16 : List AOp := [⟨(some 61), .bin .eql (.t 45) (.k (.int .i64 1)), none, none, [], none⟩,
  ⟨(some 60), .mv (.t 61), none, none, [], none⟩]
def ac_law13_LedgerSums_16 : AC := .reg l_law13_LedgerSums_16
def l_law13_LedgerSums_17 : List AOp := [⟨(some 62), .mv (.t 5), none, none, [], none⟩,
  ⟨(some 63), .mv (.t 1), none, none, [], none⟩,
  ⟨(some 64), .mv (.t 7), none, none, [], none⟩,
  ⟨(some 65), .isl 3 (.t 63) (.t 64), none, none, [], none⟩,
  ⟨(some 66), .faddr 1 (.t 65), none, none, [], none⟩,
  ⟨(some 67), .load none (.t 66), none, none, [], none⟩,
  ⟨(some 68), .icall 15 [(.t 62), (.t 67)], none, none, [], none⟩]
def ac_law13_LedgerSums_17 : AC := .reg l_law13_LedgerSums_17
def l_law13_LedgerSums_18 : List AOp := [⟨(some 70), .bin .eql (.t 45) (.k (.int .i64 3)), none, none, [], none⟩,
  ⟨(some 69), .mv (.t 70), none, none, [], none⟩]
def ac_law13_LedgerSums_18 : AC := .reg l_law13_LedgerSums_18
def l_law13_LedgerSums_19 : List AOp := [⟨(some 72), .mv (.t 5), none, none, [], none⟩,
  ⟨(some 73), .mv (.t 1), none, none, [], none⟩,
  ⟨(some 74), .mv (.t 7), none, none, [], none⟩,
  ⟨(some 75), .isl 3 (.t 73) (.t 74), none, none, [], none⟩,
  ⟨(some 76), .faddr 1 (.t 75), none, none, [], none⟩,
  ⟨(some 77), .load none (.t 76), none, none, [], none⟩,
  ⟨(some 78), .rcall 17 [(.t 72), (.t 77)], none, none, [], none⟩,
  ⟨(some 71), .mv (.t 78), none, none, [], none⟩,
  ⟨(some 79), .ext 0 (.t 71), none, none, [], none⟩,
  ⟨(some 80), .ext 1 (.t 71), none, none, [], none⟩,
  ⟨(some 81), .ext 2 (.t 71), none, none, [], none⟩,
  ⟨(some 9), .mv (.t 79), none, none, [], none⟩,
  ⟨(some 10), .mv (.t 80), none, none, [], none⟩,
  ⟨(some 11), .mv (.t 81), none, none, [], none⟩]
def ac_law13_LedgerSums_19 : AC := .reg l_law13_LedgerSums_19
def l_law13_LedgerSums_20 : List AOp := [⟨(some 82), .mv (.t 5), none, none, [], none⟩,
  ⟨(some 83), .mv (.t 1), none, none, [], none⟩,
  ⟨(some 84), .mv (.t 7), none, none, [], none⟩,
  ⟨(some 85), .isl 3 (.t 83) (.t 84), none, none, [], none⟩,
  ⟨(some 86), .faddr 1 (.t 85), none, none, [], none⟩,
  ⟨(some 87), .load none (.t 86), none, none, [], none⟩,
  ⟨(some 88), .mv (.t 1), none, none, [], none⟩,
  ⟨(some 89), .mv (.t 7), none, none, [], none⟩,
  ⟨(some 90), .isl 3 (.t 88) (.t 89), none, none, [], none⟩,
  ⟨(some 91), .faddr 2 (.t 90), none, none, [], none⟩,
  ⟨(some 92), .load none (.t 91), none, none, [], none⟩,
  ⟨(some 93), .icall 12 [(.t 82), (.t 87), (.t 92)], none, none, [], none⟩,
  ⟨(some 12), .mv (.t 93), none, none, [], none⟩]
def ac_law13_LedgerSums_20 : AC := .dreg 0 l_law13_LedgerSums_20
def l_law13_LedgerSums_21 : List AOp := [⟨(some 94), .mv (.t 1), none, none, [], none⟩,
  ⟨(some 95), .mv (.t 7), none, none, [], none⟩,
  ⟨(some 96), .isl 3 (.t 94) (.t 95), none, none, [], none⟩,
  ⟨(some 97), .faddr 2 (.t 96), none, none, [], none⟩,
  ⟨(some 98), .load none (.t 97), none, none, [], none⟩,
  ⟨(some 99), .bin .geq (.t 98) (.k (.int .i64 0)), none, none, [], none⟩,
  ⟨(some 100), .mv (.t 99), none, none, [], none⟩,
  ⟨(some 101), .mv (.t 11), (some (100, true)), none, [], none⟩,
  ⟨(some 102), .bin .eql (.t 101) (.k (.int .i64 0)), (some (100, true)), none, [], none⟩,
  ⟨(some 103), .pick (.t 100) (.t 102) (.k (.bool false)), none, none, [], none⟩,
  ⟨(some 104), .mv (.t 103), none, none, [], none⟩,
  ⟨(some 105), .mv (.t 12), (some (104, true)), none, [], none⟩,
  ⟨(some 106), .bin .eql (.t 105) (.k (.int .i64 0)), (some (104, true)), none, [], none⟩,
  ⟨(some 107), .mv (.t 1), (some (104, true)), none, [], none⟩,
  ⟨(some 108), .mv (.t 7), (some (104, true)), none, [], none⟩,
  ⟨(some 109), .isl 3 (.t 107) (.t 108), (some (104, true)), none, [], none⟩,
  ⟨(some 110), .faddr 2 (.t 109), (some (104, true)), none, [], none⟩,
  ⟨(some 111), .load none (.t 110), (some (104, true)), none, [], none⟩,
  ⟨(some 112), .mv (.t 6), (some (104, true)), none, [], none⟩,
  ⟨(some 113), .mv (.t 8), (some (104, true)), none, [], none⟩,
  ⟨(some 114), .bin .sub (.t 112) (.t 113), (some (104, true)), none, [], none⟩,
  ⟨(some 115), .bin .leq (.t 111) (.t 114), (some (104, true)), none, [], none⟩,
  ⟨(some 116), .eqb true (.t 106) (.t 115), (some (104, true)), none, [], none⟩,
  ⟨(some 117), .pick (.t 104) (.t 116) (.k (.bool false)), none, none, [], none⟩]
def ac_law13_LedgerSums_21 : AC := .reg l_law13_LedgerSums_21
def l_law13_LedgerSums_22 : List AOp := [⟨(some 4), .mv (.k (.bool false)), none, none, [], none⟩]
def ac_law13_LedgerSums_22 : AC := .reg l_law13_LedgerSums_22
def ac_law13_LedgerSums_23 : AC := .seq ac_law13_LedgerSums_22 .ret
def ac_law13_LedgerSums_24 : AC := .cond (.t 117) ac_law13_LedgerSums_23 .skip
def ac_law13_LedgerSums_25 : AC := .seq ac_law13_LedgerSums_21 ac_law13_LedgerSums_24
def ac_law13_LedgerSums_26 : AC := .seq ac_law13_LedgerSums_20 ac_law13_LedgerSums_25
def ac_law13_LedgerSums_27 : AC := .seq ac_law13_LedgerSums_19 ac_law13_LedgerSums_26
def l_law13_LedgerSums_28 : List AOp := [⟨(some 119), .bin .eql (.t 45) (.k (.int .i64 4)), none, none, [], none⟩,
  ⟨(some 118), .mv (.t 119), none, none, [], none⟩]
def ac_law13_LedgerSums_28 : AC := .reg l_law13_LedgerSums_28
def l_law13_LedgerSums_29 : List AOp := [⟨(some 120), .mv (.t 5), none, none, [], none⟩,
  ⟨(some 121), .mv (.t 1), none, none, [], none⟩,
  ⟨(some 122), .mv (.t 7), none, none, [], none⟩,
  ⟨(some 123), .isl 3 (.t 121) (.t 122), none, none, [], none⟩,
  ⟨(some 124), .faddr 1 (.t 123), none, none, [], none⟩,
  ⟨(some 125), .load none (.t 124), none, none, [], none⟩,
  ⟨(some 126), .mv (.t 1), none, none, [], none⟩,
  ⟨(some 127), .mv (.t 7), none, none, [], none⟩,
  ⟨(some 128), .isl 3 (.t 126) (.t 127), none, none, [], none⟩,
  ⟨(some 129), .faddr 2 (.t 128), none, none, [], none⟩,
  ⟨(some 130), .load none (.t 129), none, none, [], none⟩,
  ⟨(some 131), .icall 18 [(.t 120), (.t 125), (.t 130)], none, none, [], none⟩]
def ac_law13_LedgerSums_29 : AC := .dreg 0 l_law13_LedgerSums_29
def ac_law13_LedgerSums_30 : AC := .cond (.t 118) ac_law13_LedgerSums_29 .skip
def ac_law13_LedgerSums_31 : AC := .seq ac_law13_LedgerSums_28 ac_law13_LedgerSums_30
def ac_law13_LedgerSums_32 : AC := .cond (.t 69) ac_law13_LedgerSums_27 ac_law13_LedgerSums_31
def ac_law13_LedgerSums_33 : AC := .seq ac_law13_LedgerSums_18 ac_law13_LedgerSums_32
def ac_law13_LedgerSums_34 : AC := .cond (.t 60) ac_law13_LedgerSums_17 ac_law13_LedgerSums_33
def ac_law13_LedgerSums_35 : AC := .seq ac_law13_LedgerSums_16 ac_law13_LedgerSums_34
def ac_law13_LedgerSums_36 : AC := .cond (.t 46) ac_law13_LedgerSums_15 ac_law13_LedgerSums_35
def ac_law13_LedgerSums_37 : AC := .seq ac_law13_LedgerSums_14 ac_law13_LedgerSums_36
def ac_law13_LedgerSums_38 : AC := .block 2 ac_law13_LedgerSums_37
def ac_law13_LedgerSums_39 : AC := .seq ac_law13_LedgerSums_13 ac_law13_LedgerSums_38
def l_law13_LedgerSums_40 : List AOp := [⟨(some 13), .mv (.k (.int .i64 0)), none, none, [], none⟩]
def ac_law13_LedgerSums_40 : AC := .reg l_law13_LedgerSums_40
def l_law13_LedgerSums_41 : List AOp := [⟨(some 132), .mv (.t 5), none, none, [], none⟩,
  ⟨(some 133), .icall 16 [(.t 132)], none, none, [], none⟩,
  ⟨(some 14), .mv (.t 133), none, none, [], none⟩]
def ac_law13_LedgerSums_41 : AC := .reg l_law13_LedgerSums_41
def l_law13_LedgerSums_42 : List AOp := [⟨(some 15), .mv (.k (.int .i64 0)), none, none, [], none⟩]
def ac_law13_LedgerSums_42 : AC := .reg l_law13_LedgerSums_42
def l_law13_LedgerSums_43 : List AOp := [⟨(some 134), .mv (.t 15), none, none, [], none⟩,
  ⟨(some 135), .mv (.t 14), none, none, [], none⟩,
  ⟨(some 136), .len (.t 135), none, none, [], none⟩,
  ⟨(some 137), .bin .lss (.t 134) (.t 136), none, none, [], none⟩]
def ac_law13_LedgerSums_43 : AC := .reg l_law13_LedgerSums_43
def ac_law13_LedgerSums_44 : AC := .cond (.t 137) .skip (.exit 3)
def ac_law13_LedgerSums_45 : AC := .seq ac_law13_LedgerSums_43 ac_law13_LedgerSums_44
def l_law13_LedgerSums_46 : List AOp := [⟨(some 141), .mv (.t 5), none, none, [], none⟩,
  ⟨(some 142), .mv (.t 14), none, none, [], none⟩,
  ⟨(some 143), .mv (.t 15), none, none, [], none⟩,
  ⟨(some 144), .isl 1 (.t 142) (.t 143), none, none, [], none⟩,
  ⟨(some 145), .load none (.t 144), none, none, [], none⟩,
  ⟨(some 146), .rcall 17 [(.t 141), (.t 145)], none, none, [], none⟩,
  ⟨(some 140), .mv (.t 146), none, none, [], none⟩,
  ⟨(some 147), .ext 0 (.t 140), none, none, [], none⟩,
  ⟨(some 148), .ext 1 (.t 140), none, none, [], none⟩,
  ⟨(some 149), .ext 2 (.t 140), none, none, [], none⟩,
  ⟨(some 16), .mv (.t 147), none, none, [], none⟩,
  ⟨(some 17), .mv (.t 148), none, none, [], none⟩,
  ⟨(some 18), .mv (.t 149), none, none, [], none⟩]
def ac_law13_LedgerSums_46 : AC := .reg l_law13_LedgerSums_46
def l_law13_LedgerSums_47 : List AOp := [⟨(some 150), .mv (.t 17), none, none, [], none⟩,
  ⟨(some 151), .bin .lss (.t 150) (.k (.int .i64 0)), none, none, [], none⟩]
def ac_law13_LedgerSums_47 : AC := .reg l_law13_LedgerSums_47
def l_law13_LedgerSums_48 : List AOp := [⟨(some 4), .mv (.k (.bool false)), none, none, [], none⟩]
def ac_law13_LedgerSums_48 : AC := .reg l_law13_LedgerSums_48
def ac_law13_LedgerSums_49 : AC := .seq ac_law13_LedgerSums_48 .ret
def ac_law13_LedgerSums_50 : AC := .cond (.t 151) ac_law13_LedgerSums_49 .skip
def ac_law13_LedgerSums_51 : AC := .seq ac_law13_LedgerSums_47 ac_law13_LedgerSums_50
def l_law13_LedgerSums_52 : List AOp := [⟨(some 152), .mv (.t 13), none, none, [], none⟩,
  ⟨(some 153), .mv (.t 17), none, none, [], none⟩,
  ⟨(some 154), .bin .add (.t 152) (.t 153), none, none, [], none⟩,
  ⟨(some 13), .mv (.t 154), none, none, [], none⟩]
def ac_law13_LedgerSums_52 : AC := .reg l_law13_LedgerSums_52
def ac_law13_LedgerSums_53 : AC := .seq ac_law13_LedgerSums_51 ac_law13_LedgerSums_52
def ac_law13_LedgerSums_54 : AC := .seq ac_law13_LedgerSums_46 ac_law13_LedgerSums_53
def ac_law13_LedgerSums_55 : AC := .block 4 ac_law13_LedgerSums_54
def l_law13_LedgerSums_56 : List AOp := [⟨(some 138), .mv (.t 15), none, none, [], none⟩,
  ⟨(some 139), .bin .add (.t 138) (.k (.int .i64 1)), none, none, [], none⟩,
  ⟨(some 15), .mv (.t 139), none, none, [], none⟩]
def ac_law13_LedgerSums_56 : AC := .reg l_law13_LedgerSums_56
def ac_law13_LedgerSums_57 : AC := .seq ac_law13_LedgerSums_55 ac_law13_LedgerSums_56
def ac_law13_LedgerSums_58 : AC := .seq ac_law13_LedgerSums_45 ac_law13_LedgerSums_57
def ac_law13_LedgerSums_59 : AC := .loop [1, 5, 6, 7, 13, 14, 15] 1000000000 ac_law13_LedgerSums_58
def ac_law13_LedgerSums_60 : AC := .block 3 ac_law13_LedgerSums_59
def ac_law13_LedgerSums_61 : AC := .seq ac_law13_LedgerSums_42 ac_law13_LedgerSums_60
def l_law13_LedgerSums_62 : List AOp := [⟨(some 155), .mv (.t 13), none, none, [], none⟩,
  ⟨(some 156), .mv (.t 5), none, none, [], none⟩,
  ⟨(some 157), .rcall 13 [(.t 156)], none, none, [], none⟩,
  ⟨(some 158), .bin .neq (.t 155) (.t 157), none, none, [], none⟩,
  ⟨(some 159), .mv (.t 158), none, none, [], none⟩,
  ⟨(some 160), .mv (.t 13), (some (159, false)), none, [], none⟩,
  ⟨(some 161), .mv (.t 6), (some (159, false)), none, [], none⟩,
  ⟨(some 162), .bin .gtr (.t 160) (.t 161), (some (159, false)), none, [], none⟩,
  ⟨(some 163), .pick (.t 159) (.k (.bool true)) (.t 162), none, none, [], none⟩,
  ⟨(some 164), .mv (.t 163), none, none, [], none⟩,
  ⟨(some 165), .mv (.t 5), (some (164, false)), none, [], none⟩,
  ⟨(some 166), .rcall 14 [(.t 165)], (some (164, false)), none, [], none⟩,
  ⟨(some 167), .mv (.t 6), (some (164, false)), none, [], none⟩,
  ⟨(some 168), .mv (.t 13), (some (164, false)), none, [], none⟩,
  ⟨(some 169), .bin .sub (.t 167) (.t 168), (some (164, false)), none, [], none⟩,
  ⟨(some 170), .bin .neq (.t 166) (.t 169), (some (164, false)), none, [], none⟩,
  ⟨(some 171), .pick (.t 164) (.k (.bool true)) (.t 170), none, none, [], none⟩]
def ac_law13_LedgerSums_62 : AC := .reg l_law13_LedgerSums_62
def l_law13_LedgerSums_63 : List AOp := [⟨(some 4), .mv (.k (.bool false)), none, none, [], none⟩]
def ac_law13_LedgerSums_63 : AC := .reg l_law13_LedgerSums_63
def ac_law13_LedgerSums_64 : AC := .seq ac_law13_LedgerSums_63 .ret
def ac_law13_LedgerSums_65 : AC := .cond (.t 171) ac_law13_LedgerSums_64 .skip
def ac_law13_LedgerSums_66 : AC := .seq ac_law13_LedgerSums_62 ac_law13_LedgerSums_65
def ac_law13_LedgerSums_67 : AC := .seq ac_law13_LedgerSums_61 ac_law13_LedgerSums_66
def ac_law13_LedgerSums_68 : AC := .seq ac_law13_LedgerSums_41 ac_law13_LedgerSums_67
def ac_law13_LedgerSums_69 : AC := .seq ac_law13_LedgerSums_40 ac_law13_LedgerSums_68
def ac_law13_LedgerSums_70 : AC := .seq ac_law13_LedgerSums_39 ac_law13_LedgerSums_69
def ac_law13_LedgerSums_71 : AC := .seq ac_law13_LedgerSums_12 ac_law13_LedgerSums_70
def ac_law13_LedgerSums_72 : AC := .block 1 ac_law13_LedgerSums_71
def l_law13_LedgerSums_73 : List AOp := [⟨(some 37), .mv (.t 7), none, none, [], none⟩,
  ⟨(some 38), .bin .add (.t 37) (.k (.int .i64 1)), none, none, [], none⟩,
  ⟨(some 7), .mv (.t 38), none, none, [], none⟩]
def ac_law13_LedgerSums_73 : AC := .reg l_law13_LedgerSums_73
def ac_law13_LedgerSums_74 : AC := .seq ac_law13_LedgerSums_72 ac_law13_LedgerSums_73
def ac_law13_LedgerSums_75 : AC := .seq ac_law13_LedgerSums_11 ac_law13_LedgerSums_74
def ac_law13_LedgerSums_76 : AC := .loop [1, 5, 6, 7] 1000000000 ac_law13_LedgerSums_75
def ac_law13_LedgerSums_77 : AC := .block 0 ac_law13_LedgerSums_76
def ac_law13_LedgerSums_78 : AC := .seq ac_law13_LedgerSums_8 ac_law13_LedgerSums_77
def l_law13_LedgerSums_79 : List AOp := [⟨(some 4), .mv (.k (.bool true)), none, none, [], none⟩]
def ac_law13_LedgerSums_79 : AC := .reg l_law13_LedgerSums_79
def ac_law13_LedgerSums_80 : AC := .seq ac_law13_LedgerSums_79 .ret
def ac_law13_LedgerSums_81 : AC := .seq ac_law13_LedgerSums_78 ac_law13_LedgerSums_80
def ac_law13_LedgerSums_82 : AC := .seq ac_law13_LedgerSums_7 ac_law13_LedgerSums_81
def ac_law13_LedgerSums_83 : AC := .seq ac_law13_LedgerSums_6 ac_law13_LedgerSums_82
def ac_law13_LedgerSums_84 : AC := .seq ac_law13_LedgerSums_1 ac_law13_LedgerSums_83
def ac_law13_LedgerSums_85 : AC := .seq ac_law13_LedgerSums_0 ac_law13_LedgerSums_84
def ac_law13_LedgerSums : AC := ac_law13_LedgerSums_85
theorem comp_law13_LedgerSums : compF Try.prog [1000009, 4000013, 1000011, 1000015, 4000017, 1000012, 1000018, 1000016, 4000014] (drawR Try.prog [1000009, 4000013, 1000011, 1000015, 4000017, 1000012, 1000018, 1000016, 4000014] Try.f5.ntmps) [([1, 5, 6, 7], 1000000000), ([1, 5, 6, 7, 13, 14, 15], 1000000000)] 2 Try.f5 = some (ac_law13_LedgerSums, [.t 4]) := by kernel_rfl
def U_law13_LedgerSums := (And.intro (And.intro (And.intro (And.intro (And.intro (And.intro (And.intro @ac_law13_LedgerSums.eq_1 (@mR _ _ ac_law13_LedgerSums_0.eq_1)) (And.intro (@mR _ _ ac_law13_LedgerSums_1.eq_1) (@mR _ _ ac_law13_LedgerSums_2.eq_1))) (And.intro (And.intro (@mR _ _ ac_law13_LedgerSums_3.eq_1) (@mU _ _ ac_law13_LedgerSums_4.eq_1)) (And.intro (@mU _ _ ac_law13_LedgerSums_5.eq_1) (@mU _ _ ac_law13_LedgerSums_6.eq_1)))) (And.intro (And.intro (And.intro (@mR _ _ ac_law13_LedgerSums_7.eq_1) (@mR _ _ ac_law13_LedgerSums_8.eq_1)) (And.intro (@mR _ _ ac_law13_LedgerSums_9.eq_1) (@mU _ _ ac_law13_LedgerSums_10.eq_1))) (And.intro (And.intro (@mU _ _ ac_law13_LedgerSums_11.eq_1) (@mR _ _ ac_law13_LedgerSums_12.eq_1)) (@mR _ _ ac_law13_LedgerSums_13.eq_1)))) (And.intro (And.intro (And.intro (And.intro (@mR _ _ ac_law13_LedgerSums_14.eq_1) (@mD _ _ _ ac_law13_LedgerSums_15.eq_1)) (And.intro (@mR _ _ ac_law13_LedgerSums_16.eq_1) (@mR _ _ ac_law13_LedgerSums_17.eq_1))) (And.intro (And.intro (@mR _ _ ac_law13_LedgerSums_18.eq_1) (@mR _ _ ac_law13_LedgerSums_19.eq_1)) (And.intro (@mD _ _ _ ac_law13_LedgerSums_20.eq_1) (@mR _ _ ac_law13_LedgerSums_21.eq_1)))) (And.intro (And.intro (And.intro (@mR _ _ ac_law13_LedgerSums_22.eq_1) (@mU _ _ ac_law13_LedgerSums_23.eq_1)) (And.intro (@mU _ _ ac_law13_LedgerSums_24.eq_1) (@mU _ _ ac_law13_LedgerSums_25.eq_1))) (And.intro (And.intro (@mU _ _ ac_law13_LedgerSums_26.eq_1) (@mU _ _ ac_law13_LedgerSums_27.eq_1)) (@mR _ _ ac_law13_LedgerSums_28.eq_1))))) (And.intro (And.intro (And.intro (And.intro (And.intro (@mD _ _ _ ac_law13_LedgerSums_29.eq_1) (@mU _ _ ac_law13_LedgerSums_30.eq_1)) (And.intro (@mU _ _ ac_law13_LedgerSums_31.eq_1) (@mU _ _ ac_law13_LedgerSums_32.eq_1))) (And.intro (And.intro (@mU _ _ ac_law13_LedgerSums_33.eq_1) (@mU _ _ ac_law13_LedgerSums_34.eq_1)) (And.intro (@mU _ _ ac_law13_LedgerSums_35.eq_1) (@mU _ _ ac_law13_LedgerSums_36.eq_1)))) (And.intro (And.intro (And.intro (@mU _ _ ac_law13_LedgerSums_37.eq_1) (@mU _ _ ac_law13_LedgerSums_38.eq_1)) (And.intro (@mU _ _ ac_law13_LedgerSums_39.eq_1) (@mR _ _ ac_law13_LedgerSums_40.eq_1))) (And.intro (And.intro (@mR _ _ ac_law13_LedgerSums_41.eq_1) (@mR _ _ ac_law13_LedgerSums_42.eq_1)) (@mR _ _ ac_law13_LedgerSums_43.eq_1)))) (And.intro (And.intro (And.intro (And.intro (@mU _ _ ac_law13_LedgerSums_44.eq_1) (@mU _ _ ac_law13_LedgerSums_45.eq_1)) (And.intro (@mR _ _ ac_law13_LedgerSums_46.eq_1) (@mR _ _ ac_law13_LedgerSums_47.eq_1))) (And.intro (And.intro (@mR _ _ ac_law13_LedgerSums_48.eq_1) (@mU _ _ ac_law13_LedgerSums_49.eq_1)) (And.intro (@mU _ _ ac_law13_LedgerSums_50.eq_1) (@mU _ _ ac_law13_LedgerSums_51.eq_1)))) (And.intro (And.intro (And.intro (@mR _ _ ac_law13_LedgerSums_52.eq_1) (@mU _ _ ac_law13_LedgerSums_53.eq_1)) (And.intro (@mU _ _ ac_law13_LedgerSums_54.eq_1) (@mU _ _ ac_law13_LedgerSums_55.eq_1))) (And.intro (And.intro (@mR _ _ ac_law13_LedgerSums_56.eq_1) (@mU _ _ ac_law13_LedgerSums_57.eq_1)) (@mU _ _ ac_law13_LedgerSums_58.eq_1)))))) (And.intro (And.intro (And.intro (And.intro (And.intro (And.intro (@mU _ _ ac_law13_LedgerSums_59.eq_1) (@mU _ _ ac_law13_LedgerSums_60.eq_1)) (And.intro (@mU _ _ ac_law13_LedgerSums_61.eq_1) (@mR _ _ ac_law13_LedgerSums_62.eq_1))) (And.intro (And.intro (@mR _ _ ac_law13_LedgerSums_63.eq_1) (@mU _ _ ac_law13_LedgerSums_64.eq_1)) (And.intro (@mU _ _ ac_law13_LedgerSums_65.eq_1) (@mU _ _ ac_law13_LedgerSums_66.eq_1)))) (And.intro (And.intro (And.intro (@mU _ _ ac_law13_LedgerSums_67.eq_1) (@mU _ _ ac_law13_LedgerSums_68.eq_1)) (And.intro (@mU _ _ ac_law13_LedgerSums_69.eq_1) (@mU _ _ ac_law13_LedgerSums_70.eq_1))) (And.intro (And.intro (@mU _ _ ac_law13_LedgerSums_71.eq_1) (@mU _ _ ac_law13_LedgerSums_72.eq_1)) (@mR _ _ ac_law13_LedgerSums_73.eq_1)))) (And.intro (And.intro (And.intro (And.intro (@mU _ _ ac_law13_LedgerSums_74.eq_1) (@mU _ _ ac_law13_LedgerSums_75.eq_1)) (And.intro (@mU _ _ ac_law13_LedgerSums_76.eq_1) (@mU _ _ ac_law13_LedgerSums_77.eq_1))) (And.intro (And.intro (@mU _ _ ac_law13_LedgerSums_78.eq_1) (@mR _ _ ac_law13_LedgerSums_79.eq_1)) (And.intro (@mU _ _ ac_law13_LedgerSums_80.eq_1) (@mU _ _ ac_law13_LedgerSums_81.eq_1)))) (And.intro (And.intro (And.intro (@mU _ _ ac_law13_LedgerSums_82.eq_1) (@mU _ _ ac_law13_LedgerSums_83.eq_1)) (And.intro (@mU _ _ ac_law13_LedgerSums_84.eq_1) (@mU _ _ ac_law13_LedgerSums_85.eq_1))) (And.intro (And.intro @l_law13_LedgerSums_0.eq_1 @l_law13_LedgerSums_1.eq_1) @l_law13_LedgerSums_2.eq_1)))) (And.intro (And.intro (And.intro (And.intro (And.intro @l_law13_LedgerSums_3.eq_1 @l_law13_LedgerSums_7.eq_1) (And.intro @l_law13_LedgerSums_8.eq_1 @l_law13_LedgerSums_9.eq_1)) (And.intro (And.intro @l_law13_LedgerSums_12.eq_1 @l_law13_LedgerSums_13.eq_1) (And.intro @l_law13_LedgerSums_14.eq_1 @l_law13_LedgerSums_15.eq_1))) (And.intro (And.intro (And.intro @l_law13_LedgerSums_16.eq_1 @l_law13_LedgerSums_17.eq_1) (And.intro @l_law13_LedgerSums_18.eq_1 @l_law13_LedgerSums_19.eq_1)) (And.intro (And.intro @l_law13_LedgerSums_20.eq_1 @l_law13_LedgerSums_21.eq_1) @l_law13_LedgerSums_22.eq_1))) (And.intro (And.intro (And.intro (And.intro @l_law13_LedgerSums_28.eq_1 @l_law13_LedgerSums_29.eq_1) (And.intro @l_law13_LedgerSums_40.eq_1 @l_law13_LedgerSums_41.eq_1)) (And.intro (And.intro @l_law13_LedgerSums_42.eq_1 @l_law13_LedgerSums_43.eq_1) (And.intro @l_law13_LedgerSums_46.eq_1 @l_law13_LedgerSums_47.eq_1))) (And.intro (And.intro (And.intro @l_law13_LedgerSums_48.eq_1 @l_law13_LedgerSums_52.eq_1) (And.intro @l_law13_LedgerSums_56.eq_1 @l_law13_LedgerSums_62.eq_1)) (And.intro (And.intro @l_law13_LedgerSums_63.eq_1 @l_law13_LedgerSums_73.eq_1) @l_law13_LedgerSums_79.eq_1))))))

/- scoria/scorialaw13.LedgerBack -/
def l_law13_LedgerBack_0 : List AOp := [⟨(some 6), .mv (.k (.bool false)), none, none, [], none⟩]
def ac_law13_LedgerBack_0 : AC := .reg l_law13_LedgerBack_0
def l_law13_LedgerBack_1 : List AOp := [⟨(some 17), .mv (.t 0), none, none, [], none⟩,
  ⟨(some 18), .icall 9 [(.t 17)], none, none, [], none⟩,
  ⟨(some 7), .mv (.t 18), none, none, [], none⟩]
def ac_law13_LedgerBack_1 : AC := .reg l_law13_LedgerBack_1
def l_law13_LedgerBack_2 : List AOp := [⟨(some 19), .call false 10 [], none, none, [], none⟩,
  ⟨(some 20), .un .not (.t 19), none, none, [], none⟩,
  ⟨(some 21), .mv (.t 20), none, none, [], none⟩,
  ⟨(some 22), .mv (.t 7), (some (21, false)), none, [], none⟩,
  ⟨(some 23), .isn .p false (.t 22), (some (21, false)), none, [], none⟩,
  ⟨(some 24), .pick (.t 21) (.k (.bool true)) (.t 23), none, none, [], none⟩,
  ⟨(some 25), .mv (.t 24), none, none, [], none⟩,
  ⟨(some 26), .mv (.t 7), (some (25, false)), none, [], none⟩,
  ⟨(some 27), .icall 11 [(.t 26), (.k (.int .i64 3)), (.k (.int .i64 5))], (some (25, false)), none, [], none⟩,
  ⟨(some 28), .bin .neq (.t 27) (.k (.int .i64 0)), (some (25, false)), none, [], none⟩,
  ⟨(some 29), .pick (.t 25) (.k (.bool true)) (.t 28), none, none, [], none⟩,
  ⟨(some 30), .mv (.t 29), none, none, [], none⟩,
  ⟨(some 31), .mv (.t 7), (some (30, false)), none, [], none⟩,
  ⟨(some 32), .icall 11 [(.t 31), (.k (.int .i64 8)), (.k (.int .i64 5))], (some (30, false)), none, [], none⟩,
  ⟨(some 33), .bin .neq (.t 32) (.k (.int .i64 0)), (some (30, false)), none, [], none⟩,
  ⟨(some 34), .pick (.t 30) (.k (.bool true)) (.t 33), none, none, [], none⟩]
def ac_law13_LedgerBack_2 : AC := .reg l_law13_LedgerBack_2
def l_law13_LedgerBack_3 : List AOp := [⟨(some 6), .mv (.k (.bool false)), none, none, [], none⟩]
def ac_law13_LedgerBack_3 : AC := .reg l_law13_LedgerBack_3
def ac_law13_LedgerBack_4 : AC := .seq ac_law13_LedgerBack_3 .ret
def ac_law13_LedgerBack_5 : AC := .cond (.t 34) ac_law13_LedgerBack_4 .skip
def ac_law13_LedgerBack_6 : AC := .seq ac_law13_LedgerBack_2 ac_law13_LedgerBack_5
def l_law13_LedgerBack_7 : List AOp := [⟨(some 35), .mv (.t 7), none, none, [], none⟩,
  ⟨(some 36), .mv (.t 1), none, none, [], none⟩,
  ⟨(some 37), .icall 12 [(.t 35), (.k (.int .i64 3)), (.t 36)], none, none, [], none⟩,
  ⟨(some 8), .mv (.t 37), none, none, [], none⟩]
def ac_law13_LedgerBack_7 : AC := .reg l_law13_LedgerBack_7
def l_law13_LedgerBack_8 : List AOp := [⟨(some 38), .mv (.t 8), none, none, [], none⟩,
  ⟨(some 39), .bin .neq (.t 38) (.k (.int .i64 0)), none, none, [], none⟩]
def ac_law13_LedgerBack_8 : AC := .reg l_law13_LedgerBack_8
def l_law13_LedgerBack_9 : List AOp := [⟨(some 40), .mv (.t 7), none, none, [], none⟩,
  ⟨(some 41), .rcall 13 [(.t 40)], none, none, [], none⟩,
  ⟨(some 42), .bin .eql (.t 41) (.k (.int .i64 0)), none, none, [], none⟩,
  ⟨(some 43), .mv (.t 42), none, none, [], none⟩,
  ⟨(some 44), .mv (.t 1), (some (43, true)), none, [], none⟩,
  ⟨(some 45), .bin .lss (.t 44) (.k (.int .i64 0)), (some (43, true)), none, [], none⟩,
  ⟨(some 46), .mv (.t 45), (some (43, true)), none, [], none⟩,
  ⟨(some 47), .mv (.t 8), (some (46, true)), none, [], none⟩,
  ⟨(some 48), .bin .eql (.t 47) (.k (.int .i64 1)), (some (46, true)), none, [], none⟩,
  ⟨(some 49), .pick (.t 46) (.t 48) (.k (.bool false)), (some (43, true)), none, [], none⟩,
  ⟨(some 50), .mv (.t 49), (some (43, true)), none, [], none⟩,
  ⟨(some 51), .mv (.t 1), (some (50, false)), none, [], none⟩,
  ⟨(some 52), .mv (.t 0), (some (50, false)), none, [], none⟩,
  ⟨(some 53), .mm true [(.t 52), (.k (.int .i64 0))], (some (50, false)), none, [], none⟩,
  ⟨(some 54), .bin .gtr (.t 51) (.t 53), (some (50, false)), none, [], none⟩,
  ⟨(some 55), .mv (.t 54), (some (50, false)), none, [], none⟩,
  ⟨(some 56), .mv (.t 8), (some (55, true)), none, [], none⟩,
  ⟨(some 57), .bin .eql (.t 56) (.k (.int .i64 71)), (some (55, true)), none, [], none⟩,
  ⟨(some 58), .pick (.t 55) (.t 57) (.k (.bool false)), (some (50, false)), none, [], none⟩,
  ⟨(some 59), .pick (.t 50) (.k (.bool true)) (.t 58), (some (43, true)), none, [], none⟩,
  ⟨(some 60), .pick (.t 43) (.t 59) (.k (.bool false)), none, none, [], none⟩,
  ⟨(some 6), .mv (.t 60), none, none, [], none⟩]
def ac_law13_LedgerBack_9 : AC := .reg l_law13_LedgerBack_9
def ac_law13_LedgerBack_10 : AC := .seq ac_law13_LedgerBack_9 .ret
def ac_law13_LedgerBack_11 : AC := .cond (.t 39) ac_law13_LedgerBack_10 .skip
def ac_law13_LedgerBack_12 : AC := .seq ac_law13_LedgerBack_8 ac_law13_LedgerBack_11
def l_law13_LedgerBack_13 : List AOp := [⟨(some 61), .mv (.t 2), none, none, [], none⟩,
  ⟨(some 62), .bin .lss (.t 61) (.k (.int .i64 0)), none, none, [], none⟩,
  ⟨(some 63), .mv (.t 62), none, none, [], none⟩,
  ⟨(some 64), .mv (.t 2), (some (63, false)), none, [], none⟩,
  ⟨(some 65), .mv (.t 1), (some (63, false)), none, [], none⟩,
  ⟨(some 66), .bin .gtr (.t 64) (.t 65), (some (63, false)), none, [], none⟩,
  ⟨(some 67), .pick (.t 63) (.k (.bool true)) (.t 66), none, none, [], none⟩]
def ac_law13_LedgerBack_13 : AC := .reg l_law13_LedgerBack_13
def l_law13_LedgerBack_14 : List AOp := [⟨(some 68), .mv (.t 7), none, none, [], none⟩,
  ⟨(some 69), .mv (.t 2), none, none, [], none⟩,
  ⟨(some 70), .icall 18 [(.t 68), (.k (.int .i64 3)), (.t 69)], none, none, [], none⟩,
  ⟨(some 71), .bin .eql (.t 70) (.k (.int .i64 1)), none, none, [], none⟩,
  ⟨(some 72), .mv (.t 71), none, none, [], none⟩,
  ⟨(some 73), .mv (.t 7), (some (72, true)), none, [], none⟩,
  ⟨(some 74), .rcall 13 [(.t 73)], (some (72, true)), none, [], none⟩,
  ⟨(some 75), .mv (.t 1), (some (72, true)), none, [], none⟩,
  ⟨(some 76), .bin .eql (.t 74) (.t 75), (some (72, true)), none, [], none⟩,
  ⟨(some 77), .pick (.t 72) (.t 76) (.k (.bool false)), none, none, [], none⟩,
  ⟨(some 6), .mv (.t 77), none, none, [], none⟩]
def ac_law13_LedgerBack_14 : AC := .reg l_law13_LedgerBack_14
def ac_law13_LedgerBack_15 : AC := .seq ac_law13_LedgerBack_14 .ret
def ac_law13_LedgerBack_16 : AC := .cond (.t 67) ac_law13_LedgerBack_15 .skip
def ac_law13_LedgerBack_17 : AC := .seq ac_law13_LedgerBack_13 ac_law13_LedgerBack_16
def l_law13_LedgerBack_18 : List AOp := [⟨(some 78), .mv (.t 7), none, none, [], none⟩,
  ⟨(some 79), .mv (.t 2), none, none, [], none⟩,
  ⟨(some 80), .icall 18 [(.t 78), (.k (.int .i64 3)), (.t 79)], none, none, [], none⟩,
  ⟨(some 81), .bin .neq (.t 80) (.k (.int .i64 0)), none, none, [], none⟩,
  ⟨(some 82), .mv (.t 81), none, none, [], none⟩,
  ⟨(some 83), .mv (.t 7), (some (82, false)), none, [], none⟩,
  ⟨(some 84), .rcall 13 [(.t 83)], (some (82, false)), none, [], none⟩,
  ⟨(some 85), .mv (.t 1), (some (82, false)), none, [], none⟩,
  ⟨(some 86), .mv (.t 2), (some (82, false)), none, [], none⟩,
  ⟨(some 87), .bin .sub (.t 85) (.t 86), (some (82, false)), none, [], none⟩,
  ⟨(some 88), .bin .neq (.t 84) (.t 87), (some (82, false)), none, [], none⟩,
  ⟨(some 89), .pick (.t 82) (.k (.bool true)) (.t 88), none, none, [], none⟩,
  ⟨(some 90), .mv (.t 89), none, none, [], none⟩,
  ⟨(some 91), .mv (.t 7), (some (90, false)), none, [], none⟩,
  ⟨(some 92), .mv (.t 2), (some (90, false)), none, [], none⟩,
  ⟨(some 93), .icall 12 [(.t 91), (.k (.int .i64 8)), (.t 92)], (some (90, false)), none, [], none⟩,
  ⟨(some 94), .bin .neq (.t 93) (.k (.int .i64 0)), (some (90, false)), none, [], none⟩,
  ⟨(some 95), .pick (.t 90) (.k (.bool true)) (.t 94), none, none, [], none⟩,
  ⟨(some 96), .mv (.t 95), none, none, [], none⟩,
  ⟨(some 97), .mv (.t 7), (some (96, false)), none, [], none⟩,
  ⟨(some 98), .rcall 13 [(.t 97)], (some (96, false)), none, [], none⟩,
  ⟨(some 99), .mv (.t 1), (some (96, false)), none, [], none⟩,
  ⟨(some 100), .bin .neq (.t 98) (.t 99), (some (96, false)), none, [], none⟩,
  ⟨(some 101), .pick (.t 96) (.k (.bool true)) (.t 100), none, none, [], none⟩]
def ac_law13_LedgerBack_18 : AC := .reg l_law13_LedgerBack_18
def l_law13_LedgerBack_19 : List AOp := [⟨(some 6), .mv (.k (.bool false)), none, none, [], none⟩]
def ac_law13_LedgerBack_19 : AC := .reg l_law13_LedgerBack_19
def ac_law13_LedgerBack_20 : AC := .seq ac_law13_LedgerBack_19 .ret
def ac_law13_LedgerBack_21 : AC := .cond (.t 101) ac_law13_LedgerBack_20 .skip
def ac_law13_LedgerBack_22 : AC := .seq ac_law13_LedgerBack_18 ac_law13_LedgerBack_21
def l_law13_LedgerBack_23 : List AOp := [⟨(some 103), .mv (.t 7), none, none, [], none⟩,
  ⟨(some 104), .rcall 17 [(.t 103), (.k (.int .i64 3))], none, none, [], none⟩,
  ⟨(some 102), .mv (.t 104), none, none, [], none⟩,
  ⟨(some 105), .ext 0 (.t 102), none, none, [], none⟩,
  ⟨(some 106), .ext 1 (.t 102), none, none, [], none⟩,
  ⟨(some 107), .ext 2 (.t 102), none, none, [], none⟩,
  ⟨(some 9), .mv (.t 105), none, none, [], none⟩,
  ⟨(some 10), .mv (.t 106), none, none, [], none⟩,
  ⟨(some 11), .mv (.t 107), none, none, [], none⟩]
def ac_law13_LedgerBack_23 : AC := .reg l_law13_LedgerBack_23
def l_law13_LedgerBack_24 : List AOp := [⟨(some 109), .mv (.t 7), none, none, [], none⟩,
  ⟨(some 110), .rcall 17 [(.t 109), (.k (.int .i64 8))], none, none, [], none⟩,
  ⟨(some 108), .mv (.t 110), none, none, [], none⟩,
  ⟨(some 111), .ext 0 (.t 108), none, none, [], none⟩,
  ⟨(some 112), .ext 1 (.t 108), none, none, [], none⟩,
  ⟨(some 113), .ext 2 (.t 108), none, none, [], none⟩,
  ⟨(some 12), .mv (.t 111), none, none, [], none⟩,
  ⟨(some 13), .mv (.t 112), none, none, [], none⟩,
  ⟨(some 14), .mv (.t 113), none, none, [], none⟩]
def ac_law13_LedgerBack_24 : AC := .reg l_law13_LedgerBack_24
def l_law13_LedgerBack_25 : List AOp := [⟨(some 115), .mv (.t 7), none, none, [], none⟩,
  ⟨(some 116), .icall 15 [(.t 115), (.k (.int .i64 8))], none, none, [], none⟩,
  ⟨(some 114), .mv (.t 116), none, none, [], none⟩,
  ⟨(some 117), .ext 0 (.t 114), none, none, [], none⟩,
  ⟨(some 118), .ext 1 (.t 114), none, none, [], none⟩,
  ⟨(some 15), .mv (.t 117), none, none, [], none⟩,
  ⟨(some 16), .mv (.t 118), none, none, [], none⟩]
def ac_law13_LedgerBack_25 : AC := .reg l_law13_LedgerBack_25
def l_law13_LedgerBack_26 : List AOp := [⟨(some 119), .mv (.t 10), none, none, [], none⟩,
  ⟨(some 120), .mv (.t 1), none, none, [], none⟩,
  ⟨(some 121), .mv (.t 2), none, none, [], none⟩,
  ⟨(some 122), .bin .sub (.t 120) (.t 121), none, none, [], none⟩,
  ⟨(some 123), .bin .eql (.t 119) (.t 122), none, none, [], none⟩,
  ⟨(some 124), .mv (.t 123), none, none, [], none⟩,
  ⟨(some 125), .mv (.t 13), (some (124, true)), none, [], none⟩,
  ⟨(some 126), .mv (.t 2), (some (124, true)), none, [], none⟩,
  ⟨(some 127), .bin .eql (.t 125) (.t 126), (some (124, true)), none, [], none⟩,
  ⟨(some 128), .pick (.t 124) (.t 127) (.k (.bool false)), none, none, [], none⟩,
  ⟨(some 129), .mv (.t 128), none, none, [], none⟩,
  ⟨(some 130), .mv (.t 16), (some (129, true)), none, [], none⟩,
  ⟨(some 131), .bin .eql (.t 130) (.k (.int .i64 0)), (some (129, true)), none, [], none⟩,
  ⟨(some 132), .pick (.t 129) (.t 131) (.k (.bool false)), none, none, [], none⟩,
  ⟨(some 133), .mv (.t 132), none, none, [], none⟩,
  ⟨(some 134), .mv (.t 15), (some (133, true)), none, [], none⟩,
  ⟨(some 135), .mv (.t 2), (some (133, true)), none, [], none⟩,
  ⟨(some 136), .bin .eql (.t 134) (.t 135), (some (133, true)), none, [], none⟩,
  ⟨(some 137), .pick (.t 133) (.t 136) (.k (.bool false)), none, none, [], none⟩,
  ⟨(some 138), .mv (.t 137), none, none, [], none⟩,
  ⟨(some 139), .mv (.t 7), (some (138, true)), none, [], none⟩,
  ⟨(some 140), .rcall 13 [(.t 139)], (some (138, true)), none, [], none⟩,
  ⟨(some 141), .mv (.t 1), (some (138, true)), none, [], none⟩,
  ⟨(some 142), .mv (.t 2), (some (138, true)), none, [], none⟩,
  ⟨(some 143), .bin .sub (.t 141) (.t 142), (some (138, true)), none, [], none⟩,
  ⟨(some 144), .bin .eql (.t 140) (.t 143), (some (138, true)), none, [], none⟩,
  ⟨(some 145), .pick (.t 138) (.t 144) (.k (.bool false)), none, none, [], none⟩,
  ⟨(some 6), .mv (.t 145), none, none, [], none⟩]
def ac_law13_LedgerBack_26 : AC := .reg l_law13_LedgerBack_26
def ac_law13_LedgerBack_27 : AC := .seq ac_law13_LedgerBack_26 .ret
def ac_law13_LedgerBack_28 : AC := .seq ac_law13_LedgerBack_25 ac_law13_LedgerBack_27
def ac_law13_LedgerBack_29 : AC := .seq ac_law13_LedgerBack_24 ac_law13_LedgerBack_28
def ac_law13_LedgerBack_30 : AC := .seq ac_law13_LedgerBack_23 ac_law13_LedgerBack_29
def ac_law13_LedgerBack_31 : AC := .seq ac_law13_LedgerBack_22 ac_law13_LedgerBack_30
def ac_law13_LedgerBack_32 : AC := .seq ac_law13_LedgerBack_17 ac_law13_LedgerBack_31
def ac_law13_LedgerBack_33 : AC := .seq ac_law13_LedgerBack_12 ac_law13_LedgerBack_32
def ac_law13_LedgerBack_34 : AC := .seq ac_law13_LedgerBack_7 ac_law13_LedgerBack_33
def ac_law13_LedgerBack_35 : AC := .seq ac_law13_LedgerBack_6 ac_law13_LedgerBack_34
def ac_law13_LedgerBack_36 : AC := .seq ac_law13_LedgerBack_1 ac_law13_LedgerBack_35
def ac_law13_LedgerBack_37 : AC := .seq ac_law13_LedgerBack_0 ac_law13_LedgerBack_36
def ac_law13_LedgerBack : AC := ac_law13_LedgerBack_37
theorem comp_law13_LedgerBack : compF Try.prog [1000009, 1000011, 1000012, 4000013, 1000018, 4000017, 1000015] (drawR Try.prog [1000009, 1000011, 1000012, 4000013, 1000018, 4000017, 1000015] Try.f6.ntmps) [] 3 Try.f6 = some (ac_law13_LedgerBack, [.t 6]) := by kernel_rfl
def U_law13_LedgerBack := (And.intro (And.intro (And.intro (And.intro (And.intro (And.intro @ac_law13_LedgerBack.eq_1 (@mR _ _ ac_law13_LedgerBack_0.eq_1)) (And.intro (@mR _ _ ac_law13_LedgerBack_1.eq_1) (@mR _ _ ac_law13_LedgerBack_2.eq_1))) (And.intro (And.intro (@mR _ _ ac_law13_LedgerBack_3.eq_1) (@mU _ _ ac_law13_LedgerBack_4.eq_1)) (@mU _ _ ac_law13_LedgerBack_5.eq_1))) (And.intro (And.intro (And.intro (@mU _ _ ac_law13_LedgerBack_6.eq_1) (@mR _ _ ac_law13_LedgerBack_7.eq_1)) (And.intro (@mR _ _ ac_law13_LedgerBack_8.eq_1) (@mR _ _ ac_law13_LedgerBack_9.eq_1))) (And.intro (And.intro (@mU _ _ ac_law13_LedgerBack_10.eq_1) (@mU _ _ ac_law13_LedgerBack_11.eq_1)) (@mU _ _ ac_law13_LedgerBack_12.eq_1)))) (And.intro (And.intro (And.intro (And.intro (@mR _ _ ac_law13_LedgerBack_13.eq_1) (@mR _ _ ac_law13_LedgerBack_14.eq_1)) (And.intro (@mU _ _ ac_law13_LedgerBack_15.eq_1) (@mU _ _ ac_law13_LedgerBack_16.eq_1))) (And.intro (And.intro (@mU _ _ ac_law13_LedgerBack_17.eq_1) (@mR _ _ ac_law13_LedgerBack_18.eq_1)) (@mR _ _ ac_law13_LedgerBack_19.eq_1))) (And.intro (And.intro (And.intro (@mU _ _ ac_law13_LedgerBack_20.eq_1) (@mU _ _ ac_law13_LedgerBack_21.eq_1)) (@mU _ _ ac_law13_LedgerBack_22.eq_1)) (And.intro (And.intro (@mR _ _ ac_law13_LedgerBack_23.eq_1) (@mR _ _ ac_law13_LedgerBack_24.eq_1)) (@mR _ _ ac_law13_LedgerBack_25.eq_1))))) (And.intro (And.intro (And.intro (And.intro (And.intro (@mR _ _ ac_law13_LedgerBack_26.eq_1) (@mU _ _ ac_law13_LedgerBack_27.eq_1)) (And.intro (@mU _ _ ac_law13_LedgerBack_28.eq_1) (@mU _ _ ac_law13_LedgerBack_29.eq_1))) (And.intro (And.intro (@mU _ _ ac_law13_LedgerBack_30.eq_1) (@mU _ _ ac_law13_LedgerBack_31.eq_1)) (@mU _ _ ac_law13_LedgerBack_32.eq_1))) (And.intro (And.intro (And.intro (@mU _ _ ac_law13_LedgerBack_33.eq_1) (@mU _ _ ac_law13_LedgerBack_34.eq_1)) (And.intro (@mU _ _ ac_law13_LedgerBack_35.eq_1) (@mU _ _ ac_law13_LedgerBack_36.eq_1))) (And.intro (And.intro (@mU _ _ ac_law13_LedgerBack_37.eq_1) @l_law13_LedgerBack_0.eq_1) @l_law13_LedgerBack_1.eq_1))) (And.intro (And.intro (And.intro (And.intro @l_law13_LedgerBack_2.eq_1 @l_law13_LedgerBack_3.eq_1) (And.intro @l_law13_LedgerBack_7.eq_1 @l_law13_LedgerBack_8.eq_1)) (And.intro (And.intro @l_law13_LedgerBack_9.eq_1 @l_law13_LedgerBack_13.eq_1) @l_law13_LedgerBack_14.eq_1)) (And.intro (And.intro (And.intro @l_law13_LedgerBack_18.eq_1 @l_law13_LedgerBack_19.eq_1) @l_law13_LedgerBack_23.eq_1) (And.intro (And.intro @l_law13_LedgerBack_24.eq_1 @l_law13_LedgerBack_25.eq_1) @l_law13_LedgerBack_26.eq_1)))))

/- scoria/scorialaw13.LedgerPlays -/
def l_law13_LedgerPlays_0 : List AOp := [⟨(some 4), .mv (.k (.bool false)), none, none, [], none⟩]
def ac_law13_LedgerPlays_0 : AC := .reg l_law13_LedgerPlays_0
def l_law13_LedgerPlays_1 : List AOp := [⟨(some 13), .mv (.t 0), none, none, [], none⟩,
  ⟨(some 14), .icall 9 [(.t 13)], none, none, [], none⟩,
  ⟨(some 5), .mv (.t 14), none, none, [], none⟩]
def ac_law13_LedgerPlays_1 : AC := .reg l_law13_LedgerPlays_1
def l_law13_LedgerPlays_2 : List AOp := [⟨(some 15), .mv (.t 0), none, none, [], none⟩,
  ⟨(some 16), .call false 19 [(.t 15)], none, none, [], none⟩,
  ⟨(some 6), .alloc [(.int .i64 0), (.slc [])], none, none, [], none⟩,
  ⟨none, .store 2 (.t 6) (.t 16), none, none, [], none⟩]
def ac_law13_LedgerPlays_2 : AC := .reg l_law13_LedgerPlays_2
def l_law13_LedgerPlays_3 : List AOp := [⟨(some 17), .call false 10 [], none, none, [], none⟩,
  ⟨(some 18), .un .not (.t 17), none, none, [], none⟩,
  ⟨(some 19), .mv (.t 18), none, none, [], none⟩,
  ⟨(some 20), .mv (.t 5), (some (19, false)), none, [], none⟩,
  ⟨(some 21), .isn .p false (.t 20), (some (19, false)), none, [], none⟩,
  ⟨(some 22), .pick (.t 19) (.k (.bool true)) (.t 21), none, none, [], none⟩]
def ac_law13_LedgerPlays_3 : AC := .reg l_law13_LedgerPlays_3
def l_law13_LedgerPlays_4 : List AOp := [⟨(some 4), .mv (.k (.bool false)), none, none, [], none⟩]
def ac_law13_LedgerPlays_4 : AC := .reg l_law13_LedgerPlays_4
def ac_law13_LedgerPlays_5 : AC := .seq ac_law13_LedgerPlays_4 .ret
def ac_law13_LedgerPlays_6 : AC := .cond (.t 22) ac_law13_LedgerPlays_5 .skip
def ac_law13_LedgerPlays_7 : AC := .seq ac_law13_LedgerPlays_3 ac_law13_LedgerPlays_6
def l_law13_LedgerPlays_8 : List AOp := [⟨(some 7), .mv (.k (.int .i64 0)), none, none, [], none⟩]
def ac_law13_LedgerPlays_8 : AC := .reg l_law13_LedgerPlays_8
def l_law13_LedgerPlays_9 : List AOp := [⟨(some 23), .mv (.t 7), none, none, [], none⟩,
  ⟨(some 24), .mv (.t 1), none, none, [], none⟩,
  ⟨(some 25), .len (.t 24), none, none, [], none⟩,
  ⟨(some 26), .bin .lss (.t 23) (.t 25), none, none, [], none⟩,
  ⟨(some 27), .mv (.t 26), none, none, [], none⟩,
  ⟨(some 28), .mv (.t 7), (some (27, true)), none, [], none⟩,
  ⟨(some 29), .bin .lss (.t 28) (.k (.int .i64 200)), (some (27, true)), none, [], none⟩,
  ⟨(some 30), .pick (.t 27) (.t 29) (.k (.bool false)), none, none, [], none⟩]
def ac_law13_LedgerPlays_9 : AC := .reg l_law13_LedgerPlays_9
def ac_law13_LedgerPlays_10 : AC := .cond (.t 30) .skip (.exit 0)
def ac_law13_LedgerPlays_11 : AC := .seq ac_law13_LedgerPlays_9 ac_law13_LedgerPlays_10
def l_law13_LedgerPlays_12 : List AOp := [⟨(some 34), .mv (.t 5), none, none, [], none⟩,
  ⟨(some 35), .load (some 2) (.t 6), none, none, [0], none⟩,
  ⟨(some 36), .mv (.t 1), none, none, [], none⟩,
  ⟨(some 37), .mv (.t 7), none, none, [], none⟩,
  ⟨(some 38), .isl 3 (.t 36) (.t 37), none, none, [0], none⟩,
  ⟨(some 39), .load (some 3) (.t 38), none, none, [0], none⟩]
def l_law13_LedgerPlays_12a : List AOp := [⟨(some 40), .icall 20 [(.t 34), (.t 35), (.t 39)], none, none, [0], none⟩,
  ⟨(some 33), .mv (.t 40), none, none, [], none⟩,
  ⟨(some 41), .ext 0 (.t 33), none, none, [], none⟩,
  ⟨(some 42), .ext 1 (.t 33), none, none, [], none⟩,
  ⟨(some 8), .alloc [(.int .i64 0), (.slc [])], none, (some 0), [], none⟩,
  ⟨none, .store 2 (.t 8) (.t 41), none, none, [], none⟩,
  ⟨(some 9), .mv (.t 42), none, none, [], none⟩]
def l_law13_LedgerPlays_12b : List AOp := [⟨(some 8), .alloc [(.int .i64 0), (.slc [])], none, (some 0), [], none⟩,
  ⟨(some 40), .icall 20 [(.t 34), (.t 35), (.t 39)], none, none, [0], none⟩,
  ⟨(some 33), .mv (.t 40), none, none, [], none⟩,
  ⟨(some 41), .ext 0 (.t 33), none, none, [], none⟩,
  ⟨(some 42), .ext 1 (.t 33), none, none, [], none⟩,
  ⟨none, .store 2 (.t 8) (.t 41), none, none, [], none⟩,
  ⟨(some 9), .mv (.t 42), none, none, [], none⟩]
def ac_law13_LedgerPlays_12 : AC := .dreg2 1 l_law13_LedgerPlays_12 l_law13_LedgerPlays_12a l_law13_LedgerPlays_12b
def l_law13_LedgerPlays_13 : List AOp := [⟨(some 43), .load (some 2) (.t 8), none, none, [], none⟩,
  ⟨none, .store 2 (.t 6) (.t 43), none, none, [], none⟩]
def ac_law13_LedgerPlays_13 : AC := .reg l_law13_LedgerPlays_13
def l_law13_LedgerPlays_14 : List AOp := [⟨(some 44), .mv (.t 9), none, none, [], none⟩,
  ⟨(some 45), .un .not (.t 44), none, none, [], none⟩,
  ⟨(some 46), .mv (.t 45), none, none, [], none⟩,
  ⟨(some 47), .mv (.t 5), (some (46, false)), none, [], none⟩,
  ⟨(some 48), .load (some 2) (.t 6), (some (46, false)), none, [], none⟩,
  ⟨(some 49), .rcall 21 [(.t 47), (.t 48)], (some (46, false)), none, [], none⟩,
  ⟨(some 50), .un .not (.t 49), (some (46, false)), none, [], none⟩,
  ⟨(some 51), .pick (.t 46) (.k (.bool true)) (.t 50), none, none, [], none⟩]
def ac_law13_LedgerPlays_14 : AC := .reg l_law13_LedgerPlays_14
def l_law13_LedgerPlays_15 : List AOp := [⟨(some 4), .mv (.k (.bool false)), none, none, [], none⟩]
def ac_law13_LedgerPlays_15 : AC := .reg l_law13_LedgerPlays_15
def ac_law13_LedgerPlays_16 : AC := .seq ac_law13_LedgerPlays_15 .ret
def ac_law13_LedgerPlays_17 : AC := .cond (.t 51) ac_law13_LedgerPlays_16 .skip
def ac_law13_LedgerPlays_18 : AC := .seq ac_law13_LedgerPlays_14 ac_law13_LedgerPlays_17
def ac_law13_LedgerPlays_19 : AC := .seq ac_law13_LedgerPlays_13 ac_law13_LedgerPlays_18
def ac_law13_LedgerPlays_20 : AC := .seq ac_law13_LedgerPlays_12 ac_law13_LedgerPlays_19
def ac_law13_LedgerPlays_21 : AC := .block 1 ac_law13_LedgerPlays_20
def l_law13_LedgerPlays_22 : List AOp := [⟨(some 31), .mv (.t 7), none, none, [], none⟩,
  ⟨(some 32), .bin .add (.t 31) (.k (.int .i64 1)), none, none, [], none⟩,
  ⟨(some 7), .mv (.t 32), none, none, [], none⟩]
def ac_law13_LedgerPlays_22 : AC := .reg l_law13_LedgerPlays_22
def ac_law13_LedgerPlays_23 : AC := .seq ac_law13_LedgerPlays_21 ac_law13_LedgerPlays_22
def ac_law13_LedgerPlays_24 : AC := .seq ac_law13_LedgerPlays_11 ac_law13_LedgerPlays_23
def ac_law13_LedgerPlays_25 : AC := .loop [1, 5, 6, 7] 1000000000 ac_law13_LedgerPlays_24
def ac_law13_LedgerPlays_26 : AC := .block 0 ac_law13_LedgerPlays_25
def ac_law13_LedgerPlays_27 : AC := .seq ac_law13_LedgerPlays_8 ac_law13_LedgerPlays_26
def l_law13_LedgerPlays_28 : List AOp := [⟨(some 53), .mv (.t 5), none, none, [], none⟩,
  ⟨(some 54), .rcall 17 [(.t 53), (.k (.int .i64 0))], none, none, [], none⟩,
  ⟨(some 52), .mv (.t 54), none, none, [], none⟩,
  ⟨(some 55), .ext 0 (.t 52), none, none, [], none⟩,
  ⟨(some 56), .ext 1 (.t 52), none, none, [], none⟩,
  ⟨(some 57), .ext 2 (.t 52), none, none, [], none⟩,
  ⟨(some 10), .mv (.t 55), none, none, [], none⟩,
  ⟨(some 11), .mv (.t 56), none, none, [], none⟩,
  ⟨(some 12), .mv (.t 57), none, none, [], none⟩]
def ac_law13_LedgerPlays_28 : AC := .reg l_law13_LedgerPlays_28
def l_law13_LedgerPlays_29 : List AOp := [⟨(some 58), .mv (.t 12), none, none, [], none⟩,
  ⟨(some 59), .bin .eql (.t 58) (.k (.int .i64 4)), none, none, [], none⟩,
  ⟨(some 4), .mv (.t 59), none, none, [], none⟩]
def ac_law13_LedgerPlays_29 : AC := .reg l_law13_LedgerPlays_29
def ac_law13_LedgerPlays_30 : AC := .seq ac_law13_LedgerPlays_29 .ret
def ac_law13_LedgerPlays_31 : AC := .seq ac_law13_LedgerPlays_28 ac_law13_LedgerPlays_30
def ac_law13_LedgerPlays_32 : AC := .seq ac_law13_LedgerPlays_27 ac_law13_LedgerPlays_31
def ac_law13_LedgerPlays_33 : AC := .seq ac_law13_LedgerPlays_7 ac_law13_LedgerPlays_32
def ac_law13_LedgerPlays_34 : AC := .seq ac_law13_LedgerPlays_2 ac_law13_LedgerPlays_33
def ac_law13_LedgerPlays_35 : AC := .seq ac_law13_LedgerPlays_1 ac_law13_LedgerPlays_34
def ac_law13_LedgerPlays_36 : AC := .seq ac_law13_LedgerPlays_0 ac_law13_LedgerPlays_35
def ac_law13_LedgerPlays : AC := ac_law13_LedgerPlays_36
theorem comp_law13_LedgerPlays : compF Try.prog [1000009, 1000020, 4000021, 4000017] (drawR Try.prog [1000009, 1000020, 4000021, 4000017] Try.f7.ntmps) [([1, 5, 6, 7], 1000000000)] 2 Try.f7 = some (ac_law13_LedgerPlays, [.t 4]) := by kernel_rfl
def U_law13_LedgerPlays := (And.intro (And.intro (And.intro (And.intro (And.intro (And.intro @ac_law13_LedgerPlays.eq_1 (@mR _ _ ac_law13_LedgerPlays_0.eq_1)) (And.intro (@mR _ _ ac_law13_LedgerPlays_1.eq_1) (@mR _ _ ac_law13_LedgerPlays_2.eq_1))) (And.intro (And.intro (@mR _ _ ac_law13_LedgerPlays_3.eq_1) (@mR _ _ ac_law13_LedgerPlays_4.eq_1)) (@mU _ _ ac_law13_LedgerPlays_5.eq_1))) (And.intro (And.intro (And.intro (@mU _ _ ac_law13_LedgerPlays_6.eq_1) (@mU _ _ ac_law13_LedgerPlays_7.eq_1)) (And.intro (@mR _ _ ac_law13_LedgerPlays_8.eq_1) (@mR _ _ ac_law13_LedgerPlays_9.eq_1))) (And.intro (And.intro (@mU _ _ ac_law13_LedgerPlays_10.eq_1) (@mU _ _ ac_law13_LedgerPlays_11.eq_1)) (@mD2 _ _ _ _ _ ac_law13_LedgerPlays_12.eq_1)))) (And.intro (And.intro (And.intro (And.intro (@mR _ _ ac_law13_LedgerPlays_13.eq_1) (@mR _ _ ac_law13_LedgerPlays_14.eq_1)) (And.intro (@mR _ _ ac_law13_LedgerPlays_15.eq_1) (@mU _ _ ac_law13_LedgerPlays_16.eq_1))) (And.intro (And.intro (@mU _ _ ac_law13_LedgerPlays_17.eq_1) (@mU _ _ ac_law13_LedgerPlays_18.eq_1)) (@mU _ _ ac_law13_LedgerPlays_19.eq_1))) (And.intro (And.intro (And.intro (@mU _ _ ac_law13_LedgerPlays_20.eq_1) (@mU _ _ ac_law13_LedgerPlays_21.eq_1)) (@mR _ _ ac_law13_LedgerPlays_22.eq_1)) (And.intro (And.intro (@mU _ _ ac_law13_LedgerPlays_23.eq_1) (@mU _ _ ac_law13_LedgerPlays_24.eq_1)) (@mU _ _ ac_law13_LedgerPlays_25.eq_1))))) (And.intro (And.intro (And.intro (And.intro (And.intro (@mU _ _ ac_law13_LedgerPlays_26.eq_1) (@mU _ _ ac_law13_LedgerPlays_27.eq_1)) (And.intro (@mR _ _ ac_law13_LedgerPlays_28.eq_1) (@mR _ _ ac_law13_LedgerPlays_29.eq_1))) (And.intro (And.intro (@mU _ _ ac_law13_LedgerPlays_30.eq_1) (@mU _ _ ac_law13_LedgerPlays_31.eq_1)) (@mU _ _ ac_law13_LedgerPlays_32.eq_1))) (And.intro (And.intro (And.intro (@mU _ _ ac_law13_LedgerPlays_33.eq_1) (@mU _ _ ac_law13_LedgerPlays_34.eq_1)) (And.intro (@mU _ _ ac_law13_LedgerPlays_35.eq_1) (@mU _ _ ac_law13_LedgerPlays_36.eq_1))) (And.intro (And.intro @l_law13_LedgerPlays_0.eq_1 @l_law13_LedgerPlays_1.eq_1) @l_law13_LedgerPlays_2.eq_1))) (And.intro (And.intro (And.intro (And.intro @l_law13_LedgerPlays_3.eq_1 @l_law13_LedgerPlays_4.eq_1) (And.intro @l_law13_LedgerPlays_8.eq_1 @l_law13_LedgerPlays_9.eq_1)) (And.intro (And.intro @l_law13_LedgerPlays_12.eq_1 @l_law13_LedgerPlays_13.eq_1) @l_law13_LedgerPlays_14.eq_1)) (And.intro (And.intro (And.intro @l_law13_LedgerPlays_15.eq_1 @l_law13_LedgerPlays_22.eq_1) @l_law13_LedgerPlays_28.eq_1) (And.intro (And.intro @l_law13_LedgerPlays_29.eq_1 @l_law13_LedgerPlays_12a.eq_1) @l_law13_LedgerPlays_12b.eq_1)))))

/- scoria/scorialaw13.LedgerNil -/
def l_law13_LedgerNil_0 : List AOp := [⟨(some 4), .mv (.k (.bool false)), none, none, [], none⟩]
def ac_law13_LedgerNil_0 : AC := .reg l_law13_LedgerNil_0
def l_law13_LedgerNil_1 : List AOp := [⟨(some 5), .mv (.k .nilp), none, none, [], none⟩]
def ac_law13_LedgerNil_1 : AC := .reg l_law13_LedgerNil_1
def l_law13_LedgerNil_2 : List AOp := [⟨(some 12), .mv (.t 5), none, none, [], none⟩,
  ⟨(some 13), .mv (.t 0), none, none, [], none⟩,
  ⟨(some 14), .icall 15 [(.t 12), (.t 13)], none, none, [], none⟩,
  ⟨(some 11), .mv (.t 14), none, none, [], none⟩,
  ⟨(some 15), .ext 0 (.t 11), none, none, [], none⟩,
  ⟨(some 16), .ext 1 (.t 11), none, none, [], none⟩,
  ⟨(some 6), .mv (.t 15), none, none, [], none⟩,
  ⟨(some 7), .mv (.t 16), none, none, [], none⟩]
def ac_law13_LedgerNil_2 : AC := .reg l_law13_LedgerNil_2
def l_law13_LedgerNil_3 : List AOp := [⟨(some 18), .mv (.t 5), none, none, [], none⟩,
  ⟨(some 19), .mv (.t 0), none, none, [], none⟩,
  ⟨(some 20), .rcall 17 [(.t 18), (.t 19)], none, none, [], none⟩,
  ⟨(some 17), .mv (.t 20), none, none, [], none⟩,
  ⟨(some 21), .ext 0 (.t 17), none, none, [], none⟩,
  ⟨(some 22), .ext 1 (.t 17), none, none, [], none⟩,
  ⟨(some 23), .ext 2 (.t 17), none, none, [], none⟩,
  ⟨(some 8), .mv (.t 21), none, none, [], none⟩,
  ⟨(some 9), .mv (.t 22), none, none, [], none⟩,
  ⟨(some 10), .mv (.t 23), none, none, [], none⟩]
def ac_law13_LedgerNil_3 : AC := .reg l_law13_LedgerNil_3
def l_law13_LedgerNil_4 : List AOp := [⟨(some 24), .call false 10 [], none, none, [], none⟩,
  ⟨(some 25), .mv (.t 24), none, none, [], none⟩,
  ⟨(some 26), .mv (.t 5), (some (25, true)), none, [], none⟩,
  ⟨(some 27), .mv (.t 0), (some (25, true)), none, [], none⟩,
  ⟨(some 28), .mv (.t 1), (some (25, true)), none, [], none⟩,
  ⟨(some 29), .icall 11 [(.t 26), (.t 27), (.t 28)], (some (25, true)), none, [], none⟩,
  ⟨(some 30), .bin .eql (.t 29) (.k (.int .i64 1)), (some (25, true)), none, [], none⟩,
  ⟨(some 31), .pick (.t 25) (.t 30) (.k (.bool false)), none, none, [], none⟩,
  ⟨(some 32), .mv (.t 31), none, none, [], none⟩,
  ⟨(some 33), .mv (.t 6), (some (32, true)), none, [], none⟩,
  ⟨(some 34), .bin .eql (.t 33) (.k (.int .i64 0)), (some (32, true)), none, [], none⟩,
  ⟨(some 35), .pick (.t 32) (.t 34) (.k (.bool false)), none, none, [], none⟩,
  ⟨(some 36), .mv (.t 35), none, none, [], none⟩,
  ⟨(some 37), .mv (.t 7), (some (36, true)), none, [], none⟩,
  ⟨(some 38), .bin .eql (.t 37) (.k (.int .i64 1)), (some (36, true)), none, [], none⟩,
  ⟨(some 39), .pick (.t 36) (.t 38) (.k (.bool false)), none, none, [], none⟩,
  ⟨(some 40), .mv (.t 39), none, none, [], none⟩,
  ⟨(some 41), .mv (.t 5), (some (40, true)), none, [], none⟩,
  ⟨(some 42), .mv (.t 0), (some (40, true)), none, [], none⟩,
  ⟨(some 43), .mv (.t 1), (some (40, true)), none, [], none⟩,
  ⟨(some 44), .icall 22 [(.t 41), (.t 42), (.t 43)], (some (40, true)), none, [], none⟩,
  ⟨(some 45), .bin .eql (.t 44) (.k (.int .i64 1)), (some (40, true)), none, [], none⟩,
  ⟨(some 46), .pick (.t 40) (.t 45) (.k (.bool false)), none, none, [], none⟩,
  ⟨(some 47), .mv (.t 46), none, none, [], none⟩,
  ⟨(some 48), .mv (.t 5), (some (47, true)), none, [], none⟩,
  ⟨(some 49), .mv (.t 0), (some (47, true)), none, [], none⟩,
  ⟨(some 50), .mv (.t 1), (some (47, true)), none, [], none⟩,
  ⟨(some 51), .icall 12 [(.t 48), (.t 49), (.t 50)], (some (47, true)), none, [], none⟩,
  ⟨(some 52), .bin .eql (.t 51) (.k (.int .i64 1)), (some (47, true)), none, [], none⟩,
  ⟨(some 53), .pick (.t 47) (.t 52) (.k (.bool false)), none, none, [], none⟩,
  ⟨(some 54), .mv (.t 53), none, none, [], none⟩,
  ⟨(some 55), .mv (.t 5), (some (54, true)), none, [], none⟩,
  ⟨(some 56), .mv (.t 0), (some (54, true)), none, [], none⟩,
  ⟨(some 57), .mv (.t 1), (some (54, true)), none, [], none⟩,
  ⟨(some 58), .icall 18 [(.t 55), (.t 56), (.t 57)], (some (54, true)), none, [], none⟩,
  ⟨(some 59), .bin .eql (.t 58) (.k (.int .i64 1)), (some (54, true)), none, [], none⟩,
  ⟨(some 60), .pick (.t 54) (.t 59) (.k (.bool false)), none, none, [], none⟩,
  ⟨(some 61), .mv (.t 60), none, none, [], none⟩,
  ⟨(some 62), .mv (.t 8), (some (61, true)), none, [], none⟩,
  ⟨(some 63), .mv (.t 9), (some (61, true)), none, [], none⟩,
  ⟨(some 64), .bin .add (.t 62) (.t 63), (some (61, true)), none, [], none⟩,
  ⟨(some 65), .bin .eql (.t 64) (.k (.int .i64 0)), (some (61, true)), none, [], none⟩,
  ⟨(some 66), .pick (.t 61) (.t 65) (.k (.bool false)), none, none, [], none⟩,
  ⟨(some 67), .mv (.t 66), none, none, [], none⟩,
  ⟨(some 68), .mv (.t 10), (some (67, true)), none, [], none⟩,
  ⟨(some 69), .bin .eql (.t 68) (.k (.int .i64 1)), (some (67, true)), none, [], none⟩,
  ⟨(some 70), .pick (.t 67) (.t 69) (.k (.bool false)), none, none, [], none⟩,
  ⟨(some 71), .mv (.t 70), none, none, [], none⟩,
  ⟨(some 72), .mv (.t 5), (some (71, true)), none, [], none⟩,
  ⟨(some 73), .icall 16 [(.t 72)], (some (71, true)), none, [], none⟩,
  ⟨(some 74), .len (.t 73), (some (71, true)), none, [], none⟩,
  ⟨(some 75), .bin .eql (.t 74) (.k (.int .i64 0)), (some (71, true)), none, [], none⟩,
  ⟨(some 76), .pick (.t 71) (.t 75) (.k (.bool false)), none, none, [], none⟩,
  ⟨(some 77), .mv (.t 76), none, none, [], none⟩,
  ⟨(some 78), .mv (.t 5), (some (77, true)), none, [], none⟩,
  ⟨(some 79), .rcall 13 [(.t 78)], (some (77, true)), none, [], none⟩,
  ⟨(some 80), .mv (.t 5), (some (77, true)), none, [], none⟩,
  ⟨(some 81), .rcall 14 [(.t 80)], (some (77, true)), none, [], none⟩,
  ⟨(some 82), .bin .add (.t 79) (.t 81), (some (77, true)), none, [], none⟩,
  ⟨(some 83), .bin .eql (.t 82) (.k (.int .i64 0)), (some (77, true)), none, [], none⟩,
  ⟨(some 84), .pick (.t 77) (.t 83) (.k (.bool false)), none, none, [], none⟩,
  ⟨(some 4), .mv (.t 84), none, none, [], none⟩]
def ac_law13_LedgerNil_4 : AC := .reg l_law13_LedgerNil_4
def ac_law13_LedgerNil_5 : AC := .seq ac_law13_LedgerNil_4 .ret
def ac_law13_LedgerNil_6 : AC := .seq ac_law13_LedgerNil_3 ac_law13_LedgerNil_5
def ac_law13_LedgerNil_7 : AC := .seq ac_law13_LedgerNil_2 ac_law13_LedgerNil_6
def ac_law13_LedgerNil_8 : AC := .seq ac_law13_LedgerNil_1 ac_law13_LedgerNil_7
def ac_law13_LedgerNil_9 : AC := .seq ac_law13_LedgerNil_0 ac_law13_LedgerNil_8
def ac_law13_LedgerNil : AC := ac_law13_LedgerNil_9
theorem comp_law13_LedgerNil : compF Try.prog [1000015, 4000017, 1000011, 1000022, 1000012, 1000018, 1000016, 4000013, 4000014] (drawR Try.prog [1000015, 4000017, 1000011, 1000022, 1000012, 1000018, 1000016, 4000013, 4000014] Try.f8.ntmps) [] 2 Try.f8 = some (ac_law13_LedgerNil, [.t 4]) := by kernel_rfl
def U_law13_LedgerNil := (And.intro (And.intro (And.intro (And.intro @ac_law13_LedgerNil.eq_1 (@mR _ _ ac_law13_LedgerNil_0.eq_1)) (And.intro (@mR _ _ ac_law13_LedgerNil_1.eq_1) (@mR _ _ ac_law13_LedgerNil_2.eq_1))) (And.intro (And.intro (@mR _ _ ac_law13_LedgerNil_3.eq_1) (@mR _ _ ac_law13_LedgerNil_4.eq_1)) (And.intro (@mU _ _ ac_law13_LedgerNil_5.eq_1) (@mU _ _ ac_law13_LedgerNil_6.eq_1)))) (And.intro (And.intro (And.intro (@mU _ _ ac_law13_LedgerNil_7.eq_1) (@mU _ _ ac_law13_LedgerNil_8.eq_1)) (And.intro (@mU _ _ ac_law13_LedgerNil_9.eq_1) @l_law13_LedgerNil_0.eq_1)) (And.intro (And.intro @l_law13_LedgerNil_1.eq_1 @l_law13_LedgerNil_2.eq_1) (And.intro @l_law13_LedgerNil_3.eq_1 @l_law13_LedgerNil_4.eq_1))))

/- scoria/ledger.New -/
def l_ledger_New_0 : List AOp := [⟨(some 2), .mv (.k .nilp), none, none, [], none⟩]
def ac_ledger_New_0 : AC := .reg l_ledger_New_0
def l_ledger_New_1 : List AOp := [⟨(some 3), .mv (.t 0), none, none, [], none⟩,
  ⟨(some 4), .mm true [(.t 3), (.k (.int .i64 0))], none, none, [], none⟩,
  ⟨(some 5), .mop .mk [], none, none, [], none⟩,
  ⟨(some 6), .build [(.int .i64 0), .nilm] [(0, 1, (.t 4)), (1, 1, (.t 5))], none, none, [], none⟩,
  ⟨(some 7), .box (.t 6), none, none, [], none⟩,
  ⟨(some 2), .mv (.t 7), none, none, [], none⟩]
def ac_ledger_New_1 : AC := .reg l_ledger_New_1
def ac_ledger_New_2 : AC := .seq ac_ledger_New_1 .ret
def ac_ledger_New_3 : AC := .seq ac_ledger_New_0 ac_ledger_New_2
def ac_ledger_New : AC := ac_ledger_New_3
theorem comp_ledger_New : compF Try.prog [] (drawR Try.prog [] Try.f9.ntmps) [] 1 Try.f9 = some (ac_ledger_New, [.t 2]) := by kernel_rfl
def U_ledger_New := (And.intro (And.intro (And.intro @ac_ledger_New.eq_1 (@mR _ _ ac_ledger_New_0.eq_1)) (And.intro (@mR _ _ ac_ledger_New_1.eq_1) (@mU _ _ ac_ledger_New_2.eq_1))) (And.intro (And.intro (@mU _ _ ac_ledger_New_3.eq_1) @l_ledger_New_0.eq_1) @l_ledger_New_1.eq_1))

/- scoria/scorialaw13.awake -/
def l_law13_awake_0 : List AOp := [⟨(some 0), .mv (.k (.bool false)), none, none, [], none⟩]
def ac_law13_awake_0 : AC := .reg l_law13_awake_0
def l_law13_awake_1 : List AOp := [⟨(some 8), .icall 9 [(.k (.int .i64 5))], none, none, [], none⟩,
  ⟨(some 1), .mv (.t 8), none, none, [], none⟩]
def ac_law13_awake_1 : AC := .reg l_law13_awake_1
def l_law13_awake_2 : List AOp := [⟨(some 9), .mv (.t 1), none, none, [], none⟩,
  ⟨(some 10), .icall 11 [(.t 9), (.k (.int .i64 1)), (.k (.int .i64 9))], none, none, [], none⟩,
  ⟨(some 2), .mv (.t 10), none, none, [], none⟩]
def ac_law13_awake_2 : AC := .reg l_law13_awake_2
def l_law13_awake_3 : List AOp := [⟨(some 11), .mv (.t 1), none, none, [], none⟩,
  ⟨(some 12), .icall 12 [(.t 11), (.k (.int .i64 1)), (.k (.int .i64 4))], none, none, [], none⟩,
  ⟨(some 3), .mv (.t 12), none, none, [], none⟩]
def ac_law13_awake_3 : AC := .reg l_law13_awake_3
def l_law13_awake_4 : List AOp := [⟨(some 13), .mv (.t 1), none, none, [], none⟩,
  ⟨(some 14), .icall 11 [(.t 13), (.k (.int .i64 2)), (.k (.int .i64 9))], none, none, [], none⟩,
  ⟨(some 4), .mv (.t 14), none, none, [], none⟩]
def ac_law13_awake_4 : AC := .reg l_law13_awake_4
def l_law13_awake_5 : List AOp := [⟨(some 15), .mv (.t 1), none, none, [], none⟩,
  ⟨(some 16), .icall 12 [(.t 15), (.k (.int .i64 2)), (.k (.int .i64 2))], none, none, [], none⟩,
  ⟨(some 5), .mv (.t 16), none, none, [], none⟩]
def ac_law13_awake_5 : AC := .reg l_law13_awake_5
def l_law13_awake_6 : List AOp := [⟨(some 17), .mv (.t 1), none, none, [], none⟩,
  ⟨(some 18), .icall 18 [(.t 17), (.k (.int .i64 1)), (.k (.int .i64 1))], none, none, [], none⟩,
  ⟨(some 6), .mv (.t 18), none, none, [], none⟩]
def ac_law13_awake_6 : AC := .reg l_law13_awake_6
def l_law13_awake_7 : List AOp := [⟨(some 19), .mv (.t 1), none, none, [], none⟩,
  ⟨(some 20), .icall 12 [(.t 19), (.k (.int .i64 2)), (.k (.int .i64 2))], none, none, [], none⟩,
  ⟨(some 7), .mv (.t 20), none, none, [], none⟩]
def ac_law13_awake_7 : AC := .reg l_law13_awake_7
def l_law13_awake_8 : List AOp := [⟨(some 21), .mv (.t 2), none, none, [], none⟩,
  ⟨(some 22), .bin .eql (.t 21) (.k (.int .i64 0)), none, none, [], none⟩,
  ⟨(some 23), .mv (.t 22), none, none, [], none⟩,
  ⟨(some 24), .mv (.t 3), (some (23, true)), none, [], none⟩,
  ⟨(some 25), .bin .eql (.t 24) (.k (.int .i64 0)), (some (23, true)), none, [], none⟩,
  ⟨(some 26), .pick (.t 23) (.t 25) (.k (.bool false)), none, none, [], none⟩,
  ⟨(some 27), .mv (.t 26), none, none, [], none⟩,
  ⟨(some 28), .mv (.t 4), (some (27, true)), none, [], none⟩,
  ⟨(some 29), .bin .eql (.t 28) (.k (.int .i64 0)), (some (27, true)), none, [], none⟩,
  ⟨(some 30), .pick (.t 27) (.t 29) (.k (.bool false)), none, none, [], none⟩,
  ⟨(some 31), .mv (.t 30), none, none, [], none⟩,
  ⟨(some 32), .mv (.t 5), (some (31, true)), none, [], none⟩,
  ⟨(some 33), .bin .eql (.t 32) (.k (.int .i64 71)), (some (31, true)), none, [], none⟩,
  ⟨(some 34), .pick (.t 31) (.t 33) (.k (.bool false)), none, none, [], none⟩,
  ⟨(some 35), .mv (.t 34), none, none, [], none⟩,
  ⟨(some 36), .mv (.t 6), (some (35, true)), none, [], none⟩,
  ⟨(some 37), .bin .eql (.t 36) (.k (.int .i64 0)), (some (35, true)), none, [], none⟩,
  ⟨(some 38), .pick (.t 35) (.t 37) (.k (.bool false)), none, none, [], none⟩,
  ⟨(some 39), .mv (.t 38), none, none, [], none⟩,
  ⟨(some 40), .mv (.t 7), (some (39, true)), none, [], none⟩,
  ⟨(some 41), .bin .eql (.t 40) (.k (.int .i64 0)), (some (39, true)), none, [], none⟩,
  ⟨(some 42), .pick (.t 39) (.t 41) (.k (.bool false)), none, none, [], none⟩,
  ⟨(some 43), .mv (.t 42), none, none, [], none⟩,
  ⟨(some 44), .mv (.t 1), (some (43, true)), none, [], none⟩,
  ⟨(some 45), .rcall 14 [(.t 44)], (some (43, true)), none, [], none⟩,
  ⟨(some 46), .bin .eql (.t 45) (.k (.int .i64 0)), (some (43, true)), none, [], none⟩,
  ⟨(some 47), .pick (.t 43) (.t 46) (.k (.bool false)), none, none, [], none⟩,
  ⟨(some 48), .mv (.t 47), none, none, [], none⟩,
  ⟨(some 49), .mv (.t 1), (some (48, true)), none, [], none⟩,
  ⟨(some 50), .rcall 13 [(.t 49)], (some (48, true)), none, [], none⟩,
  ⟨(some 51), .bin .eql (.t 50) (.k (.int .i64 5)), (some (48, true)), none, [], none⟩,
  ⟨(some 52), .pick (.t 48) (.t 51) (.k (.bool false)), none, none, [], none⟩,
  ⟨(some 0), .mv (.t 52), none, none, [], none⟩]
def ac_law13_awake_8 : AC := .reg l_law13_awake_8
def ac_law13_awake_9 : AC := .seq ac_law13_awake_8 .ret
def ac_law13_awake_10 : AC := .seq ac_law13_awake_7 ac_law13_awake_9
def ac_law13_awake_11 : AC := .seq ac_law13_awake_6 ac_law13_awake_10
def ac_law13_awake_12 : AC := .seq ac_law13_awake_5 ac_law13_awake_11
def ac_law13_awake_13 : AC := .seq ac_law13_awake_4 ac_law13_awake_12
def ac_law13_awake_14 : AC := .seq ac_law13_awake_3 ac_law13_awake_13
def ac_law13_awake_15 : AC := .seq ac_law13_awake_2 ac_law13_awake_14
def ac_law13_awake_16 : AC := .seq ac_law13_awake_1 ac_law13_awake_15
def ac_law13_awake_17 : AC := .seq ac_law13_awake_0 ac_law13_awake_16
def ac_law13_awake : AC := ac_law13_awake_17
theorem comp_law13_awake : compF Try.prog [1000009, 1000011, 1000012, 1000018, 4000014, 4000013] (drawR Try.prog [1000009, 1000011, 1000012, 1000018, 4000014, 4000013] Try.f10.ntmps) [] 0 Try.f10 = some (ac_law13_awake, [.t 0]) := by kernel_rfl
def U_law13_awake := (And.intro (And.intro (And.intro (And.intro (And.intro @ac_law13_awake.eq_1 (@mR _ _ ac_law13_awake_0.eq_1)) (And.intro (@mR _ _ ac_law13_awake_1.eq_1) (@mR _ _ ac_law13_awake_2.eq_1))) (And.intro (And.intro (@mR _ _ ac_law13_awake_3.eq_1) (@mR _ _ ac_law13_awake_4.eq_1)) (@mR _ _ ac_law13_awake_5.eq_1))) (And.intro (And.intro (And.intro (@mR _ _ ac_law13_awake_6.eq_1) (@mR _ _ ac_law13_awake_7.eq_1)) (And.intro (@mR _ _ ac_law13_awake_8.eq_1) (@mU _ _ ac_law13_awake_9.eq_1))) (And.intro (And.intro (@mU _ _ ac_law13_awake_10.eq_1) (@mU _ _ ac_law13_awake_11.eq_1)) (@mU _ _ ac_law13_awake_12.eq_1)))) (And.intro (And.intro (And.intro (And.intro (@mU _ _ ac_law13_awake_13.eq_1) (@mU _ _ ac_law13_awake_14.eq_1)) (And.intro (@mU _ _ ac_law13_awake_15.eq_1) (@mU _ _ ac_law13_awake_16.eq_1))) (And.intro (And.intro (@mU _ _ ac_law13_awake_17.eq_1) @l_law13_awake_0.eq_1) @l_law13_awake_1.eq_1)) (And.intro (And.intro (And.intro @l_law13_awake_2.eq_1 @l_law13_awake_3.eq_1) (And.intro @l_law13_awake_4.eq_1 @l_law13_awake_5.eq_1)) (And.intro (And.intro @l_law13_awake_6.eq_1 @l_law13_awake_7.eq_1) @l_law13_awake_8.eq_1))))

/- (*scoria/ledger.Ledger).Open -/
def l_ledger_Ledger_Open_0 : List AOp := [⟨(some 6), .mv (.k (.int .i64 0)), none, none, [], none⟩]
def ac_ledger_Ledger_Open_0 : AC := .reg l_ledger_Ledger_Open_0
def l_ledger_Ledger_Open_1 : List AOp := [⟨(some 9), .mv (.t 0), none, none, [], none⟩,
  ⟨(some 10), .isn .p false (.t 9), none, none, [], none⟩,
  ⟨(some 11), .mv (.t 10), none, none, [], none⟩,
  ⟨(some 12), .mv (.t 1), (some (11, false)), none, [], none⟩,
  ⟨(some 13), .bin .lss (.t 12) (.k (.int .i64 1)), (some (11, false)), none, [], none⟩,
  ⟨(some 14), .pick (.t 11) (.k (.bool true)) (.t 13), none, none, [], none⟩,
  ⟨(some 15), .mv (.t 14), none, none, [], none⟩,
  ⟨(some 16), .mv (.t 1), (some (15, false)), none, [], none⟩,
  ⟨(some 17), .bin .gtr (.t 16) (.k (.int .i64 65535)), (some (15, false)), none, [], none⟩,
  ⟨(some 18), .pick (.t 15) (.k (.bool true)) (.t 17), none, none, [], none⟩,
  ⟨(some 19), .mv (.t 18), none, none, [], none⟩,
  ⟨(some 20), .mv (.t 2), (some (19, false)), none, [], none⟩,
  ⟨(some 21), .call false 23 [(.t 20)], (some (19, false)), none, [], none⟩,
  ⟨(some 22), .un .not (.t 21), (some (19, false)), none, [], none⟩,
  ⟨(some 23), .pick (.t 19) (.k (.bool true)) (.t 22), none, none, [], none⟩]
def ac_ledger_Ledger_Open_1 : AC := .reg l_ledger_Ledger_Open_1
def l_ledger_Ledger_Open_2 : List AOp := [⟨(some 6), .mv (.k (.int .i64 1)), none, none, [], none⟩]
def ac_ledger_Ledger_Open_2 : AC := .reg l_ledger_Ledger_Open_2
def ac_ledger_Ledger_Open_3 : AC := .seq ac_ledger_Ledger_Open_2 .ret
def ac_ledger_Ledger_Open_4 : AC := .cond (.t 23) ac_ledger_Ledger_Open_3 .skip
def ac_ledger_Ledger_Open_5 : AC := .seq ac_ledger_Ledger_Open_1 ac_ledger_Ledger_Open_4
def l_ledger_Ledger_Open_6 : List AOp := [⟨(some 25), .mv (.t 0), none, none, [], none⟩,
  ⟨(some 26), .nilck (.t 25), none, none, [], none⟩,
  ⟨(some 27), .faddr 1 (.t 26), none, none, [], none⟩,
  ⟨(some 28), .load none (.t 27), none, none, [], none⟩,
  ⟨(some 29), .mv (.t 1), none, none, [], none⟩,
  ⟨(some 30), .mop (.get true .nilp) [(.t 28), (.t 29)], none, none, [], none⟩,
  ⟨(some 24), .mv (.t 30), none, none, [], none⟩,
  ⟨(some 31), .ext 0 (.t 24), none, none, [], none⟩,
  ⟨(some 32), .ext 1 (.t 24), none, none, [], none⟩,
  ⟨(some 7), .mv (.t 31), none, none, [], none⟩,
  ⟨(some 8), .mv (.t 32), none, none, [], none⟩]
def ac_ledger_Ledger_Open_6 : AC := .reg l_ledger_Ledger_Open_6
def l_ledger_Ledger_Open_7 : List AOp := [⟨(some 33), .mv (.t 8), none, none, [], none⟩]
def ac_ledger_Ledger_Open_7 : AC := .reg l_ledger_Ledger_Open_7
def l_ledger_Ledger_Open_8 : List AOp := [⟨(some 6), .mv (.k (.int .i64 7)), none, none, [], none⟩]
def ac_ledger_Ledger_Open_8 : AC := .reg l_ledger_Ledger_Open_8
def ac_ledger_Ledger_Open_9 : AC := .seq ac_ledger_Ledger_Open_8 .ret
def ac_ledger_Ledger_Open_10 : AC := .cond (.t 33) ac_ledger_Ledger_Open_9 .skip
def ac_ledger_Ledger_Open_11 : AC := .seq ac_ledger_Ledger_Open_7 ac_ledger_Ledger_Open_10
def ac_ledger_Ledger_Open_12 : AC := .seq ac_ledger_Ledger_Open_6 ac_ledger_Ledger_Open_11
def l_ledger_Ledger_Open_13 : List AOp := [⟨(some 34), .mv (.t 0), none, none, [], none⟩,
  ⟨(some 35), .nilck (.t 34), none, none, [], none⟩,
  ⟨(some 36), .faddr 1 (.t 35), none, none, [], none⟩,
  ⟨(some 37), .load none (.t 36), none, none, [], none⟩,
  ⟨(some 38), .mop .len [(.t 37)], none, none, [], none⟩,
  ⟨(some 39), .bin .geq (.t 38) (.k (.int .i64 8)), none, none, [], none⟩]
def ac_ledger_Ledger_Open_13 : AC := .reg l_ledger_Ledger_Open_13
def l_ledger_Ledger_Open_14 : List AOp := [⟨(some 6), .mv (.k (.int .i64 70)), none, none, [], none⟩]
def ac_ledger_Ledger_Open_14 : AC := .reg l_ledger_Ledger_Open_14
def ac_ledger_Ledger_Open_15 : AC := .seq ac_ledger_Ledger_Open_14 .ret
def ac_ledger_Ledger_Open_16 : AC := .cond (.t 39) ac_ledger_Ledger_Open_15 .skip
def ac_ledger_Ledger_Open_17 : AC := .seq ac_ledger_Ledger_Open_13 ac_ledger_Ledger_Open_16
def l_ledger_Ledger_Open_18 : List AOp := [⟨(some 40), .mv (.t 0), none, none, [], none⟩,
  ⟨(some 41), .nilck (.t 40), none, none, [], none⟩,
  ⟨(some 42), .faddr 1 (.t 41), none, none, [], none⟩,
  ⟨(some 43), .load none (.t 42), none, none, [], none⟩,
  ⟨(some 44), .mv (.t 1), none, none, [], none⟩,
  ⟨(some 45), .mv (.t 2), none, none, [], none⟩,
  ⟨(some 46), .build [(.int .i64 0), (.int .i64 0)] [(0, 1, (.t 45))], none, none, [], none⟩,
  ⟨(some 47), .box (.t 46), none, none, [], none⟩,
  ⟨none, .mop .set [(.t 43), (.t 44), (.t 47)], none, none, [], none⟩]
def ac_ledger_Ledger_Open_18 : AC := .reg l_ledger_Ledger_Open_18
def l_ledger_Ledger_Open_19 : List AOp := [⟨(some 6), .mv (.k (.int .i64 0)), none, none, [], none⟩]
def ac_ledger_Ledger_Open_19 : AC := .reg l_ledger_Ledger_Open_19
def ac_ledger_Ledger_Open_20 : AC := .seq ac_ledger_Ledger_Open_19 .ret
def ac_ledger_Ledger_Open_21 : AC := .seq ac_ledger_Ledger_Open_18 ac_ledger_Ledger_Open_20
def ac_ledger_Ledger_Open_22 : AC := .seq ac_ledger_Ledger_Open_17 ac_ledger_Ledger_Open_21
def ac_ledger_Ledger_Open_23 : AC := .seq ac_ledger_Ledger_Open_12 ac_ledger_Ledger_Open_22
def ac_ledger_Ledger_Open_24 : AC := .seq ac_ledger_Ledger_Open_5 ac_ledger_Ledger_Open_23
def ac_ledger_Ledger_Open_25 : AC := .seq ac_ledger_Ledger_Open_0 ac_ledger_Ledger_Open_24
def ac_ledger_Ledger_Open : AC := ac_ledger_Ledger_Open_25
theorem comp_ledger_Ledger_Open : compF Try.prog [] (drawR Try.prog [] Try.f11.ntmps) [] 3 Try.f11 = some (ac_ledger_Ledger_Open, [.t 6]) := by kernel_rfl
def U_ledger_Ledger_Open := (And.intro (And.intro (And.intro (And.intro (And.intro (And.intro @ac_ledger_Ledger_Open.eq_1 (@mR _ _ ac_ledger_Ledger_Open_0.eq_1)) (@mR _ _ ac_ledger_Ledger_Open_1.eq_1)) (And.intro (@mR _ _ ac_ledger_Ledger_Open_2.eq_1) (@mU _ _ ac_ledger_Ledger_Open_3.eq_1))) (And.intro (And.intro (And.intro (@mU _ _ ac_ledger_Ledger_Open_4.eq_1) (@mU _ _ ac_ledger_Ledger_Open_5.eq_1)) (@mR _ _ ac_ledger_Ledger_Open_6.eq_1)) (And.intro (@mR _ _ ac_ledger_Ledger_Open_7.eq_1) (@mR _ _ ac_ledger_Ledger_Open_8.eq_1)))) (And.intro (And.intro (And.intro (And.intro (@mU _ _ ac_ledger_Ledger_Open_9.eq_1) (@mU _ _ ac_ledger_Ledger_Open_10.eq_1)) (@mU _ _ ac_ledger_Ledger_Open_11.eq_1)) (And.intro (@mU _ _ ac_ledger_Ledger_Open_12.eq_1) (@mR _ _ ac_ledger_Ledger_Open_13.eq_1))) (And.intro (And.intro (@mR _ _ ac_ledger_Ledger_Open_14.eq_1) (@mU _ _ ac_ledger_Ledger_Open_15.eq_1)) (And.intro (@mU _ _ ac_ledger_Ledger_Open_16.eq_1) (@mU _ _ ac_ledger_Ledger_Open_17.eq_1))))) (And.intro (And.intro (And.intro (And.intro (And.intro (@mR _ _ ac_ledger_Ledger_Open_18.eq_1) (@mR _ _ ac_ledger_Ledger_Open_19.eq_1)) (@mU _ _ ac_ledger_Ledger_Open_20.eq_1)) (And.intro (@mU _ _ ac_ledger_Ledger_Open_21.eq_1) (@mU _ _ ac_ledger_Ledger_Open_22.eq_1))) (And.intro (And.intro (@mU _ _ ac_ledger_Ledger_Open_23.eq_1) (@mU _ _ ac_ledger_Ledger_Open_24.eq_1)) (And.intro (@mU _ _ ac_ledger_Ledger_Open_25.eq_1) @l_ledger_Ledger_Open_0.eq_1))) (And.intro (And.intro (And.intro (And.intro @l_ledger_Ledger_Open_1.eq_1 @l_ledger_Ledger_Open_2.eq_1) @l_ledger_Ledger_Open_6.eq_1) (And.intro @l_ledger_Ledger_Open_7.eq_1 @l_ledger_Ledger_Open_8.eq_1)) (And.intro (And.intro @l_ledger_Ledger_Open_13.eq_1 @l_ledger_Ledger_Open_14.eq_1) (And.intro @l_ledger_Ledger_Open_18.eq_1 @l_ledger_Ledger_Open_19.eq_1)))))

/- (*scoria/ledger.Ledger).Charge -/
def l_ledger_Ledger_Charge_0 : List AOp := [⟨(some 6), .mv (.k (.int .i64 0)), none, none, [], none⟩]
def ac_ledger_Ledger_Charge_0 : AC := .reg l_ledger_Ledger_Charge_0
def l_ledger_Ledger_Charge_1 : List AOp := [⟨(some 9), .mv (.t 2), none, none, [], none⟩,
  ⟨(some 10), .bin .lss (.t 9) (.k (.int .i64 0)), none, none, [], none⟩]
def ac_ledger_Ledger_Charge_1 : AC := .reg l_ledger_Ledger_Charge_1
def l_ledger_Ledger_Charge_2 : List AOp := [⟨(some 6), .mv (.k (.int .i64 1)), none, none, [], none⟩]
def ac_ledger_Ledger_Charge_2 : AC := .reg l_ledger_Ledger_Charge_2
def ac_ledger_Ledger_Charge_3 : AC := .seq ac_ledger_Ledger_Charge_2 .ret
def ac_ledger_Ledger_Charge_4 : AC := .cond (.t 10) ac_ledger_Ledger_Charge_3 .skip
def ac_ledger_Ledger_Charge_5 : AC := .seq ac_ledger_Ledger_Charge_1 ac_ledger_Ledger_Charge_4
def l_ledger_Ledger_Charge_6 : List AOp := [⟨(some 12), .mv (.t 0), none, none, [], none⟩,
  ⟨(some 13), .mv (.t 1), none, none, [], none⟩,
  ⟨(some 14), .icall 24 [(.t 12), (.t 13)], none, none, [], none⟩,
  ⟨(some 11), .mv (.t 14), none, none, [], none⟩,
  ⟨(some 15), .ext 0 (.t 11), none, none, [], none⟩,
  ⟨(some 16), .ext 1 (.t 11), none, none, [], none⟩,
  ⟨(some 7), .mv (.t 15), none, none, [], none⟩,
  ⟨(some 8), .mv (.t 16), none, none, [], none⟩]
def ac_ledger_Ledger_Charge_6 : AC := .reg l_ledger_Ledger_Charge_6
def l_ledger_Ledger_Charge_7 : List AOp := [⟨(some 18), .mv (.t 8), none, none, [], none⟩,
  ⟨(some 19), .bin .neq (.t 18) (.k (.int .i64 0)), none, none, [], none⟩,
  ⟨(some 17), .mv (.t 19), none, none, [], none⟩]
def ac_ledger_Ledger_Charge_7 : AC := .reg l_ledger_Ledger_Charge_7
def l_ledger_Ledger_Charge_8 : List AOp := [⟨(some 20), .mv (.t 8), none, none, [], none⟩,
  ⟨(some 6), .mv (.t 20), none, none, [], none⟩]
def ac_ledger_Ledger_Charge_8 : AC := .reg l_ledger_Ledger_Charge_8
def ac_ledger_Ledger_Charge_9 : AC := .seq ac_ledger_Ledger_Charge_8 .ret
def l_ledger_Ledger_Charge_10 : List AOp := [⟨(some 22), .mv (.t 2), none, none, [], none⟩,
  ⟨(some 23), .mv (.t 0), none, none, [], none⟩,
  ⟨(some 24), .rcall 14 [(.t 23)], none, none, [], none⟩,
  ⟨(some 25), .bin .gtr (.t 22) (.t 24), none, none, [], none⟩,
  ⟨(some 21), .mv (.t 25), none, none, [], none⟩]
def ac_ledger_Ledger_Charge_10 : AC := .reg l_ledger_Ledger_Charge_10
def l_ledger_Ledger_Charge_11 : List AOp := [⟨(some 6), .mv (.k (.int .i64 71)), none, none, [], none⟩]
def ac_ledger_Ledger_Charge_11 : AC := .reg l_ledger_Ledger_Charge_11
def ac_ledger_Ledger_Charge_12 : AC := .seq ac_ledger_Ledger_Charge_11 .ret
def ac_ledger_Ledger_Charge_13 : AC := .cond (.t 21) ac_ledger_Ledger_Charge_12 .skip
def ac_ledger_Ledger_Charge_14 : AC := .seq ac_ledger_Ledger_Charge_10 ac_ledger_Ledger_Charge_13
def ac_ledger_Ledger_Charge_15 : AC := .cond (.t 17) ac_ledger_Ledger_Charge_9 ac_ledger_Ledger_Charge_14
def ac_ledger_Ledger_Charge_16 : AC := .seq ac_ledger_Ledger_Charge_7 ac_ledger_Ledger_Charge_15
def ac_ledger_Ledger_Charge_17 : AC := .block 0 ac_ledger_Ledger_Charge_16
def l_ledger_Ledger_Charge_18 : List AOp := [⟨(some 26), .mv (.t 7), none, none, [], none⟩,
  ⟨(some 27), .nilck (.t 26), none, none, [], none⟩,
  ⟨(some 28), .faddr 1 (.t 27), none, none, [], none⟩,
  ⟨(some 29), .load none (.t 28), none, none, [], none⟩,
  ⟨(some 30), .mv (.t 2), none, none, [], none⟩,
  ⟨(some 31), .bin .add (.t 29) (.t 30), none, none, [], none⟩,
  ⟨(some 32), .nilck (.t 26), none, none, [], none⟩,
  ⟨(some 33), .faddr 1 (.t 32), none, none, [], none⟩,
  ⟨none, .store 1 (.t 33) (.t 31), none, none, [], none⟩]
def ac_ledger_Ledger_Charge_18 : AC := .reg l_ledger_Ledger_Charge_18
def l_ledger_Ledger_Charge_19 : List AOp := [⟨(some 6), .mv (.k (.int .i64 0)), none, none, [], none⟩]
def ac_ledger_Ledger_Charge_19 : AC := .reg l_ledger_Ledger_Charge_19
def ac_ledger_Ledger_Charge_20 : AC := .seq ac_ledger_Ledger_Charge_19 .ret
def ac_ledger_Ledger_Charge_21 : AC := .seq ac_ledger_Ledger_Charge_18 ac_ledger_Ledger_Charge_20
def ac_ledger_Ledger_Charge_22 : AC := .seq ac_ledger_Ledger_Charge_17 ac_ledger_Ledger_Charge_21
def ac_ledger_Ledger_Charge_23 : AC := .seq ac_ledger_Ledger_Charge_6 ac_ledger_Ledger_Charge_22
def ac_ledger_Ledger_Charge_24 : AC := .seq ac_ledger_Ledger_Charge_5 ac_ledger_Ledger_Charge_23
def ac_ledger_Ledger_Charge_25 : AC := .seq ac_ledger_Ledger_Charge_0 ac_ledger_Ledger_Charge_24
def ac_ledger_Ledger_Charge : AC := ac_ledger_Ledger_Charge_25
theorem comp_ledger_Ledger_Charge : compF Try.prog [1000024, 4000014] (drawR Try.prog [1000024, 4000014] Try.f12.ntmps) [] 3 Try.f12 = some (ac_ledger_Ledger_Charge, [.t 6]) := by kernel_rfl
def U_ledger_Ledger_Charge := (And.intro (And.intro (And.intro (And.intro (And.intro (And.intro @ac_ledger_Ledger_Charge.eq_1 (@mR _ _ ac_ledger_Ledger_Charge_0.eq_1)) (@mR _ _ ac_ledger_Ledger_Charge_1.eq_1)) (And.intro (@mR _ _ ac_ledger_Ledger_Charge_2.eq_1) (@mU _ _ ac_ledger_Ledger_Charge_3.eq_1))) (And.intro (And.intro (And.intro (@mU _ _ ac_ledger_Ledger_Charge_4.eq_1) (@mU _ _ ac_ledger_Ledger_Charge_5.eq_1)) (@mR _ _ ac_ledger_Ledger_Charge_6.eq_1)) (And.intro (@mR _ _ ac_ledger_Ledger_Charge_7.eq_1) (@mR _ _ ac_ledger_Ledger_Charge_8.eq_1)))) (And.intro (And.intro (And.intro (And.intro (@mU _ _ ac_ledger_Ledger_Charge_9.eq_1) (@mR _ _ ac_ledger_Ledger_Charge_10.eq_1)) (@mR _ _ ac_ledger_Ledger_Charge_11.eq_1)) (And.intro (@mU _ _ ac_ledger_Ledger_Charge_12.eq_1) (@mU _ _ ac_ledger_Ledger_Charge_13.eq_1))) (And.intro (And.intro (@mU _ _ ac_ledger_Ledger_Charge_14.eq_1) (@mU _ _ ac_ledger_Ledger_Charge_15.eq_1)) (And.intro (@mU _ _ ac_ledger_Ledger_Charge_16.eq_1) (@mU _ _ ac_ledger_Ledger_Charge_17.eq_1))))) (And.intro (And.intro (And.intro (And.intro (And.intro (@mR _ _ ac_ledger_Ledger_Charge_18.eq_1) (@mR _ _ ac_ledger_Ledger_Charge_19.eq_1)) (@mU _ _ ac_ledger_Ledger_Charge_20.eq_1)) (And.intro (@mU _ _ ac_ledger_Ledger_Charge_21.eq_1) (@mU _ _ ac_ledger_Ledger_Charge_22.eq_1))) (And.intro (And.intro (@mU _ _ ac_ledger_Ledger_Charge_23.eq_1) (@mU _ _ ac_ledger_Ledger_Charge_24.eq_1)) (And.intro (@mU _ _ ac_ledger_Ledger_Charge_25.eq_1) @l_ledger_Ledger_Charge_0.eq_1))) (And.intro (And.intro (And.intro (And.intro @l_ledger_Ledger_Charge_1.eq_1 @l_ledger_Ledger_Charge_2.eq_1) @l_ledger_Ledger_Charge_6.eq_1) (And.intro @l_ledger_Ledger_Charge_7.eq_1 @l_ledger_Ledger_Charge_8.eq_1)) (And.intro (And.intro @l_ledger_Ledger_Charge_10.eq_1 @l_ledger_Ledger_Charge_11.eq_1) (And.intro @l_ledger_Ledger_Charge_18.eq_1 @l_ledger_Ledger_Charge_19.eq_1)))))

/- (*scoria/ledger.Ledger).Total -/
def l_ledger_Ledger_Total_0 : List AOp := [⟨(some 2), .mv (.k (.int .i64 0)), none, none, [], none⟩]
def ac_ledger_Ledger_Total_0 : AC := .reg l_ledger_Ledger_Total_0
def l_ledger_Ledger_Total_1 : List AOp := [⟨(some 3), .mv (.k (.int .i64 0)), none, none, [], none⟩]
def ac_ledger_Ledger_Total_1 : AC := .reg l_ledger_Ledger_Total_1
def l_ledger_Ledger_Total_2 : List AOp := [⟨(some 6), .mv (.t 0), none, none, [], none⟩,
  ⟨(some 7), .icall 16 [(.t 6)], none, none, [], none⟩,
  ⟨(some 8), .len (.t 7), none, none, [], none⟩,
  ⟨(some 9), .mv (.k (.int .i64 0)), none, none, [], none⟩]
def ac_ledger_Ledger_Total_2 : AC := .reg l_ledger_Ledger_Total_2
def l_ledger_Ledger_Total_3 : List AOp := [⟨(some 10), .bin .lss (.t 9) (.t 8), none, none, [], none⟩]
def ac_ledger_Ledger_Total_3 : AC := .reg l_ledger_Ledger_Total_3
def ac_ledger_Ledger_Total_4 : AC := .cond (.t 10) .skip (.exit 0)
def l_ledger_Ledger_Total_5 : List AOp := [⟨(some 11), .isl 1 (.t 7) (.t 9), none, none, [], none⟩,
  ⟨(some 12), .load none (.t 11), none, none, [], none⟩,
  ⟨(some 5), .mv (.t 12), none, none, [], none⟩]
def ac_ledger_Ledger_Total_5 : AC := .reg l_ledger_Ledger_Total_5
def l_ledger_Ledger_Total_6 : List AOp := [⟨(some 13), .mv (.t 3), none, none, [], none⟩,
  ⟨(some 14), .mv (.t 0), none, none, [], none⟩,
  ⟨(some 15), .nilck (.t 14), none, none, [], none⟩,
  ⟨(some 16), .faddr 1 (.t 15), none, none, [], none⟩,
  ⟨(some 17), .load none (.t 16), none, none, [], none⟩,
  ⟨(some 18), .mv (.t 5), none, none, [], none⟩,
  ⟨(some 19), .mop (.get false .nilp) [(.t 17), (.t 18)], none, none, [], none⟩,
  ⟨(some 20), .nilck (.t 19), none, none, [], none⟩,
  ⟨(some 21), .faddr 1 (.t 20), none, none, [], none⟩,
  ⟨(some 22), .load none (.t 21), none, none, [], none⟩,
  ⟨(some 23), .bin .add (.t 13) (.t 22), none, none, [], none⟩,
  ⟨(some 3), .mv (.t 23), none, none, [], none⟩]
def ac_ledger_Ledger_Total_6 : AC := .reg l_ledger_Ledger_Total_6
def ac_ledger_Ledger_Total_7 : AC := .seq ac_ledger_Ledger_Total_5 ac_ledger_Ledger_Total_6
def ac_ledger_Ledger_Total_8 : AC := .block 1 ac_ledger_Ledger_Total_7
def l_ledger_Ledger_Total_9 : List AOp := [⟨(some 24), .bin .add (.t 9) (.k (.int .i64 1)), none, none, [], none⟩,
  ⟨(some 9), .mv (.t 24), none, none, [], none⟩]
def ac_ledger_Ledger_Total_9 : AC := .reg l_ledger_Ledger_Total_9
def ac_ledger_Ledger_Total_10 : AC := .seq ac_ledger_Ledger_Total_8 ac_ledger_Ledger_Total_9
def ac_ledger_Ledger_Total_11 : AC := .seq ac_ledger_Ledger_Total_4 ac_ledger_Ledger_Total_10
def ac_ledger_Ledger_Total_12 : AC := .seq ac_ledger_Ledger_Total_3 ac_ledger_Ledger_Total_11
def ac_ledger_Ledger_Total_13 : AC := .loop [0, 3, 7, 8, 9] 1000000000 ac_ledger_Ledger_Total_12
def ac_ledger_Ledger_Total_14 : AC := .block 0 ac_ledger_Ledger_Total_13
def ac_ledger_Ledger_Total_15 : AC := .seq ac_ledger_Ledger_Total_2 ac_ledger_Ledger_Total_14
def l_ledger_Ledger_Total_16 : List AOp := [⟨(some 25), .mv (.t 3), none, none, [], none⟩,
  ⟨(some 2), .mv (.t 25), none, none, [], none⟩]
def ac_ledger_Ledger_Total_16 : AC := .reg l_ledger_Ledger_Total_16
def ac_ledger_Ledger_Total_17 : AC := .seq ac_ledger_Ledger_Total_16 .ret
def ac_ledger_Ledger_Total_18 : AC := .seq ac_ledger_Ledger_Total_15 ac_ledger_Ledger_Total_17
def ac_ledger_Ledger_Total_19 : AC := .seq ac_ledger_Ledger_Total_1 ac_ledger_Ledger_Total_18
def ac_ledger_Ledger_Total_20 : AC := .seq ac_ledger_Ledger_Total_0 ac_ledger_Ledger_Total_19
def ac_ledger_Ledger_Total : AC := ac_ledger_Ledger_Total_20
theorem comp_ledger_Ledger_Total : compF Try.prog [1000016] (drawR Try.prog [1000016] Try.f13.ntmps) [([0, 3, 7, 8, 9], 1000000000)] 1 Try.f13 = some (ac_ledger_Ledger_Total, [.t 2]) := by kernel_rfl
def U_ledger_Ledger_Total := (And.intro (And.intro (And.intro (And.intro (And.intro @ac_ledger_Ledger_Total.eq_1 (@mR _ _ ac_ledger_Ledger_Total_0.eq_1)) (And.intro (@mR _ _ ac_ledger_Ledger_Total_1.eq_1) (@mR _ _ ac_ledger_Ledger_Total_2.eq_1))) (And.intro (And.intro (@mR _ _ ac_ledger_Ledger_Total_3.eq_1) (@mU _ _ ac_ledger_Ledger_Total_4.eq_1)) (And.intro (@mR _ _ ac_ledger_Ledger_Total_5.eq_1) (@mR _ _ ac_ledger_Ledger_Total_6.eq_1)))) (And.intro (And.intro (And.intro (@mU _ _ ac_ledger_Ledger_Total_7.eq_1) (@mU _ _ ac_ledger_Ledger_Total_8.eq_1)) (And.intro (@mR _ _ ac_ledger_Ledger_Total_9.eq_1) (@mU _ _ ac_ledger_Ledger_Total_10.eq_1))) (And.intro (And.intro (@mU _ _ ac_ledger_Ledger_Total_11.eq_1) (@mU _ _ ac_ledger_Ledger_Total_12.eq_1)) (@mU _ _ ac_ledger_Ledger_Total_13.eq_1)))) (And.intro (And.intro (And.intro (And.intro (@mU _ _ ac_ledger_Ledger_Total_14.eq_1) (@mU _ _ ac_ledger_Ledger_Total_15.eq_1)) (And.intro (@mR _ _ ac_ledger_Ledger_Total_16.eq_1) (@mU _ _ ac_ledger_Ledger_Total_17.eq_1))) (And.intro (And.intro (@mU _ _ ac_ledger_Ledger_Total_18.eq_1) (@mU _ _ ac_ledger_Ledger_Total_19.eq_1)) (And.intro (@mU _ _ ac_ledger_Ledger_Total_20.eq_1) @l_ledger_Ledger_Total_0.eq_1))) (And.intro (And.intro (And.intro @l_ledger_Ledger_Total_1.eq_1 @l_ledger_Ledger_Total_2.eq_1) (And.intro @l_ledger_Ledger_Total_3.eq_1 @l_ledger_Ledger_Total_5.eq_1)) (And.intro (And.intro @l_ledger_Ledger_Total_6.eq_1 @l_ledger_Ledger_Total_9.eq_1) @l_ledger_Ledger_Total_16.eq_1))))

/- (*scoria/ledger.Ledger).Left -/
def l_ledger_Ledger_Left_0 : List AOp := [⟨(some 2), .mv (.k (.int .i64 0)), none, none, [], none⟩]
def ac_ledger_Ledger_Left_0 : AC := .reg l_ledger_Ledger_Left_0
def l_ledger_Ledger_Left_1 : List AOp := [⟨(some 3), .mv (.t 0), none, none, [], none⟩,
  ⟨(some 4), .isn .p false (.t 3), none, none, [], none⟩]
def ac_ledger_Ledger_Left_1 : AC := .reg l_ledger_Ledger_Left_1
def l_ledger_Ledger_Left_2 : List AOp := [⟨(some 2), .mv (.k (.int .i64 0)), none, none, [], none⟩]
def ac_ledger_Ledger_Left_2 : AC := .reg l_ledger_Ledger_Left_2
def ac_ledger_Ledger_Left_3 : AC := .seq ac_ledger_Ledger_Left_2 .ret
def ac_ledger_Ledger_Left_4 : AC := .cond (.t 4) ac_ledger_Ledger_Left_3 .skip
def ac_ledger_Ledger_Left_5 : AC := .seq ac_ledger_Ledger_Left_1 ac_ledger_Ledger_Left_4
def l_ledger_Ledger_Left_6 : List AOp := [⟨(some 5), .mv (.t 0), none, none, [], none⟩,
  ⟨(some 6), .nilck (.t 5), none, none, [], none⟩,
  ⟨(some 7), .faddr 0 (.t 6), none, none, [], none⟩,
  ⟨(some 8), .load none (.t 7), none, none, [], none⟩,
  ⟨(some 9), .mv (.t 0), none, none, [], none⟩,
  ⟨(some 10), .rcall 13 [(.t 9)], none, none, [], none⟩,
  ⟨(some 11), .bin .sub (.t 8) (.t 10), none, none, [], none⟩,
  ⟨(some 2), .mv (.t 11), none, none, [], none⟩]
def ac_ledger_Ledger_Left_6 : AC := .dreg 0 l_ledger_Ledger_Left_6
def ac_ledger_Ledger_Left_7 : AC := .seq ac_ledger_Ledger_Left_6 .ret
def ac_ledger_Ledger_Left_8 : AC := .seq ac_ledger_Ledger_Left_5 ac_ledger_Ledger_Left_7
def ac_ledger_Ledger_Left_9 : AC := .seq ac_ledger_Ledger_Left_0 ac_ledger_Ledger_Left_8
def ac_ledger_Ledger_Left : AC := ac_ledger_Ledger_Left_9
theorem comp_ledger_Ledger_Left : compF Try.prog [4000013] (drawR Try.prog [4000013] Try.f14.ntmps) [] 1 Try.f14 = some (ac_ledger_Ledger_Left, [.t 2]) := by kernel_rfl
def U_ledger_Ledger_Left := (And.intro (And.intro (And.intro (And.intro @ac_ledger_Ledger_Left.eq_1 (@mR _ _ ac_ledger_Ledger_Left_0.eq_1)) (And.intro (@mR _ _ ac_ledger_Ledger_Left_1.eq_1) (@mR _ _ ac_ledger_Ledger_Left_2.eq_1))) (And.intro (And.intro (@mU _ _ ac_ledger_Ledger_Left_3.eq_1) (@mU _ _ ac_ledger_Ledger_Left_4.eq_1)) (And.intro (@mU _ _ ac_ledger_Ledger_Left_5.eq_1) (@mD _ _ _ ac_ledger_Ledger_Left_6.eq_1)))) (And.intro (And.intro (And.intro (@mU _ _ ac_ledger_Ledger_Left_7.eq_1) (@mU _ _ ac_ledger_Ledger_Left_8.eq_1)) (And.intro (@mU _ _ ac_ledger_Ledger_Left_9.eq_1) @l_ledger_Ledger_Left_0.eq_1)) (And.intro (And.intro @l_ledger_Ledger_Left_1.eq_1 @l_ledger_Ledger_Left_2.eq_1) @l_ledger_Ledger_Left_6.eq_1)))

/- (*scoria/ledger.Ledger).Close -/
def l_ledger_Ledger_Close_0 : List AOp := [⟨(some 4), .mv (.k (.int .i64 0)), none, none, [], none⟩,
  ⟨(some 5), .mv (.k (.int .i64 0)), none, none, [], none⟩]
def ac_ledger_Ledger_Close_0 : AC := .reg l_ledger_Ledger_Close_0
def l_ledger_Ledger_Close_1 : List AOp := [⟨(some 8), .mv (.t 0), none, none, [], none⟩,
  ⟨(some 9), .mv (.t 1), none, none, [], none⟩,
  ⟨(some 10), .icall 24 [(.t 8), (.t 9)], none, none, [], none⟩,
  ⟨(some 7), .mv (.t 10), none, none, [], none⟩,
  ⟨(some 11), .ext 0 (.t 7), none, none, [], none⟩,
  ⟨(some 12), .ext 1 (.t 7), none, none, [], none⟩,
  ⟨(some 6), .mv (.t 11), none, none, [], none⟩,
  ⟨(some 5), .mv (.t 12), none, none, [], none⟩]
def ac_ledger_Ledger_Close_1 : AC := .reg l_ledger_Ledger_Close_1
def l_ledger_Ledger_Close_2 : List AOp := [⟨(some 13), .mv (.t 5), none, none, [], none⟩,
  ⟨(some 14), .bin .neq (.t 13) (.k (.int .i64 0)), none, none, [], none⟩]
def ac_ledger_Ledger_Close_2 : AC := .reg l_ledger_Ledger_Close_2
def l_ledger_Ledger_Close_3 : List AOp := [⟨(some 15), .mv (.t 5), none, none, [], none⟩,
  ⟨(some 4), .mv (.k (.int .i64 0)), none, none, [], none⟩,
  ⟨(some 5), .mv (.t 15), none, none, [], none⟩]
def ac_ledger_Ledger_Close_3 : AC := .reg l_ledger_Ledger_Close_3
def ac_ledger_Ledger_Close_4 : AC := .seq ac_ledger_Ledger_Close_3 .ret
def ac_ledger_Ledger_Close_5 : AC := .cond (.t 14) ac_ledger_Ledger_Close_4 .skip
def ac_ledger_Ledger_Close_6 : AC := .seq ac_ledger_Ledger_Close_2 ac_ledger_Ledger_Close_5
def l_ledger_Ledger_Close_7 : List AOp := [⟨(some 16), .mv (.t 0), none, none, [], none⟩,
  ⟨(some 17), .nilck (.t 16), none, none, [], none⟩,
  ⟨(some 18), .faddr 1 (.t 17), none, none, [], none⟩,
  ⟨(some 19), .load none (.t 18), none, none, [], none⟩,
  ⟨(some 20), .mv (.t 1), none, none, [], none⟩,
  ⟨none, .mop .del [(.t 19), (.t 20)], none, none, [], none⟩]
def ac_ledger_Ledger_Close_7 : AC := .reg l_ledger_Ledger_Close_7
def l_ledger_Ledger_Close_8 : List AOp := [⟨(some 21), .mv (.t 6), none, none, [], none⟩,
  ⟨(some 22), .nilck (.t 21), none, none, [], none⟩,
  ⟨(some 23), .faddr 1 (.t 22), none, none, [], none⟩,
  ⟨(some 24), .load none (.t 23), none, none, [], none⟩,
  ⟨(some 4), .mv (.t 24), none, none, [], none⟩,
  ⟨(some 5), .mv (.k (.int .i64 0)), none, none, [], none⟩]
def ac_ledger_Ledger_Close_8 : AC := .reg l_ledger_Ledger_Close_8
def ac_ledger_Ledger_Close_9 : AC := .seq ac_ledger_Ledger_Close_8 .ret
def ac_ledger_Ledger_Close_10 : AC := .seq ac_ledger_Ledger_Close_7 ac_ledger_Ledger_Close_9
def ac_ledger_Ledger_Close_11 : AC := .seq ac_ledger_Ledger_Close_6 ac_ledger_Ledger_Close_10
def ac_ledger_Ledger_Close_12 : AC := .seq ac_ledger_Ledger_Close_1 ac_ledger_Ledger_Close_11
def ac_ledger_Ledger_Close_13 : AC := .seq ac_ledger_Ledger_Close_0 ac_ledger_Ledger_Close_12
def ac_ledger_Ledger_Close : AC := ac_ledger_Ledger_Close_13
theorem comp_ledger_Ledger_Close : compF Try.prog [1000024] (drawR Try.prog [1000024] Try.f15.ntmps) [] 2 Try.f15 = some (ac_ledger_Ledger_Close, [.t 4, .t 5]) := by kernel_rfl
def U_ledger_Ledger_Close := (And.intro (And.intro (And.intro (And.intro (And.intro @ac_ledger_Ledger_Close.eq_1 (@mR _ _ ac_ledger_Ledger_Close_0.eq_1)) (@mR _ _ ac_ledger_Ledger_Close_1.eq_1)) (And.intro (And.intro (@mR _ _ ac_ledger_Ledger_Close_2.eq_1) (@mR _ _ ac_ledger_Ledger_Close_3.eq_1)) (@mU _ _ ac_ledger_Ledger_Close_4.eq_1))) (And.intro (And.intro (And.intro (@mU _ _ ac_ledger_Ledger_Close_5.eq_1) (@mU _ _ ac_ledger_Ledger_Close_6.eq_1)) (@mR _ _ ac_ledger_Ledger_Close_7.eq_1)) (And.intro (@mR _ _ ac_ledger_Ledger_Close_8.eq_1) (@mU _ _ ac_ledger_Ledger_Close_9.eq_1)))) (And.intro (And.intro (And.intro (And.intro (@mU _ _ ac_ledger_Ledger_Close_10.eq_1) (@mU _ _ ac_ledger_Ledger_Close_11.eq_1)) (@mU _ _ ac_ledger_Ledger_Close_12.eq_1)) (And.intro (@mU _ _ ac_ledger_Ledger_Close_13.eq_1) @l_ledger_Ledger_Close_0.eq_1)) (And.intro (And.intro (And.intro @l_ledger_Ledger_Close_1.eq_1 @l_ledger_Ledger_Close_2.eq_1) @l_ledger_Ledger_Close_3.eq_1) (And.intro @l_ledger_Ledger_Close_7.eq_1 @l_ledger_Ledger_Close_8.eq_1))))

/- (*scoria/ledger.Ledger).IDs -/
def l_ledger_Ledger_IDs_0 : List AOp := [⟨(some 2), .mv (.k (.slc [])), none, none, [], none⟩]
def ac_ledger_Ledger_IDs_0 : AC := .reg l_ledger_Ledger_IDs_0
def l_ledger_Ledger_IDs_1 : List AOp := [⟨(some 3), .mv (.t 0), none, none, [], none⟩,
  ⟨(some 4), .isn .p false (.t 3), none, none, [], none⟩]
def ac_ledger_Ledger_IDs_1 : AC := .reg l_ledger_Ledger_IDs_1
def l_ledger_Ledger_IDs_2 : List AOp := [⟨(some 2), .mv (.k (.slc [])), none, none, [], none⟩]
def ac_ledger_Ledger_IDs_2 : AC := .reg l_ledger_Ledger_IDs_2
def ac_ledger_Ledger_IDs_3 : AC := .seq ac_ledger_Ledger_IDs_2 .ret
def ac_ledger_Ledger_IDs_4 : AC := .cond (.t 4) ac_ledger_Ledger_IDs_3 .skip
def ac_ledger_Ledger_IDs_5 : AC := .seq ac_ledger_Ledger_IDs_1 ac_ledger_Ledger_IDs_4
def l_ledger_Ledger_IDs_6 : List AOp := [⟨(some 5), .mv (.t 0), none, none, [], none⟩,
  ⟨(some 6), .nilck (.t 5), none, none, [], none⟩,
  ⟨(some 7), .faddr 1 (.t 6), none, none, [], none⟩,
  ⟨(some 8), .load none (.t 7), none, none, [], none⟩,
  ⟨(some 9), .icall 26 [(.t 8)], none, none, [], none⟩,
  ⟨(some 10), .icall 25 [(.t 9)], none, none, [], none⟩,
  ⟨(some 2), .mv (.t 10), none, none, [], none⟩]
def ac_ledger_Ledger_IDs_6 : AC := .reg l_ledger_Ledger_IDs_6
def ac_ledger_Ledger_IDs_7 : AC := .seq ac_ledger_Ledger_IDs_6 .ret
def ac_ledger_Ledger_IDs_8 : AC := .seq ac_ledger_Ledger_IDs_5 ac_ledger_Ledger_IDs_7
def ac_ledger_Ledger_IDs_9 : AC := .seq ac_ledger_Ledger_IDs_0 ac_ledger_Ledger_IDs_8
def ac_ledger_Ledger_IDs : AC := ac_ledger_Ledger_IDs_9
theorem comp_ledger_Ledger_IDs : compF Try.prog [1000026, 1000025] (drawR Try.prog [1000026, 1000025] Try.f16.ntmps) [] 1 Try.f16 = some (ac_ledger_Ledger_IDs, [.t 2]) := by kernel_rfl
def U_ledger_Ledger_IDs := (And.intro (And.intro (And.intro (And.intro @ac_ledger_Ledger_IDs.eq_1 (@mR _ _ ac_ledger_Ledger_IDs_0.eq_1)) (And.intro (@mR _ _ ac_ledger_Ledger_IDs_1.eq_1) (@mR _ _ ac_ledger_Ledger_IDs_2.eq_1))) (And.intro (And.intro (@mU _ _ ac_ledger_Ledger_IDs_3.eq_1) (@mU _ _ ac_ledger_Ledger_IDs_4.eq_1)) (And.intro (@mU _ _ ac_ledger_Ledger_IDs_5.eq_1) (@mR _ _ ac_ledger_Ledger_IDs_6.eq_1)))) (And.intro (And.intro (And.intro (@mU _ _ ac_ledger_Ledger_IDs_7.eq_1) (@mU _ _ ac_ledger_Ledger_IDs_8.eq_1)) (And.intro (@mU _ _ ac_ledger_Ledger_IDs_9.eq_1) @l_ledger_Ledger_IDs_0.eq_1)) (And.intro (And.intro @l_ledger_Ledger_IDs_1.eq_1 @l_ledger_Ledger_IDs_2.eq_1) @l_ledger_Ledger_IDs_6.eq_1)))

/- (*scoria/ledger.Ledger).Of -/
def l_ledger_Ledger_Of_0 : List AOp := [⟨(some 4), .mv (.k (.int .i64 0)), none, none, [], none⟩,
  ⟨(some 5), .mv (.k (.int .i64 0)), none, none, [], none⟩,
  ⟨(some 6), .mv (.k (.int .i64 0)), none, none, [], none⟩]
def ac_ledger_Ledger_Of_0 : AC := .reg l_ledger_Ledger_Of_0
def l_ledger_Ledger_Of_1 : List AOp := [⟨(some 9), .mv (.t 0), none, none, [], none⟩,
  ⟨(some 10), .mv (.t 1), none, none, [], none⟩,
  ⟨(some 11), .icall 24 [(.t 9), (.t 10)], none, none, [], none⟩,
  ⟨(some 8), .mv (.t 11), none, none, [], none⟩,
  ⟨(some 12), .ext 0 (.t 8), none, none, [], none⟩,
  ⟨(some 13), .ext 1 (.t 8), none, none, [], none⟩,
  ⟨(some 7), .mv (.t 12), none, none, [], none⟩,
  ⟨(some 6), .mv (.t 13), none, none, [], none⟩]
def ac_ledger_Ledger_Of_1 : AC := .reg l_ledger_Ledger_Of_1
def l_ledger_Ledger_Of_2 : List AOp := [⟨(some 14), .mv (.t 6), none, none, [], none⟩,
  ⟨(some 15), .bin .neq (.t 14) (.k (.int .i64 0)), none, none, [], none⟩]
def ac_ledger_Ledger_Of_2 : AC := .reg l_ledger_Ledger_Of_2
def l_ledger_Ledger_Of_3 : List AOp := [⟨(some 16), .mv (.t 6), none, none, [], none⟩,
  ⟨(some 4), .mv (.k (.int .i64 0)), none, none, [], none⟩,
  ⟨(some 5), .mv (.k (.int .i64 0)), none, none, [], none⟩,
  ⟨(some 6), .mv (.t 16), none, none, [], none⟩]
def ac_ledger_Ledger_Of_3 : AC := .reg l_ledger_Ledger_Of_3
def ac_ledger_Ledger_Of_4 : AC := .seq ac_ledger_Ledger_Of_3 .ret
def ac_ledger_Ledger_Of_5 : AC := .cond (.t 15) ac_ledger_Ledger_Of_4 .skip
def ac_ledger_Ledger_Of_6 : AC := .seq ac_ledger_Ledger_Of_2 ac_ledger_Ledger_Of_5
def l_ledger_Ledger_Of_7 : List AOp := [⟨(some 17), .mv (.t 7), none, none, [], none⟩,
  ⟨(some 18), .nilck (.t 17), none, none, [], none⟩,
  ⟨(some 19), .faddr 0 (.t 18), none, none, [], none⟩,
  ⟨(some 20), .load none (.t 19), none, none, [], none⟩,
  ⟨(some 21), .mv (.t 7), none, none, [], none⟩,
  ⟨(some 22), .nilck (.t 21), none, none, [], none⟩,
  ⟨(some 23), .faddr 1 (.t 22), none, none, [], none⟩,
  ⟨(some 24), .load none (.t 23), none, none, [], none⟩,
  ⟨(some 4), .mv (.t 20), none, none, [], none⟩,
  ⟨(some 5), .mv (.t 24), none, none, [], none⟩,
  ⟨(some 6), .mv (.k (.int .i64 0)), none, none, [], none⟩]
def ac_ledger_Ledger_Of_7 : AC := .dreg 0 l_ledger_Ledger_Of_7
def ac_ledger_Ledger_Of_8 : AC := .seq ac_ledger_Ledger_Of_7 .ret
def ac_ledger_Ledger_Of_9 : AC := .seq ac_ledger_Ledger_Of_6 ac_ledger_Ledger_Of_8
def ac_ledger_Ledger_Of_10 : AC := .seq ac_ledger_Ledger_Of_1 ac_ledger_Ledger_Of_9
def ac_ledger_Ledger_Of_11 : AC := .seq ac_ledger_Ledger_Of_0 ac_ledger_Ledger_Of_10
def ac_ledger_Ledger_Of : AC := ac_ledger_Ledger_Of_11
theorem comp_ledger_Ledger_Of : compF Try.prog [1000024] (drawR Try.prog [1000024] Try.f17.ntmps) [] 2 Try.f17 = some (ac_ledger_Ledger_Of, [.t 4, .t 5, .t 6]) := by kernel_rfl
def U_ledger_Ledger_Of := (And.intro (And.intro (And.intro (And.intro (And.intro @ac_ledger_Ledger_Of.eq_1 (@mR _ _ ac_ledger_Ledger_Of_0.eq_1)) (@mR _ _ ac_ledger_Ledger_Of_1.eq_1)) (And.intro (@mR _ _ ac_ledger_Ledger_Of_2.eq_1) (@mR _ _ ac_ledger_Ledger_Of_3.eq_1))) (And.intro (And.intro (@mU _ _ ac_ledger_Ledger_Of_4.eq_1) (@mU _ _ ac_ledger_Ledger_Of_5.eq_1)) (And.intro (@mU _ _ ac_ledger_Ledger_Of_6.eq_1) (@mD _ _ _ ac_ledger_Ledger_Of_7.eq_1)))) (And.intro (And.intro (And.intro (And.intro (@mU _ _ ac_ledger_Ledger_Of_8.eq_1) (@mU _ _ ac_ledger_Ledger_Of_9.eq_1)) (@mU _ _ ac_ledger_Ledger_Of_10.eq_1)) (And.intro (@mU _ _ ac_ledger_Ledger_Of_11.eq_1) @l_ledger_Ledger_Of_0.eq_1)) (And.intro (And.intro @l_ledger_Ledger_Of_1.eq_1 @l_ledger_Ledger_Of_2.eq_1) (And.intro @l_ledger_Ledger_Of_3.eq_1 @l_ledger_Ledger_Of_7.eq_1))))

/- (*scoria/ledger.Ledger).Credit -/
def l_ledger_Ledger_Credit_0 : List AOp := [⟨(some 6), .mv (.k (.int .i64 0)), none, none, [], none⟩]
def ac_ledger_Ledger_Credit_0 : AC := .reg l_ledger_Ledger_Credit_0
def l_ledger_Ledger_Credit_1 : List AOp := [⟨(some 9), .mv (.t 2), none, none, [], none⟩,
  ⟨(some 10), .bin .lss (.t 9) (.k (.int .i64 0)), none, none, [], none⟩]
def ac_ledger_Ledger_Credit_1 : AC := .reg l_ledger_Ledger_Credit_1
def l_ledger_Ledger_Credit_2 : List AOp := [⟨(some 6), .mv (.k (.int .i64 1)), none, none, [], none⟩]
def ac_ledger_Ledger_Credit_2 : AC := .reg l_ledger_Ledger_Credit_2
def ac_ledger_Ledger_Credit_3 : AC := .seq ac_ledger_Ledger_Credit_2 .ret
def ac_ledger_Ledger_Credit_4 : AC := .cond (.t 10) ac_ledger_Ledger_Credit_3 .skip
def ac_ledger_Ledger_Credit_5 : AC := .seq ac_ledger_Ledger_Credit_1 ac_ledger_Ledger_Credit_4
def l_ledger_Ledger_Credit_6 : List AOp := [⟨(some 12), .mv (.t 0), none, none, [], none⟩,
  ⟨(some 13), .mv (.t 1), none, none, [], none⟩,
  ⟨(some 14), .icall 24 [(.t 12), (.t 13)], none, none, [], none⟩,
  ⟨(some 11), .mv (.t 14), none, none, [], none⟩,
  ⟨(some 15), .ext 0 (.t 11), none, none, [], none⟩,
  ⟨(some 16), .ext 1 (.t 11), none, none, [], none⟩,
  ⟨(some 7), .mv (.t 15), none, none, [], none⟩,
  ⟨(some 8), .mv (.t 16), none, none, [], none⟩]
def ac_ledger_Ledger_Credit_6 : AC := .reg l_ledger_Ledger_Credit_6
def l_ledger_Ledger_Credit_7 : List AOp := [⟨(some 18), .mv (.t 8), none, none, [], none⟩,
  ⟨(some 19), .bin .neq (.t 18) (.k (.int .i64 0)), none, none, [], none⟩,
  ⟨(some 17), .mv (.t 19), none, none, [], none⟩]
def ac_ledger_Ledger_Credit_7 : AC := .reg l_ledger_Ledger_Credit_7
def l_ledger_Ledger_Credit_8 : List AOp := [⟨(some 20), .mv (.t 8), none, none, [], none⟩,
  ⟨(some 6), .mv (.t 20), none, none, [], none⟩]
def ac_ledger_Ledger_Credit_8 : AC := .reg l_ledger_Ledger_Credit_8
def ac_ledger_Ledger_Credit_9 : AC := .seq ac_ledger_Ledger_Credit_8 .ret
def l_ledger_Ledger_Credit_10 : List AOp := [⟨(some 22), .mv (.t 2), none, none, [], none⟩,
  ⟨(some 23), .mv (.t 7), none, none, [], none⟩,
  ⟨(some 24), .nilck (.t 23), none, none, [], none⟩,
  ⟨(some 25), .faddr 1 (.t 24), none, none, [], none⟩,
  ⟨(some 26), .load none (.t 25), none, none, [], none⟩,
  ⟨(some 27), .bin .gtr (.t 22) (.t 26), none, none, [], none⟩,
  ⟨(some 21), .mv (.t 27), none, none, [], none⟩]
def ac_ledger_Ledger_Credit_10 : AC := .reg l_ledger_Ledger_Credit_10
def l_ledger_Ledger_Credit_11 : List AOp := [⟨(some 6), .mv (.k (.int .i64 1)), none, none, [], none⟩]
def ac_ledger_Ledger_Credit_11 : AC := .reg l_ledger_Ledger_Credit_11
def ac_ledger_Ledger_Credit_12 : AC := .seq ac_ledger_Ledger_Credit_11 .ret
def ac_ledger_Ledger_Credit_13 : AC := .cond (.t 21) ac_ledger_Ledger_Credit_12 .skip
def ac_ledger_Ledger_Credit_14 : AC := .seq ac_ledger_Ledger_Credit_10 ac_ledger_Ledger_Credit_13
def ac_ledger_Ledger_Credit_15 : AC := .cond (.t 17) ac_ledger_Ledger_Credit_9 ac_ledger_Ledger_Credit_14
def ac_ledger_Ledger_Credit_16 : AC := .seq ac_ledger_Ledger_Credit_7 ac_ledger_Ledger_Credit_15
def ac_ledger_Ledger_Credit_17 : AC := .block 0 ac_ledger_Ledger_Credit_16
def l_ledger_Ledger_Credit_18 : List AOp := [⟨(some 28), .mv (.t 7), none, none, [], none⟩,
  ⟨(some 29), .nilck (.t 28), none, none, [], none⟩,
  ⟨(some 30), .faddr 1 (.t 29), none, none, [], none⟩,
  ⟨(some 31), .load none (.t 30), none, none, [], none⟩,
  ⟨(some 32), .mv (.t 2), none, none, [], none⟩,
  ⟨(some 33), .bin .sub (.t 31) (.t 32), none, none, [], none⟩,
  ⟨(some 34), .nilck (.t 28), none, none, [], none⟩,
  ⟨(some 35), .faddr 1 (.t 34), none, none, [], none⟩,
  ⟨none, .store 1 (.t 35) (.t 33), none, none, [], none⟩]
def ac_ledger_Ledger_Credit_18 : AC := .reg l_ledger_Ledger_Credit_18
def l_ledger_Ledger_Credit_19 : List AOp := [⟨(some 6), .mv (.k (.int .i64 0)), none, none, [], none⟩]
def ac_ledger_Ledger_Credit_19 : AC := .reg l_ledger_Ledger_Credit_19
def ac_ledger_Ledger_Credit_20 : AC := .seq ac_ledger_Ledger_Credit_19 .ret
def ac_ledger_Ledger_Credit_21 : AC := .seq ac_ledger_Ledger_Credit_18 ac_ledger_Ledger_Credit_20
def ac_ledger_Ledger_Credit_22 : AC := .seq ac_ledger_Ledger_Credit_17 ac_ledger_Ledger_Credit_21
def ac_ledger_Ledger_Credit_23 : AC := .seq ac_ledger_Ledger_Credit_6 ac_ledger_Ledger_Credit_22
def ac_ledger_Ledger_Credit_24 : AC := .seq ac_ledger_Ledger_Credit_5 ac_ledger_Ledger_Credit_23
def ac_ledger_Ledger_Credit_25 : AC := .seq ac_ledger_Ledger_Credit_0 ac_ledger_Ledger_Credit_24
def ac_ledger_Ledger_Credit : AC := ac_ledger_Ledger_Credit_25
theorem comp_ledger_Ledger_Credit : compF Try.prog [1000024] (drawR Try.prog [1000024] Try.f18.ntmps) [] 3 Try.f18 = some (ac_ledger_Ledger_Credit, [.t 6]) := by kernel_rfl
def U_ledger_Ledger_Credit := (And.intro (And.intro (And.intro (And.intro (And.intro (And.intro @ac_ledger_Ledger_Credit.eq_1 (@mR _ _ ac_ledger_Ledger_Credit_0.eq_1)) (@mR _ _ ac_ledger_Ledger_Credit_1.eq_1)) (And.intro (@mR _ _ ac_ledger_Ledger_Credit_2.eq_1) (@mU _ _ ac_ledger_Ledger_Credit_3.eq_1))) (And.intro (And.intro (And.intro (@mU _ _ ac_ledger_Ledger_Credit_4.eq_1) (@mU _ _ ac_ledger_Ledger_Credit_5.eq_1)) (@mR _ _ ac_ledger_Ledger_Credit_6.eq_1)) (And.intro (@mR _ _ ac_ledger_Ledger_Credit_7.eq_1) (@mR _ _ ac_ledger_Ledger_Credit_8.eq_1)))) (And.intro (And.intro (And.intro (And.intro (@mU _ _ ac_ledger_Ledger_Credit_9.eq_1) (@mR _ _ ac_ledger_Ledger_Credit_10.eq_1)) (@mR _ _ ac_ledger_Ledger_Credit_11.eq_1)) (And.intro (@mU _ _ ac_ledger_Ledger_Credit_12.eq_1) (@mU _ _ ac_ledger_Ledger_Credit_13.eq_1))) (And.intro (And.intro (@mU _ _ ac_ledger_Ledger_Credit_14.eq_1) (@mU _ _ ac_ledger_Ledger_Credit_15.eq_1)) (And.intro (@mU _ _ ac_ledger_Ledger_Credit_16.eq_1) (@mU _ _ ac_ledger_Ledger_Credit_17.eq_1))))) (And.intro (And.intro (And.intro (And.intro (And.intro (@mR _ _ ac_ledger_Ledger_Credit_18.eq_1) (@mR _ _ ac_ledger_Ledger_Credit_19.eq_1)) (@mU _ _ ac_ledger_Ledger_Credit_20.eq_1)) (And.intro (@mU _ _ ac_ledger_Ledger_Credit_21.eq_1) (@mU _ _ ac_ledger_Ledger_Credit_22.eq_1))) (And.intro (And.intro (@mU _ _ ac_ledger_Ledger_Credit_23.eq_1) (@mU _ _ ac_ledger_Ledger_Credit_24.eq_1)) (And.intro (@mU _ _ ac_ledger_Ledger_Credit_25.eq_1) @l_ledger_Ledger_Credit_0.eq_1))) (And.intro (And.intro (And.intro (And.intro @l_ledger_Ledger_Credit_1.eq_1 @l_ledger_Ledger_Credit_2.eq_1) @l_ledger_Ledger_Credit_6.eq_1) (And.intro @l_ledger_Ledger_Credit_7.eq_1 @l_ledger_Ledger_Credit_8.eq_1)) (And.intro (And.intro @l_ledger_Ledger_Credit_10.eq_1 @l_ledger_Ledger_Credit_11.eq_1) (And.intro @l_ledger_Ledger_Credit_18.eq_1 @l_ledger_Ledger_Credit_19.eq_1)))))

/- scoria/scoriaref13.New -/
def l_ref13_New_0 : List AOp := [⟨(some 2), .alloc [(.int .i64 0), (.slc [])], none, none, [], none⟩]
def ac_ref13_New_0 : AC := .reg l_ref13_New_0
def l_ref13_New_1 : List AOp := [⟨(some 3), .mv (.t 0), none, none, [], none⟩,
  ⟨(some 4), .bin .lss (.t 3) (.k (.int .i64 0)), none, none, [], none⟩]
def ac_ref13_New_1 : AC := .reg l_ref13_New_1
def l_ref13_New_2 : List AOp := [⟨(some 5), .build [(.int .i64 0), (.slc [])] [], none, none, [], none⟩,
  ⟨none, .store 2 (.t 2) (.t 5), none, none, [], none⟩]
def ac_ref13_New_2 : AC := .reg l_ref13_New_2
def ac_ref13_New_3 : AC := .seq ac_ref13_New_2 .ret
def ac_ref13_New_4 : AC := .cond (.t 4) ac_ref13_New_3 .skip
def ac_ref13_New_5 : AC := .seq ac_ref13_New_1 ac_ref13_New_4
def l_ref13_New_6 : List AOp := [⟨(some 6), .mv (.t 0), none, none, [], none⟩,
  ⟨(some 7), .build [(.int .i64 0), (.slc [])] [(0, 1, (.t 6))], none, none, [], none⟩,
  ⟨none, .store 2 (.t 2) (.t 7), none, none, [], none⟩]
def ac_ref13_New_6 : AC := .reg l_ref13_New_6
def ac_ref13_New_7 : AC := .seq ac_ref13_New_6 .ret
def ac_ref13_New_8 : AC := .seq ac_ref13_New_5 ac_ref13_New_7
def ac_ref13_New_9 : AC := .seq ac_ref13_New_0 ac_ref13_New_8
def ac_ref13_New : AC := ac_ref13_New_9
theorem comp_ref13_New : compF Try.prog [] (drawR Try.prog [] Try.f19.ntmps) [] 1 Try.f19 = some (ac_ref13_New, [.c 2 (some 2)]) := by kernel_rfl
def U_ref13_New := (And.intro (And.intro (And.intro (And.intro @ac_ref13_New.eq_1 (@mR _ _ ac_ref13_New_0.eq_1)) (And.intro (@mR _ _ ac_ref13_New_1.eq_1) (@mR _ _ ac_ref13_New_2.eq_1))) (And.intro (And.intro (@mU _ _ ac_ref13_New_3.eq_1) (@mU _ _ ac_ref13_New_4.eq_1)) (And.intro (@mU _ _ ac_ref13_New_5.eq_1) (@mR _ _ ac_ref13_New_6.eq_1)))) (And.intro (And.intro (And.intro (@mU _ _ ac_ref13_New_7.eq_1) (@mU _ _ ac_ref13_New_8.eq_1)) (And.intro (@mU _ _ ac_ref13_New_9.eq_1) @l_ref13_New_0.eq_1)) (And.intro (And.intro @l_ref13_New_1.eq_1 @l_ref13_New_2.eq_1) @l_ref13_New_6.eq_1)))

/- scoria/scorialaw13.does -/
def l_law13_does_0 : List AOp := [⟨(some 4), .box (.t 1), none, none, [], none⟩,
  ⟨(some 5), .box (.t 2), none, none, [], none⟩,
  ⟨(some 6), .alloc [(.int .i64 0), (.slc [])], none, none, [], none⟩,
  ⟨(some 7), .mv (.k (.bool false)), none, none, [], none⟩]
def ac_law13_does_0 : AC := .reg l_law13_does_0
def l_law13_does_1 : List AOp := [⟨(some 8), .mv (.k (.int .i64 0)), none, none, [], none⟩,
  ⟨(some 9), .mv (.k (.int .i64 0)), none, none, [], none⟩]
def ac_law13_does_1 : AC := .reg l_law13_does_1
def l_law13_does_2 : List AOp := [⟨(some 15), .faddr 0 (.t 5), none, none, [], none⟩,
  ⟨(some 16), .load none (.t 15), none, none, [], none⟩]
def ac_law13_does_2 : AC := .reg l_law13_does_2
def l_law13_does_3 : List AOp := [⟨(some 18), .bin .eql (.t 16) (.k (.int .i64 0)), none, none, [], none⟩,
  ⟨(some 17), .mv (.t 18), none, none, [], none⟩]
def ac_law13_does_3 : AC := .reg l_law13_does_3
def l_law13_does_4 : List AOp := [⟨(some 20), .load (some 2) (.t 4), none, none, [], none⟩,
  ⟨(some 21), .faddr 1 (.t 5), none, none, [], none⟩,
  ⟨(some 22), .load none (.t 21), none, none, [], none⟩,
  ⟨(some 23), .faddr 2 (.t 5), none, none, [], none⟩,
  ⟨(some 24), .load none (.t 23), none, none, [], none⟩,
  ⟨(some 25), .call false 27 [(.t 20), (.t 22), (.t 24)], none, none, [], none⟩,
  ⟨(some 19), .mv (.t 25), none, none, [], none⟩,
  ⟨(some 26), .ext 0 (.t 19), none, none, [], none⟩,
  ⟨(some 27), .ext 1 (.t 19), none, none, [], none⟩,
  ⟨none, .store 2 (.t 4) (.t 26), none, none, [], none⟩,
  ⟨(some 8), .mv (.t 27), none, none, [], none⟩]
def ac_law13_does_4 : AC := .reg l_law13_does_4
def l_law13_does_5 : List AOp := [⟨(some 28), .mv (.t 0), none, none, [], none⟩,
  ⟨(some 29), .faddr 1 (.t 5), none, none, [], none⟩,
  ⟨(some 30), .load none (.t 29), none, none, [], none⟩,
  ⟨(some 31), .faddr 2 (.t 5), none, none, [], none⟩,
  ⟨(some 32), .load none (.t 31), none, none, [], none⟩,
  ⟨(some 33), .icall 11 [(.t 28), (.t 30), (.t 32)], none, none, [], none⟩,
  ⟨(some 9), .mv (.t 33), none, none, [], none⟩]
def ac_law13_does_5 : AC := .reg l_law13_does_5
def ac_law13_does_6 : AC := .seq ac_law13_does_4 ac_law13_does_5
def l_law13_does_7 : List AOp := [⟨(some 35), .bin .eql (.t 16) (.k (.int .i64 1)), none, none, [], none⟩,
  ⟨(some 34), .mv (.t 35), none, none, [], none⟩]
def ac_law13_does_7 : AC := .reg l_law13_does_7
def l_law13_does_8 : List AOp := [⟨(some 37), .load (some 2) (.t 4), none, none, [], none⟩,
  ⟨(some 38), .faddr 1 (.t 5), none, none, [], none⟩,
  ⟨(some 39), .load none (.t 38), none, none, [], none⟩,
  ⟨(some 40), .call false 28 [(.t 37), (.t 39)], none, none, [], none⟩,
  ⟨(some 36), .mv (.t 40), none, none, [], none⟩,
  ⟨(some 41), .ext 0 (.t 36), none, none, [], none⟩,
  ⟨(some 42), .ext 1 (.t 36), none, none, [], none⟩,
  ⟨(some 43), .ext 2 (.t 36), none, none, [], none⟩,
  ⟨(some 10), .alloc [(.int .i64 0), (.slc [])], none, none, [], none⟩,
  ⟨none, .store 2 (.t 10) (.t 41), none, none, [], none⟩,
  ⟨(some 11), .mv (.t 42), none, none, [], none⟩,
  ⟨(some 12), .mv (.t 43), none, none, [], none⟩]
def ac_law13_does_8 : AC := .reg l_law13_does_8
def l_law13_does_9 : List AOp := [⟨(some 45), .mv (.t 0), none, none, [], none⟩,
  ⟨(some 46), .faddr 1 (.t 5), none, none, [], none⟩,
  ⟨(some 47), .load none (.t 46), none, none, [], none⟩,
  ⟨(some 48), .icall 15 [(.t 45), (.t 47)], none, none, [], none⟩,
  ⟨(some 44), .mv (.t 48), none, none, [], none⟩,
  ⟨(some 49), .ext 0 (.t 44), none, none, [], none⟩,
  ⟨(some 50), .ext 1 (.t 44), none, none, [], none⟩,
  ⟨(some 13), .mv (.t 49), none, none, [], none⟩,
  ⟨(some 14), .mv (.t 50), none, none, [], none⟩]
def ac_law13_does_9 : AC := .reg l_law13_does_9
def l_law13_does_10 : List AOp := [⟨(some 51), .load (some 2) (.t 10), none, none, [], none⟩,
  ⟨(some 52), .mv (.t 13), none, none, [], none⟩,
  ⟨(some 53), .mv (.t 11), none, none, [], none⟩,
  ⟨(some 54), .bin .eql (.t 52) (.t 53), none, none, [], none⟩,
  ⟨(some 55), .mv (.t 54), none, none, [], none⟩,
  ⟨(some 56), .mv (.t 14), (some (55, true)), none, [], none⟩,
  ⟨(some 57), .mv (.t 12), (some (55, true)), none, [], none⟩,
  ⟨(some 58), .bin .eql (.t 56) (.t 57), (some (55, true)), none, [], none⟩,
  ⟨(some 59), .pick (.t 55) (.t 58) (.k (.bool false)), none, none, [], none⟩,
  ⟨none, .store 2 (.t 6) (.t 51), none, none, [], none⟩,
  ⟨(some 7), .mv (.t 59), none, none, [], none⟩]
def ac_law13_does_10 : AC := .reg l_law13_does_10
def ac_law13_does_11 : AC := .seq ac_law13_does_10 .ret
def ac_law13_does_12 : AC := .seq ac_law13_does_9 ac_law13_does_11
def ac_law13_does_13 : AC := .seq ac_law13_does_8 ac_law13_does_12
def l_law13_does_14 : List AOp := [⟨(some 61), .bin .eql (.t 16) (.k (.int .i64 2)), none, none, [], none⟩,
  ⟨(some 60), .mv (.t 61), none, none, [], none⟩]
def ac_law13_does_14 : AC := .reg l_law13_does_14
def l_law13_does_15 : List AOp := [⟨(some 63), .load (some 2) (.t 4), none, none, [], none⟩,
  ⟨(some 64), .faddr 1 (.t 5), none, none, [], none⟩,
  ⟨(some 65), .load none (.t 64), none, none, [], none⟩,
  ⟨(some 66), .faddr 2 (.t 5), none, none, [], none⟩,
  ⟨(some 67), .load none (.t 66), none, none, [], none⟩,
  ⟨(some 68), .call false 29 [(.t 63), (.t 65), (.t 67)], none, none, [], none⟩,
  ⟨(some 62), .mv (.t 68), none, none, [], none⟩,
  ⟨(some 69), .ext 0 (.t 62), none, none, [], none⟩,
  ⟨(some 70), .ext 1 (.t 62), none, none, [], none⟩,
  ⟨none, .store 2 (.t 4) (.t 69), none, none, [], none⟩,
  ⟨(some 8), .mv (.t 70), none, none, [], none⟩]
def ac_law13_does_15 : AC := .reg l_law13_does_15
def l_law13_does_16 : List AOp := [⟨(some 71), .mv (.t 0), none, none, [], none⟩,
  ⟨(some 72), .faddr 1 (.t 5), none, none, [], none⟩,
  ⟨(some 73), .load none (.t 72), none, none, [], none⟩,
  ⟨(some 74), .faddr 2 (.t 5), none, none, [], none⟩,
  ⟨(some 75), .load none (.t 74), none, none, [], none⟩,
  ⟨(some 76), .icall 22 [(.t 71), (.t 73), (.t 75)], none, none, [], none⟩,
  ⟨(some 9), .mv (.t 76), none, none, [], none⟩]
def ac_law13_does_16 : AC := .reg l_law13_does_16
def ac_law13_does_17 : AC := .seq ac_law13_does_15 ac_law13_does_16
def l_law13_does_18 : List AOp := [⟨(some 78), .bin .eql (.t 16) (.k (.int .i64 3)), none, none, [], none⟩,
  ⟨(some 77), .mv (.t 78), none, none, [], none⟩]
def ac_law13_does_18 : AC := .reg l_law13_does_18
def l_law13_does_19 : List AOp := [⟨(some 80), .load (some 2) (.t 4), none, none, [], none⟩,
  ⟨(some 81), .faddr 1 (.t 5), none, none, [], none⟩,
  ⟨(some 82), .load none (.t 81), none, none, [], none⟩,
  ⟨(some 83), .faddr 2 (.t 5), none, none, [], none⟩,
  ⟨(some 84), .load none (.t 83), none, none, [], none⟩,
  ⟨(some 85), .call false 30 [(.t 80), (.t 82), (.t 84)], none, none, [], none⟩,
  ⟨(some 79), .mv (.t 85), none, none, [], none⟩,
  ⟨(some 86), .ext 0 (.t 79), none, none, [], none⟩,
  ⟨(some 87), .ext 1 (.t 79), none, none, [], none⟩,
  ⟨none, .store 2 (.t 4) (.t 86), none, none, [], none⟩,
  ⟨(some 8), .mv (.t 87), none, none, [], none⟩]
def ac_law13_does_19 : AC := .reg l_law13_does_19
def l_law13_does_20 : List AOp := [⟨(some 88), .mv (.t 0), none, none, [], none⟩,
  ⟨(some 89), .faddr 1 (.t 5), none, none, [], none⟩,
  ⟨(some 90), .load none (.t 89), none, none, [], none⟩,
  ⟨(some 91), .faddr 2 (.t 5), none, none, [], none⟩,
  ⟨(some 92), .load none (.t 91), none, none, [], none⟩,
  ⟨(some 93), .icall 12 [(.t 88), (.t 90), (.t 92)], none, none, [], none⟩,
  ⟨(some 9), .mv (.t 93), none, none, [], none⟩]
def ac_law13_does_20 : AC := .reg l_law13_does_20
def ac_law13_does_21 : AC := .seq ac_law13_does_19 ac_law13_does_20
def l_law13_does_22 : List AOp := [⟨(some 95), .bin .eql (.t 16) (.k (.int .i64 4)), none, none, [], none⟩,
  ⟨(some 94), .mv (.t 95), none, none, [], none⟩]
def ac_law13_does_22 : AC := .reg l_law13_does_22
def l_law13_does_23 : List AOp := [⟨(some 97), .load (some 2) (.t 4), none, none, [], none⟩,
  ⟨(some 98), .faddr 1 (.t 5), none, none, [], none⟩,
  ⟨(some 99), .load none (.t 98), none, none, [], none⟩,
  ⟨(some 100), .faddr 2 (.t 5), none, none, [], none⟩,
  ⟨(some 101), .load none (.t 100), none, none, [], none⟩,
  ⟨(some 102), .call false 31 [(.t 97), (.t 99), (.t 101)], none, none, [], none⟩,
  ⟨(some 96), .mv (.t 102), none, none, [], none⟩,
  ⟨(some 103), .ext 0 (.t 96), none, none, [], none⟩,
  ⟨(some 104), .ext 1 (.t 96), none, none, [], none⟩,
  ⟨none, .store 2 (.t 4) (.t 103), none, none, [], none⟩,
  ⟨(some 8), .mv (.t 104), none, none, [], none⟩]
def ac_law13_does_23 : AC := .reg l_law13_does_23
def l_law13_does_24 : List AOp := [⟨(some 105), .mv (.t 0), none, none, [], none⟩,
  ⟨(some 106), .faddr 1 (.t 5), none, none, [], none⟩,
  ⟨(some 107), .load none (.t 106), none, none, [], none⟩,
  ⟨(some 108), .faddr 2 (.t 5), none, none, [], none⟩,
  ⟨(some 109), .load none (.t 108), none, none, [], none⟩,
  ⟨(some 110), .icall 18 [(.t 105), (.t 107), (.t 109)], none, none, [], none⟩,
  ⟨(some 9), .mv (.t 110), none, none, [], none⟩]
def ac_law13_does_24 : AC := .reg l_law13_does_24
def ac_law13_does_25 : AC := .seq ac_law13_does_23 ac_law13_does_24
def ac_law13_does_26 : AC := .cond (.t 94) ac_law13_does_25 .skip
def ac_law13_does_27 : AC := .seq ac_law13_does_22 ac_law13_does_26
def ac_law13_does_28 : AC := .cond (.t 77) ac_law13_does_21 ac_law13_does_27
def ac_law13_does_29 : AC := .seq ac_law13_does_18 ac_law13_does_28
def ac_law13_does_30 : AC := .cond (.t 60) ac_law13_does_17 ac_law13_does_29
def ac_law13_does_31 : AC := .seq ac_law13_does_14 ac_law13_does_30
def ac_law13_does_32 : AC := .cond (.t 34) ac_law13_does_13 ac_law13_does_31
def ac_law13_does_33 : AC := .seq ac_law13_does_7 ac_law13_does_32
def ac_law13_does_34 : AC := .cond (.t 17) ac_law13_does_6 ac_law13_does_33
def ac_law13_does_35 : AC := .seq ac_law13_does_3 ac_law13_does_34
def ac_law13_does_36 : AC := .block 0 ac_law13_does_35
def ac_law13_does_37 : AC := .seq ac_law13_does_2 ac_law13_does_36
def l_law13_does_38 : List AOp := [⟨(some 111), .load (some 2) (.t 4), none, none, [], none⟩,
  ⟨(some 112), .mv (.t 9), none, none, [], none⟩,
  ⟨(some 113), .mv (.t 8), none, none, [], none⟩,
  ⟨(some 114), .bin .eql (.t 112) (.t 113), none, none, [], none⟩,
  ⟨none, .store 2 (.t 6) (.t 111), none, none, [], none⟩,
  ⟨(some 7), .mv (.t 114), none, none, [], none⟩]
def ac_law13_does_38 : AC := .reg l_law13_does_38
def ac_law13_does_39 : AC := .seq ac_law13_does_38 .ret
def ac_law13_does_40 : AC := .seq ac_law13_does_37 ac_law13_does_39
def ac_law13_does_41 : AC := .seq ac_law13_does_1 ac_law13_does_40
def ac_law13_does_42 : AC := .seq ac_law13_does_0 ac_law13_does_41
def ac_law13_does : AC := ac_law13_does_42
theorem comp_law13_does : compF Try.prog [1000011, 1000015, 1000022, 1000012, 1000018] (drawR Try.prog [1000011, 1000015, 1000022, 1000012, 1000018] Try.f20.ntmps) [] 3 Try.f20 = some (ac_law13_does, [.c 6 (some 2), .t 7]) := by kernel_rfl
def U_law13_does := (And.intro (And.intro (And.intro (And.intro (And.intro (And.intro @ac_law13_does.eq_1 (@mR _ _ ac_law13_does_0.eq_1)) (And.intro (@mR _ _ ac_law13_does_1.eq_1) (@mR _ _ ac_law13_does_2.eq_1))) (And.intro (And.intro (@mR _ _ ac_law13_does_3.eq_1) (@mR _ _ ac_law13_does_4.eq_1)) (And.intro (@mR _ _ ac_law13_does_5.eq_1) (@mU _ _ ac_law13_does_6.eq_1)))) (And.intro (And.intro (And.intro (@mR _ _ ac_law13_does_7.eq_1) (@mR _ _ ac_law13_does_8.eq_1)) (And.intro (@mR _ _ ac_law13_does_9.eq_1) (@mR _ _ ac_law13_does_10.eq_1))) (And.intro (And.intro (@mU _ _ ac_law13_does_11.eq_1) (@mU _ _ ac_law13_does_12.eq_1)) (And.intro (@mU _ _ ac_law13_does_13.eq_1) (@mR _ _ ac_law13_does_14.eq_1))))) (And.intro (And.intro (And.intro (And.intro (@mR _ _ ac_law13_does_15.eq_1) (@mR _ _ ac_law13_does_16.eq_1)) (And.intro (@mU _ _ ac_law13_does_17.eq_1) (@mR _ _ ac_law13_does_18.eq_1))) (And.intro (And.intro (@mR _ _ ac_law13_does_19.eq_1) (@mR _ _ ac_law13_does_20.eq_1)) (And.intro (@mU _ _ ac_law13_does_21.eq_1) (@mR _ _ ac_law13_does_22.eq_1)))) (And.intro (And.intro (And.intro (@mR _ _ ac_law13_does_23.eq_1) (@mR _ _ ac_law13_does_24.eq_1)) (And.intro (@mU _ _ ac_law13_does_25.eq_1) (@mU _ _ ac_law13_does_26.eq_1))) (And.intro (And.intro (@mU _ _ ac_law13_does_27.eq_1) (@mU _ _ ac_law13_does_28.eq_1)) (And.intro (@mU _ _ ac_law13_does_29.eq_1) (@mU _ _ ac_law13_does_30.eq_1)))))) (And.intro (And.intro (And.intro (And.intro (And.intro (@mU _ _ ac_law13_does_31.eq_1) (@mU _ _ ac_law13_does_32.eq_1)) (And.intro (@mU _ _ ac_law13_does_33.eq_1) (@mU _ _ ac_law13_does_34.eq_1))) (And.intro (And.intro (@mU _ _ ac_law13_does_35.eq_1) (@mU _ _ ac_law13_does_36.eq_1)) (And.intro (@mU _ _ ac_law13_does_37.eq_1) (@mR _ _ ac_law13_does_38.eq_1)))) (And.intro (And.intro (And.intro (@mU _ _ ac_law13_does_39.eq_1) (@mU _ _ ac_law13_does_40.eq_1)) (And.intro (@mU _ _ ac_law13_does_41.eq_1) (@mU _ _ ac_law13_does_42.eq_1))) (And.intro (And.intro @l_law13_does_0.eq_1 @l_law13_does_1.eq_1) (And.intro @l_law13_does_2.eq_1 @l_law13_does_3.eq_1)))) (And.intro (And.intro (And.intro (And.intro @l_law13_does_4.eq_1 @l_law13_does_5.eq_1) (And.intro @l_law13_does_7.eq_1 @l_law13_does_8.eq_1)) (And.intro (And.intro @l_law13_does_9.eq_1 @l_law13_does_10.eq_1) (And.intro @l_law13_does_14.eq_1 @l_law13_does_15.eq_1))) (And.intro (And.intro (And.intro @l_law13_does_16.eq_1 @l_law13_does_18.eq_1) (And.intro @l_law13_does_19.eq_1 @l_law13_does_20.eq_1)) (And.intro (And.intro @l_law13_does_22.eq_1 @l_law13_does_23.eq_1) (And.intro @l_law13_does_24.eq_1 @l_law13_does_38.eq_1))))))

/- scoria/scorialaw13.same -/
def l_law13_same_0 : List AOp := [⟨(some 3), .box (.t 1), none, none, [], none⟩,
  ⟨(some 4), .mv (.k (.bool false)), none, none, [], none⟩]
def ac_law13_same_0 : AC := .reg l_law13_same_0
def l_law13_same_1 : List AOp := [⟨(some 10), .mv (.t 0), none, none, [], none⟩,
  ⟨(some 11), .icall 16 [(.t 10)], none, none, [], none⟩,
  ⟨(some 5), .mv (.t 11), none, none, [], none⟩]
def ac_law13_same_1 : AC := .reg l_law13_same_1
def l_law13_same_2 : List AOp := [⟨(some 12), .mv (.t 5), none, none, [], none⟩,
  ⟨(some 13), .len (.t 12), none, none, [], none⟩,
  ⟨(some 14), .faddr 1 (.t 3), none, none, [], none⟩,
  ⟨(some 15), .load none (.t 14), none, none, [], none⟩,
  ⟨(some 16), .len (.t 15), none, none, [], none⟩,
  ⟨(some 17), .bin .neq (.t 13) (.t 16), none, none, [], none⟩,
  ⟨(some 18), .mv (.t 17), none, none, [], none⟩,
  ⟨(some 19), .mv (.t 0), (some (18, false)), none, [], none⟩,
  ⟨(some 20), .rcall 13 [(.t 19)], (some (18, false)), none, [], none⟩,
  ⟨(some 21), .load (some 2) (.t 3), (some (18, false)), none, [], none⟩,
  ⟨(some 22), .call false 32 [(.t 21)], (some (18, false)), none, [], none⟩,
  ⟨(some 23), .bin .neq (.t 20) (.t 22), (some (18, false)), none, [], none⟩,
  ⟨(some 24), .pick (.t 18) (.k (.bool true)) (.t 23), none, none, [], none⟩,
  ⟨(some 25), .mv (.t 24), none, none, [], none⟩,
  ⟨(some 26), .mv (.t 0), (some (25, false)), none, [], none⟩,
  ⟨(some 27), .rcall 14 [(.t 26)], (some (25, false)), none, [], none⟩,
  ⟨(some 28), .faddr 0 (.t 3), (some (25, false)), none, [], none⟩,
  ⟨(some 29), .load none (.t 28), (some (25, false)), none, [], none⟩,
  ⟨(some 30), .load (some 2) (.t 3), (some (25, false)), none, [], none⟩,
  ⟨(some 31), .call false 32 [(.t 30)], (some (25, false)), none, [], none⟩,
  ⟨(some 32), .bin .sub (.t 29) (.t 31), (some (25, false)), none, [], none⟩,
  ⟨(some 33), .bin .neq (.t 27) (.t 32), (some (25, false)), none, [], none⟩,
  ⟨(some 34), .pick (.t 25) (.k (.bool true)) (.t 33), none, none, [], none⟩]
def ac_law13_same_2 : AC := .dreg 0 l_law13_same_2
def l_law13_same_3 : List AOp := [⟨(some 4), .mv (.k (.bool false)), none, none, [], none⟩]
def ac_law13_same_3 : AC := .reg l_law13_same_3
def ac_law13_same_4 : AC := .seq ac_law13_same_3 .ret
def ac_law13_same_5 : AC := .cond (.t 34) ac_law13_same_4 .skip
def ac_law13_same_6 : AC := .seq ac_law13_same_2 ac_law13_same_5
def l_law13_same_7 : List AOp := [⟨(some 6), .mv (.k (.int .i64 0)), none, none, [], none⟩]
def ac_law13_same_7 : AC := .reg l_law13_same_7
def l_law13_same_8 : List AOp := [⟨(some 35), .mv (.t 6), none, none, [], none⟩,
  ⟨(some 36), .mv (.t 5), none, none, [], none⟩,
  ⟨(some 37), .len (.t 36), none, none, [], none⟩,
  ⟨(some 38), .bin .lss (.t 35) (.t 37), none, none, [], none⟩]
def ac_law13_same_8 : AC := .reg l_law13_same_8
def ac_law13_same_9 : AC := .cond (.t 38) .skip (.exit 0)
def ac_law13_same_10 : AC := .seq ac_law13_same_8 ac_law13_same_9
def l_law13_same_11 : List AOp := [⟨(some 42), .mv (.t 0), none, none, [], none⟩,
  ⟨(some 43), .mv (.t 5), none, none, [], none⟩,
  ⟨(some 44), .mv (.t 6), none, none, [], none⟩,
  ⟨(some 45), .isl 1 (.t 43) (.t 44), none, none, [], none⟩,
  ⟨(some 46), .load none (.t 45), none, none, [], none⟩,
  ⟨(some 47), .rcall 17 [(.t 42), (.t 46)], none, none, [], none⟩,
  ⟨(some 41), .mv (.t 47), none, none, [], none⟩,
  ⟨(some 48), .ext 0 (.t 41), none, none, [], none⟩,
  ⟨(some 49), .ext 1 (.t 41), none, none, [], none⟩,
  ⟨(some 50), .ext 2 (.t 41), none, none, [], none⟩,
  ⟨(some 7), .mv (.t 48), none, none, [], none⟩,
  ⟨(some 8), .mv (.t 49), none, none, [], none⟩,
  ⟨(some 9), .mv (.t 50), none, none, [], none⟩]
def ac_law13_same_11 : AC := .reg l_law13_same_11
def l_law13_same_12 : List AOp := [⟨(some 51), .mv (.t 9), none, none, [], none⟩,
  ⟨(some 52), .bin .neq (.t 51) (.k (.int .i64 0)), none, none, [], none⟩,
  ⟨(some 53), .mv (.t 52), none, none, [], none⟩,
  ⟨(some 54), .faddr 1 (.t 3), (some (53, false)), none, [], none⟩,
  ⟨(some 55), .load none (.t 54), (some (53, false)), none, [], none⟩,
  ⟨(some 56), .mv (.t 6), (some (53, false)), none, [], none⟩,
  ⟨(some 57), .isl 3 (.t 55) (.t 56), (some (53, false)), none, [], none⟩,
  ⟨(some 58), .load (some 3) (.t 57), (some (53, false)), none, [], none⟩,
  ⟨(some 59), .mv (.t 5), (some (53, false)), none, [], none⟩,
  ⟨(some 60), .mv (.t 6), (some (53, false)), none, [], none⟩,
  ⟨(some 61), .isl 1 (.t 59) (.t 60), (some (53, false)), none, [], none⟩,
  ⟨(some 62), .load none (.t 61), (some (53, false)), none, [], none⟩,
  ⟨(some 63), .mv (.t 7), (some (53, false)), none, [], none⟩,
  ⟨(some 64), .mv (.t 8), (some (53, false)), none, [], none⟩,
  ⟨(some 65), .build [(.int .i64 0), (.int .i64 0), (.int .i64 0)] [(0, 1, (.t 62)), (1, 1, (.t 63)), (2, 1, (.t 64))], (some (53, false)), none, [], none⟩,
  ⟨(some 66), .eqs true [.i, .i, .i] (.t 58) (.t 65), (some (53, false)), none, [], none⟩,
  ⟨(some 67), .pick (.t 53) (.k (.bool true)) (.t 66), none, none, [], none⟩]
def ac_law13_same_12 : AC := .dreg 0 l_law13_same_12
def l_law13_same_13 : List AOp := [⟨(some 4), .mv (.k (.bool false)), none, none, [], none⟩]
def ac_law13_same_13 : AC := .reg l_law13_same_13
def ac_law13_same_14 : AC := .seq ac_law13_same_13 .ret
def ac_law13_same_15 : AC := .cond (.t 67) ac_law13_same_14 .skip
def ac_law13_same_16 : AC := .seq ac_law13_same_12 ac_law13_same_15
def ac_law13_same_17 : AC := .seq ac_law13_same_11 ac_law13_same_16
def ac_law13_same_18 : AC := .block 1 ac_law13_same_17
def l_law13_same_19 : List AOp := [⟨(some 39), .mv (.t 6), none, none, [], none⟩,
  ⟨(some 40), .bin .add (.t 39) (.k (.int .i64 1)), none, none, [], none⟩,
  ⟨(some 6), .mv (.t 40), none, none, [], none⟩]
def ac_law13_same_19 : AC := .reg l_law13_same_19
def ac_law13_same_20 : AC := .seq ac_law13_same_18 ac_law13_same_19
def ac_law13_same_21 : AC := .seq ac_law13_same_10 ac_law13_same_20
def ac_law13_same_22 : AC := .loop [0, 3, 5, 6] 1000000000 ac_law13_same_21
def ac_law13_same_23 : AC := .block 0 ac_law13_same_22
def ac_law13_same_24 : AC := .seq ac_law13_same_7 ac_law13_same_23
def l_law13_same_25 : List AOp := [⟨(some 4), .mv (.k (.bool true)), none, none, [], none⟩]
def ac_law13_same_25 : AC := .reg l_law13_same_25
def ac_law13_same_26 : AC := .seq ac_law13_same_25 .ret
def ac_law13_same_27 : AC := .seq ac_law13_same_24 ac_law13_same_26
def ac_law13_same_28 : AC := .seq ac_law13_same_6 ac_law13_same_27
def ac_law13_same_29 : AC := .seq ac_law13_same_1 ac_law13_same_28
def ac_law13_same_30 : AC := .seq ac_law13_same_0 ac_law13_same_29
def ac_law13_same : AC := ac_law13_same_30
theorem comp_law13_same : compF Try.prog [1000016, 4000013, 4000014, 4000017] (drawR Try.prog [1000016, 4000013, 4000014, 4000017] Try.f21.ntmps) [([0, 3, 5, 6], 1000000000)] 2 Try.f21 = some (ac_law13_same, [.t 4]) := by kernel_rfl
def U_law13_same := (And.intro (And.intro (And.intro (And.intro (And.intro (And.intro @ac_law13_same.eq_1 (@mR _ _ ac_law13_same_0.eq_1)) (@mR _ _ ac_law13_same_1.eq_1)) (And.intro (And.intro (@mD _ _ _ ac_law13_same_2.eq_1) (@mR _ _ ac_law13_same_3.eq_1)) (@mU _ _ ac_law13_same_4.eq_1))) (And.intro (And.intro (And.intro (@mU _ _ ac_law13_same_5.eq_1) (@mU _ _ ac_law13_same_6.eq_1)) (@mR _ _ ac_law13_same_7.eq_1)) (And.intro (@mR _ _ ac_law13_same_8.eq_1) (@mU _ _ ac_law13_same_9.eq_1)))) (And.intro (And.intro (And.intro (And.intro (@mU _ _ ac_law13_same_10.eq_1) (@mR _ _ ac_law13_same_11.eq_1)) (@mD _ _ _ ac_law13_same_12.eq_1)) (And.intro (And.intro (@mR _ _ ac_law13_same_13.eq_1) (@mU _ _ ac_law13_same_14.eq_1)) (@mU _ _ ac_law13_same_15.eq_1))) (And.intro (And.intro (And.intro (@mU _ _ ac_law13_same_16.eq_1) (@mU _ _ ac_law13_same_17.eq_1)) (@mU _ _ ac_law13_same_18.eq_1)) (And.intro (@mR _ _ ac_law13_same_19.eq_1) (@mU _ _ ac_law13_same_20.eq_1))))) (And.intro (And.intro (And.intro (And.intro (And.intro (@mU _ _ ac_law13_same_21.eq_1) (@mU _ _ ac_law13_same_22.eq_1)) (@mU _ _ ac_law13_same_23.eq_1)) (And.intro (And.intro (@mU _ _ ac_law13_same_24.eq_1) (@mR _ _ ac_law13_same_25.eq_1)) (@mU _ _ ac_law13_same_26.eq_1))) (And.intro (And.intro (And.intro (@mU _ _ ac_law13_same_27.eq_1) (@mU _ _ ac_law13_same_28.eq_1)) (@mU _ _ ac_law13_same_29.eq_1)) (And.intro (@mU _ _ ac_law13_same_30.eq_1) @l_law13_same_0.eq_1))) (And.intro (And.intro (And.intro (And.intro @l_law13_same_1.eq_1 @l_law13_same_2.eq_1) @l_law13_same_3.eq_1) (And.intro @l_law13_same_7.eq_1 @l_law13_same_8.eq_1)) (And.intro (And.intro (And.intro @l_law13_same_11.eq_1 @l_law13_same_12.eq_1) @l_law13_same_13.eq_1) (And.intro @l_law13_same_19.eq_1 @l_law13_same_25.eq_1)))))

/- (*scoria/ledger.Ledger).Resize -/
def l_ledger_Ledger_Resize_0 : List AOp := [⟨(some 6), .mv (.k (.int .i64 0)), none, none, [], none⟩]
def ac_ledger_Ledger_Resize_0 : AC := .reg l_ledger_Ledger_Resize_0
def l_ledger_Ledger_Resize_1 : List AOp := [⟨(some 9), .mv (.t 2), none, none, [], none⟩,
  ⟨(some 10), .call false 23 [(.t 9)], none, none, [], none⟩,
  ⟨(some 11), .un .not (.t 10), none, none, [], none⟩]
def ac_ledger_Ledger_Resize_1 : AC := .reg l_ledger_Ledger_Resize_1
def l_ledger_Ledger_Resize_2 : List AOp := [⟨(some 6), .mv (.k (.int .i64 1)), none, none, [], none⟩]
def ac_ledger_Ledger_Resize_2 : AC := .reg l_ledger_Ledger_Resize_2
def ac_ledger_Ledger_Resize_3 : AC := .seq ac_ledger_Ledger_Resize_2 .ret
def ac_ledger_Ledger_Resize_4 : AC := .cond (.t 11) ac_ledger_Ledger_Resize_3 .skip
def ac_ledger_Ledger_Resize_5 : AC := .seq ac_ledger_Ledger_Resize_1 ac_ledger_Ledger_Resize_4
def l_ledger_Ledger_Resize_6 : List AOp := [⟨(some 13), .mv (.t 0), none, none, [], none⟩,
  ⟨(some 14), .mv (.t 1), none, none, [], none⟩,
  ⟨(some 15), .icall 24 [(.t 13), (.t 14)], none, none, [], none⟩,
  ⟨(some 12), .mv (.t 15), none, none, [], none⟩,
  ⟨(some 16), .ext 0 (.t 12), none, none, [], none⟩,
  ⟨(some 17), .ext 1 (.t 12), none, none, [], none⟩,
  ⟨(some 7), .mv (.t 16), none, none, [], none⟩,
  ⟨(some 8), .mv (.t 17), none, none, [], none⟩]
def ac_ledger_Ledger_Resize_6 : AC := .reg l_ledger_Ledger_Resize_6
def l_ledger_Ledger_Resize_7 : List AOp := [⟨(some 18), .mv (.t 8), none, none, [], none⟩,
  ⟨(some 19), .bin .eql (.t 18) (.k (.int .i64 0)), none, none, [], none⟩]
def ac_ledger_Ledger_Resize_7 : AC := .reg l_ledger_Ledger_Resize_7
def l_ledger_Ledger_Resize_8 : List AOp := [⟨(some 20), .mv (.t 7), none, none, [], none⟩,
  ⟨(some 21), .mv (.t 2), none, none, [], none⟩,
  ⟨(some 22), .nilck (.t 20), none, none, [], none⟩,
  ⟨(some 23), .faddr 0 (.t 22), none, none, [], none⟩,
  ⟨none, .store 1 (.t 23) (.t 21), none, none, [], none⟩]
def ac_ledger_Ledger_Resize_8 : AC := .reg l_ledger_Ledger_Resize_8
def ac_ledger_Ledger_Resize_9 : AC := .cond (.t 19) ac_ledger_Ledger_Resize_8 .skip
def ac_ledger_Ledger_Resize_10 : AC := .seq ac_ledger_Ledger_Resize_7 ac_ledger_Ledger_Resize_9
def l_ledger_Ledger_Resize_11 : List AOp := [⟨(some 24), .mv (.t 8), none, none, [], none⟩,
  ⟨(some 6), .mv (.t 24), none, none, [], none⟩]
def ac_ledger_Ledger_Resize_11 : AC := .reg l_ledger_Ledger_Resize_11
def ac_ledger_Ledger_Resize_12 : AC := .seq ac_ledger_Ledger_Resize_11 .ret
def ac_ledger_Ledger_Resize_13 : AC := .seq ac_ledger_Ledger_Resize_10 ac_ledger_Ledger_Resize_12
def ac_ledger_Ledger_Resize_14 : AC := .seq ac_ledger_Ledger_Resize_6 ac_ledger_Ledger_Resize_13
def ac_ledger_Ledger_Resize_15 : AC := .seq ac_ledger_Ledger_Resize_5 ac_ledger_Ledger_Resize_14
def ac_ledger_Ledger_Resize_16 : AC := .seq ac_ledger_Ledger_Resize_0 ac_ledger_Ledger_Resize_15
def ac_ledger_Ledger_Resize : AC := ac_ledger_Ledger_Resize_16
theorem comp_ledger_Ledger_Resize : compF Try.prog [1000024] (drawR Try.prog [1000024] Try.f22.ntmps) [] 3 Try.f22 = some (ac_ledger_Ledger_Resize, [.t 6]) := by kernel_rfl
def U_ledger_Ledger_Resize := (And.intro (And.intro (And.intro (And.intro (And.intro @ac_ledger_Ledger_Resize.eq_1 (@mR _ _ ac_ledger_Ledger_Resize_0.eq_1)) (And.intro (@mR _ _ ac_ledger_Ledger_Resize_1.eq_1) (@mR _ _ ac_ledger_Ledger_Resize_2.eq_1))) (And.intro (And.intro (@mU _ _ ac_ledger_Ledger_Resize_3.eq_1) (@mU _ _ ac_ledger_Ledger_Resize_4.eq_1)) (@mU _ _ ac_ledger_Ledger_Resize_5.eq_1))) (And.intro (And.intro (And.intro (@mR _ _ ac_ledger_Ledger_Resize_6.eq_1) (@mR _ _ ac_ledger_Ledger_Resize_7.eq_1)) (@mR _ _ ac_ledger_Ledger_Resize_8.eq_1)) (And.intro (And.intro (@mU _ _ ac_ledger_Ledger_Resize_9.eq_1) (@mU _ _ ac_ledger_Ledger_Resize_10.eq_1)) (@mR _ _ ac_ledger_Ledger_Resize_11.eq_1)))) (And.intro (And.intro (And.intro (And.intro (@mU _ _ ac_ledger_Ledger_Resize_12.eq_1) (@mU _ _ ac_ledger_Ledger_Resize_13.eq_1)) (@mU _ _ ac_ledger_Ledger_Resize_14.eq_1)) (And.intro (And.intro (@mU _ _ ac_ledger_Ledger_Resize_15.eq_1) (@mU _ _ ac_ledger_Ledger_Resize_16.eq_1)) @l_ledger_Ledger_Resize_0.eq_1)) (And.intro (And.intro (And.intro @l_ledger_Ledger_Resize_1.eq_1 @l_ledger_Ledger_Resize_2.eq_1) @l_ledger_Ledger_Resize_6.eq_1) (And.intro (And.intro @l_ledger_Ledger_Resize_7.eq_1 @l_ledger_Ledger_Resize_8.eq_1) @l_ledger_Ledger_Resize_11.eq_1))))

/- scoria/ledger.sized -/
def l_ledger_sized_0 : List AOp := [⟨(some 2), .mv (.k (.bool false)), none, none, [], none⟩]
def ac_ledger_sized_0 : AC := .reg l_ledger_sized_0
def l_ledger_sized_1 : List AOp := [⟨(some 3), .mv (.t 0), none, none, [], none⟩,
  ⟨(some 4), .bin .geq (.t 3) (.k (.int .i64 0)), none, none, [], none⟩,
  ⟨(some 5), .mv (.t 4), none, none, [], none⟩,
  ⟨(some 6), .mv (.t 0), (some (5, true)), none, [], none⟩,
  ⟨(some 7), .bin .leq (.t 6) (.k (.int .i64 16777216)), (some (5, true)), none, [], none⟩,
  ⟨(some 8), .pick (.t 5) (.t 7) (.k (.bool false)), none, none, [], none⟩,
  ⟨(some 2), .mv (.t 8), none, none, [], none⟩]
def ac_ledger_sized_1 : AC := .reg l_ledger_sized_1
def ac_ledger_sized_2 : AC := .seq ac_ledger_sized_1 .ret
def ac_ledger_sized_3 : AC := .seq ac_ledger_sized_0 ac_ledger_sized_2
def ac_ledger_sized : AC := ac_ledger_sized_3
theorem comp_ledger_sized : compF Try.prog [] (drawR Try.prog [] Try.f23.ntmps) [] 1 Try.f23 = some (ac_ledger_sized, [.t 2]) := by kernel_rfl
def U_ledger_sized := (And.intro (And.intro (And.intro @ac_ledger_sized.eq_1 (@mR _ _ ac_ledger_sized_0.eq_1)) (And.intro (@mR _ _ ac_ledger_sized_1.eq_1) (@mU _ _ ac_ledger_sized_2.eq_1))) (And.intro (And.intro (@mU _ _ ac_ledger_sized_3.eq_1) @l_ledger_sized_0.eq_1) @l_ledger_sized_1.eq_1))

/- (*scoria/ledger.Ledger).get -/
def l_ledger_Ledger_get_0 : List AOp := [⟨(some 4), .mv (.k .nilp), none, none, [], none⟩,
  ⟨(some 5), .mv (.k (.int .i64 0)), none, none, [], none⟩]
def ac_ledger_Ledger_get_0 : AC := .reg l_ledger_Ledger_get_0
def l_ledger_Ledger_get_1 : List AOp := [⟨(some 8), .mv (.t 0), none, none, [], none⟩,
  ⟨(some 9), .isn .p false (.t 8), none, none, [], none⟩]
def ac_ledger_Ledger_get_1 : AC := .reg l_ledger_Ledger_get_1
def l_ledger_Ledger_get_2 : List AOp := [⟨(some 4), .mv (.k .nilp), none, none, [], none⟩,
  ⟨(some 5), .mv (.k (.int .i64 1)), none, none, [], none⟩]
def ac_ledger_Ledger_get_2 : AC := .reg l_ledger_Ledger_get_2
def ac_ledger_Ledger_get_3 : AC := .seq ac_ledger_Ledger_get_2 .ret
def ac_ledger_Ledger_get_4 : AC := .cond (.t 9) ac_ledger_Ledger_get_3 .skip
def ac_ledger_Ledger_get_5 : AC := .seq ac_ledger_Ledger_get_1 ac_ledger_Ledger_get_4
def l_ledger_Ledger_get_6 : List AOp := [⟨(some 11), .mv (.t 0), none, none, [], none⟩,
  ⟨(some 12), .nilck (.t 11), none, none, [], none⟩,
  ⟨(some 13), .faddr 1 (.t 12), none, none, [], none⟩,
  ⟨(some 14), .load none (.t 13), none, none, [], none⟩,
  ⟨(some 15), .mv (.t 1), none, none, [], none⟩,
  ⟨(some 16), .mop (.get true .nilp) [(.t 14), (.t 15)], none, none, [], none⟩,
  ⟨(some 10), .mv (.t 16), none, none, [], none⟩,
  ⟨(some 17), .ext 0 (.t 10), none, none, [], none⟩,
  ⟨(some 18), .ext 1 (.t 10), none, none, [], none⟩,
  ⟨(some 6), .mv (.t 17), none, none, [], none⟩,
  ⟨(some 7), .mv (.t 18), none, none, [], none⟩]
def ac_ledger_Ledger_get_6 : AC := .reg l_ledger_Ledger_get_6
def l_ledger_Ledger_get_7 : List AOp := [⟨(some 19), .mv (.t 7), none, none, [], none⟩,
  ⟨(some 20), .un .not (.t 19), none, none, [], none⟩]
def ac_ledger_Ledger_get_7 : AC := .reg l_ledger_Ledger_get_7
def l_ledger_Ledger_get_8 : List AOp := [⟨(some 4), .mv (.k .nilp), none, none, [], none⟩,
  ⟨(some 5), .mv (.k (.int .i64 4)), none, none, [], none⟩]
def ac_ledger_Ledger_get_8 : AC := .reg l_ledger_Ledger_get_8
def ac_ledger_Ledger_get_9 : AC := .seq ac_ledger_Ledger_get_8 .ret
def ac_ledger_Ledger_get_10 : AC := .cond (.t 20) ac_ledger_Ledger_get_9 .skip
def ac_ledger_Ledger_get_11 : AC := .seq ac_ledger_Ledger_get_7 ac_ledger_Ledger_get_10
def l_ledger_Ledger_get_12 : List AOp := [⟨(some 21), .mv (.t 6), none, none, [], none⟩,
  ⟨(some 4), .mv (.t 21), none, none, [], none⟩,
  ⟨(some 5), .mv (.k (.int .i64 0)), none, none, [], none⟩]
def ac_ledger_Ledger_get_12 : AC := .reg l_ledger_Ledger_get_12
def ac_ledger_Ledger_get_13 : AC := .seq ac_ledger_Ledger_get_12 .ret
def ac_ledger_Ledger_get_14 : AC := .seq ac_ledger_Ledger_get_11 ac_ledger_Ledger_get_13
def ac_ledger_Ledger_get_15 : AC := .seq ac_ledger_Ledger_get_6 ac_ledger_Ledger_get_14
def ac_ledger_Ledger_get_16 : AC := .seq ac_ledger_Ledger_get_5 ac_ledger_Ledger_get_15
def ac_ledger_Ledger_get_17 : AC := .seq ac_ledger_Ledger_get_0 ac_ledger_Ledger_get_16
def ac_ledger_Ledger_get : AC := ac_ledger_Ledger_get_17
theorem comp_ledger_Ledger_get : compF Try.prog [] (drawR Try.prog [] Try.f24.ntmps) [] 2 Try.f24 = some (ac_ledger_Ledger_get, [.t 4, .t 5]) := by kernel_rfl
def U_ledger_Ledger_get := (And.intro (And.intro (And.intro (And.intro (And.intro @ac_ledger_Ledger_get.eq_1 (@mR _ _ ac_ledger_Ledger_get_0.eq_1)) (And.intro (@mR _ _ ac_ledger_Ledger_get_1.eq_1) (@mR _ _ ac_ledger_Ledger_get_2.eq_1))) (And.intro (And.intro (@mU _ _ ac_ledger_Ledger_get_3.eq_1) (@mU _ _ ac_ledger_Ledger_get_4.eq_1)) (@mU _ _ ac_ledger_Ledger_get_5.eq_1))) (And.intro (And.intro (And.intro (@mR _ _ ac_ledger_Ledger_get_6.eq_1) (@mR _ _ ac_ledger_Ledger_get_7.eq_1)) (@mR _ _ ac_ledger_Ledger_get_8.eq_1)) (And.intro (And.intro (@mU _ _ ac_ledger_Ledger_get_9.eq_1) (@mU _ _ ac_ledger_Ledger_get_10.eq_1)) (@mU _ _ ac_ledger_Ledger_get_11.eq_1)))) (And.intro (And.intro (And.intro (And.intro (@mR _ _ ac_ledger_Ledger_get_12.eq_1) (@mU _ _ ac_ledger_Ledger_get_13.eq_1)) (And.intro (@mU _ _ ac_ledger_Ledger_get_14.eq_1) (@mU _ _ ac_ledger_Ledger_get_15.eq_1))) (And.intro (And.intro (@mU _ _ ac_ledger_Ledger_get_16.eq_1) (@mU _ _ ac_ledger_Ledger_get_17.eq_1)) @l_ledger_Ledger_get_0.eq_1)) (And.intro (And.intro (And.intro @l_ledger_Ledger_get_1.eq_1 @l_ledger_Ledger_get_2.eq_1) @l_ledger_Ledger_get_6.eq_1) (And.intro (And.intro @l_ledger_Ledger_get_7.eq_1 @l_ledger_Ledger_get_8.eq_1) @l_ledger_Ledger_get_12.eq_1))))

/- maps.Keys[map[int]*scoria/ledger.account,int,*scoria/ledger.account] -/
def l_maps_Keys_ledger_account_0 : List AOp := [⟨(some 1), .box (.t 0), none, none, [], none⟩,
  ⟨(some 2), .mv (.k .nilf), none, none, [], none⟩]
def ac_maps_Keys_ledger_account_0 : AC := .reg l_maps_Keys_ledger_account_0
def l_maps_Keys_ledger_account_1 : List AOp := [⟨(some 3), .mkfn (.func 35) [] [(.t 1)], none, none, [], none⟩,
  ⟨(some 2), .mv (.t 3), none, none, [], none⟩]
def ac_maps_Keys_ledger_account_1 : AC := .reg l_maps_Keys_ledger_account_1
def ac_maps_Keys_ledger_account_2 : AC := .seq ac_maps_Keys_ledger_account_1 .ret
def ac_maps_Keys_ledger_account_3 : AC := .seq ac_maps_Keys_ledger_account_0 ac_maps_Keys_ledger_account_2
def ac_maps_Keys_ledger_account : AC := ac_maps_Keys_ledger_account_3
theorem comp_maps_Keys_ledger_account : compF Try.prog [] (drawR Try.prog [] Try.f26.ntmps) [] 1 Try.f26 = some (ac_maps_Keys_ledger_account, [.t 2]) := by kernel_rfl
def U_maps_Keys_ledger_account := (And.intro (And.intro (And.intro @ac_maps_Keys_ledger_account.eq_1 (@mR _ _ ac_maps_Keys_ledger_account_0.eq_1)) (And.intro (@mR _ _ ac_maps_Keys_ledger_account_1.eq_1) (@mU _ _ ac_maps_Keys_ledger_account_2.eq_1))) (And.intro (And.intro (@mU _ _ ac_maps_Keys_ledger_account_3.eq_1) @l_maps_Keys_ledger_account_0.eq_1) @l_maps_Keys_ledger_account_1.eq_1))

/- (scoria/scoriaref13.Ledger).Open -/
def l_ref13_Ledger_Open_0 : List AOp := [⟨(some 3), .box (.t 0), none, none, [], none⟩,
  ⟨(some 6), .alloc [(.int .i64 0), (.slc [])], none, none, [], none⟩,
  ⟨(some 7), .mv (.k (.int .i64 0)), none, none, [], none⟩]
def ac_ref13_Ledger_Open_0 : AC := .reg l_ref13_Ledger_Open_0
def l_ref13_Ledger_Open_1 : List AOp := [⟨(some 8), .mv (.t 1), none, none, [], none⟩,
  ⟨(some 9), .bin .lss (.t 8) (.k (.int .i64 1)), none, none, [], none⟩,
  ⟨(some 10), .mv (.t 9), none, none, [], none⟩,
  ⟨(some 11), .mv (.t 1), (some (10, false)), none, [], none⟩,
  ⟨(some 12), .bin .gtr (.t 11) (.k (.int .i64 65535)), (some (10, false)), none, [], none⟩,
  ⟨(some 13), .pick (.t 10) (.k (.bool true)) (.t 12), none, none, [], none⟩,
  ⟨(some 14), .mv (.t 13), none, none, [], none⟩,
  ⟨(some 15), .mv (.t 2), (some (14, false)), none, [], none⟩,
  ⟨(some 16), .bin .lss (.t 15) (.k (.int .i64 0)), (some (14, false)), none, [], none⟩,
  ⟨(some 17), .pick (.t 14) (.k (.bool true)) (.t 16), none, none, [], none⟩,
  ⟨(some 18), .mv (.t 17), none, none, [], none⟩,
  ⟨(some 19), .mv (.t 2), (some (18, false)), none, [], none⟩,
  ⟨(some 20), .bin .gtr (.t 19) (.k (.int .i64 16777216)), (some (18, false)), none, [], none⟩,
  ⟨(some 21), .pick (.t 18) (.k (.bool true)) (.t 20), none, none, [], none⟩]
def ac_ref13_Ledger_Open_1 : AC := .reg l_ref13_Ledger_Open_1
def l_ref13_Ledger_Open_2 : List AOp := [⟨(some 22), .load (some 2) (.t 3), none, none, [], none⟩,
  ⟨none, .store 2 (.t 6) (.t 22), none, none, [], none⟩,
  ⟨(some 7), .mv (.k (.int .i64 1)), none, none, [], none⟩]
def ac_ref13_Ledger_Open_2 : AC := .reg l_ref13_Ledger_Open_2
def ac_ref13_Ledger_Open_3 : AC := .seq ac_ref13_Ledger_Open_2 .ret
def ac_ref13_Ledger_Open_4 : AC := .cond (.t 21) ac_ref13_Ledger_Open_3 .skip
def ac_ref13_Ledger_Open_5 : AC := .seq ac_ref13_Ledger_Open_1 ac_ref13_Ledger_Open_4
def l_ref13_Ledger_Open_6 : List AOp := [⟨(some 23), .load (some 2) (.t 3), none, none, [], none⟩,
  ⟨(some 24), .mv (.t 1), none, none, [], none⟩,
  ⟨(some 25), .call false 36 [(.t 23), (.t 24)], none, none, [], none⟩,
  ⟨(some 26), .bin .geq (.t 25) (.k (.int .i64 0)), none, none, [], none⟩]
def ac_ref13_Ledger_Open_6 : AC := .reg l_ref13_Ledger_Open_6
def l_ref13_Ledger_Open_7 : List AOp := [⟨(some 27), .load (some 2) (.t 3), none, none, [], none⟩,
  ⟨none, .store 2 (.t 6) (.t 27), none, none, [], none⟩,
  ⟨(some 7), .mv (.k (.int .i64 7)), none, none, [], none⟩]
def ac_ref13_Ledger_Open_7 : AC := .reg l_ref13_Ledger_Open_7
def ac_ref13_Ledger_Open_8 : AC := .seq ac_ref13_Ledger_Open_7 .ret
def ac_ref13_Ledger_Open_9 : AC := .cond (.t 26) ac_ref13_Ledger_Open_8 .skip
def ac_ref13_Ledger_Open_10 : AC := .seq ac_ref13_Ledger_Open_6 ac_ref13_Ledger_Open_9
def l_ref13_Ledger_Open_11 : List AOp := [⟨(some 28), .faddr 1 (.t 3), none, none, [], none⟩,
  ⟨(some 29), .load none (.t 28), none, none, [], none⟩,
  ⟨(some 30), .len (.t 29), none, none, [], none⟩,
  ⟨(some 31), .bin .geq (.t 30) (.k (.int .i64 8)), none, none, [], none⟩]
def ac_ref13_Ledger_Open_11 : AC := .reg l_ref13_Ledger_Open_11
def l_ref13_Ledger_Open_12 : List AOp := [⟨(some 32), .load (some 2) (.t 3), none, none, [], none⟩,
  ⟨none, .store 2 (.t 6) (.t 32), none, none, [], none⟩,
  ⟨(some 7), .mv (.k (.int .i64 70)), none, none, [], none⟩]
def ac_ref13_Ledger_Open_12 : AC := .reg l_ref13_Ledger_Open_12
def ac_ref13_Ledger_Open_13 : AC := .seq ac_ref13_Ledger_Open_12 .ret
def ac_ref13_Ledger_Open_14 : AC := .cond (.t 31) ac_ref13_Ledger_Open_13 .skip
def ac_ref13_Ledger_Open_15 : AC := .seq ac_ref13_Ledger_Open_11 ac_ref13_Ledger_Open_14
def l_ref13_Ledger_Open_16 : List AOp := [⟨(some 33), .load (some 2) (.t 3), none, none, [], none⟩,
  ⟨(some 34), .mv (.t 1), none, none, [], none⟩,
  ⟨(some 35), .mv (.t 2), none, none, [], none⟩,
  ⟨(some 36), .build [(.int .i64 0), (.int .i64 0), (.int .i64 0)] [(0, 1, (.t 34)), (1, 1, (.t 35))], none, none, [], none⟩,
  ⟨(some 37), .call false 37 [(.t 33), (.t 36)], none, none, [], none⟩,
  ⟨none, .store 2 (.t 6) (.t 37), none, none, [], none⟩,
  ⟨(some 7), .mv (.k (.int .i64 0)), none, none, [], none⟩]
def ac_ref13_Ledger_Open_16 : AC := .reg l_ref13_Ledger_Open_16
def ac_ref13_Ledger_Open_17 : AC := .seq ac_ref13_Ledger_Open_16 .ret
def ac_ref13_Ledger_Open_18 : AC := .seq ac_ref13_Ledger_Open_15 ac_ref13_Ledger_Open_17
def ac_ref13_Ledger_Open_19 : AC := .seq ac_ref13_Ledger_Open_10 ac_ref13_Ledger_Open_18
def ac_ref13_Ledger_Open_20 : AC := .seq ac_ref13_Ledger_Open_5 ac_ref13_Ledger_Open_19
def ac_ref13_Ledger_Open_21 : AC := .seq ac_ref13_Ledger_Open_0 ac_ref13_Ledger_Open_20
def ac_ref13_Ledger_Open : AC := ac_ref13_Ledger_Open_21
theorem comp_ref13_Ledger_Open : compF Try.prog [] (drawR Try.prog [] Try.f27.ntmps) [] 3 Try.f27 = some (ac_ref13_Ledger_Open, [.c 6 (some 2), .t 7]) := by kernel_rfl
def U_ref13_Ledger_Open := (And.intro (And.intro (And.intro (And.intro (And.intro @ac_ref13_Ledger_Open.eq_1 (@mR _ _ ac_ref13_Ledger_Open_0.eq_1)) (And.intro (@mR _ _ ac_ref13_Ledger_Open_1.eq_1) (@mR _ _ ac_ref13_Ledger_Open_2.eq_1))) (And.intro (And.intro (@mU _ _ ac_ref13_Ledger_Open_3.eq_1) (@mU _ _ ac_ref13_Ledger_Open_4.eq_1)) (And.intro (@mU _ _ ac_ref13_Ledger_Open_5.eq_1) (@mR _ _ ac_ref13_Ledger_Open_6.eq_1)))) (And.intro (And.intro (And.intro (@mR _ _ ac_ref13_Ledger_Open_7.eq_1) (@mU _ _ ac_ref13_Ledger_Open_8.eq_1)) (And.intro (@mU _ _ ac_ref13_Ledger_Open_9.eq_1) (@mU _ _ ac_ref13_Ledger_Open_10.eq_1))) (And.intro (And.intro (@mR _ _ ac_ref13_Ledger_Open_11.eq_1) (@mR _ _ ac_ref13_Ledger_Open_12.eq_1)) (And.intro (@mU _ _ ac_ref13_Ledger_Open_13.eq_1) (@mU _ _ ac_ref13_Ledger_Open_14.eq_1))))) (And.intro (And.intro (And.intro (And.intro (@mU _ _ ac_ref13_Ledger_Open_15.eq_1) (@mR _ _ ac_ref13_Ledger_Open_16.eq_1)) (And.intro (@mU _ _ ac_ref13_Ledger_Open_17.eq_1) (@mU _ _ ac_ref13_Ledger_Open_18.eq_1))) (And.intro (And.intro (@mU _ _ ac_ref13_Ledger_Open_19.eq_1) (@mU _ _ ac_ref13_Ledger_Open_20.eq_1)) (And.intro (@mU _ _ ac_ref13_Ledger_Open_21.eq_1) @l_ref13_Ledger_Open_0.eq_1))) (And.intro (And.intro (And.intro @l_ref13_Ledger_Open_1.eq_1 @l_ref13_Ledger_Open_2.eq_1) (And.intro @l_ref13_Ledger_Open_6.eq_1 @l_ref13_Ledger_Open_7.eq_1)) (And.intro (And.intro @l_ref13_Ledger_Open_11.eq_1 @l_ref13_Ledger_Open_12.eq_1) @l_ref13_Ledger_Open_16.eq_1))))

/- (scoria/scoriaref13.Ledger).Close -/
def l_ref13_Ledger_Close_0 : List AOp := [⟨(some 2), .box (.t 0), none, none, [], none⟩,
  ⟨(some 4), .alloc [(.int .i64 0), (.slc [])], none, none, [], none⟩,
  ⟨(some 5), .mv (.k (.int .i64 0)), none, none, [], none⟩,
  ⟨(some 6), .mv (.k (.int .i64 0)), none, none, [], none⟩]
def ac_ref13_Ledger_Close_0 : AC := .reg l_ref13_Ledger_Close_0
def l_ref13_Ledger_Close_1 : List AOp := [⟨(some 8), .load (some 2) (.t 2), none, none, [], none⟩,
  ⟨(some 9), .mv (.t 1), none, none, [], none⟩,
  ⟨(some 10), .call false 36 [(.t 8), (.t 9)], none, none, [], none⟩,
  ⟨(some 7), .mv (.t 10), none, none, [], none⟩]
def ac_ref13_Ledger_Close_1 : AC := .reg l_ref13_Ledger_Close_1
def l_ref13_Ledger_Close_2 : List AOp := [⟨(some 11), .mv (.t 7), none, none, [], none⟩,
  ⟨(some 12), .bin .lss (.t 11) (.k (.int .i64 0)), none, none, [], none⟩]
def ac_ref13_Ledger_Close_2 : AC := .reg l_ref13_Ledger_Close_2
def l_ref13_Ledger_Close_3 : List AOp := [⟨(some 13), .load (some 2) (.t 2), none, none, [], none⟩,
  ⟨none, .store 2 (.t 4) (.t 13), none, none, [], none⟩,
  ⟨(some 5), .mv (.k (.int .i64 0)), none, none, [], none⟩,
  ⟨(some 6), .mv (.k (.int .i64 4)), none, none, [], none⟩]
def ac_ref13_Ledger_Close_3 : AC := .reg l_ref13_Ledger_Close_3
def ac_ref13_Ledger_Close_4 : AC := .seq ac_ref13_Ledger_Close_3 .ret
def ac_ref13_Ledger_Close_5 : AC := .cond (.t 12) ac_ref13_Ledger_Close_4 .skip
def ac_ref13_Ledger_Close_6 : AC := .seq ac_ref13_Ledger_Close_2 ac_ref13_Ledger_Close_5
def l_ref13_Ledger_Close_7 : List AOp := [⟨(some 14), .load (some 2) (.t 2), none, none, [1000004], none⟩,
  ⟨(some 15), .mv (.t 1), none, none, [], none⟩,
  ⟨(some 16), .call false 38 [(.t 14), (.t 15)], none, none, [1000004], none⟩,
  ⟨(some 17), .faddr 1 (.t 2), none, none, [], none⟩,
  ⟨(some 18), .load none (.t 17), none, none, [1000004], none⟩,
  ⟨(some 19), .mv (.t 7), none, none, [], none⟩,
  ⟨(some 20), .isl 3 (.t 18) (.t 19), none, none, [1000004], none⟩,
  ⟨(some 21), .faddr 2 (.t 20), none, none, [], none⟩,
  ⟨(some 22), .load none (.t 21), none, none, [1000004], none⟩,
  ⟨none, .store 2 (.t 4) (.t 16), none, none, [], (some 1000004)⟩,
  ⟨(some 5), .mv (.t 22), none, none, [], none⟩,
  ⟨(some 6), .mv (.k (.int .i64 0)), none, none, [], none⟩]
def ac_ref13_Ledger_Close_7 : AC := .dreg 0 l_ref13_Ledger_Close_7
def ac_ref13_Ledger_Close_8 : AC := .seq ac_ref13_Ledger_Close_7 .ret
def ac_ref13_Ledger_Close_9 : AC := .seq ac_ref13_Ledger_Close_6 ac_ref13_Ledger_Close_8
def ac_ref13_Ledger_Close_10 : AC := .seq ac_ref13_Ledger_Close_1 ac_ref13_Ledger_Close_9
def ac_ref13_Ledger_Close_11 : AC := .seq ac_ref13_Ledger_Close_0 ac_ref13_Ledger_Close_10
def ac_ref13_Ledger_Close : AC := ac_ref13_Ledger_Close_11
theorem comp_ref13_Ledger_Close : compF Try.prog [] (drawR Try.prog [] Try.f28.ntmps) [] 2 Try.f28 = some (ac_ref13_Ledger_Close, [.c 4 (some 2), .t 5, .t 6]) := by kernel_rfl
def U_ref13_Ledger_Close := (And.intro (And.intro (And.intro (And.intro (And.intro @ac_ref13_Ledger_Close.eq_1 (@mR _ _ ac_ref13_Ledger_Close_0.eq_1)) (@mR _ _ ac_ref13_Ledger_Close_1.eq_1)) (And.intro (@mR _ _ ac_ref13_Ledger_Close_2.eq_1) (@mR _ _ ac_ref13_Ledger_Close_3.eq_1))) (And.intro (And.intro (@mU _ _ ac_ref13_Ledger_Close_4.eq_1) (@mU _ _ ac_ref13_Ledger_Close_5.eq_1)) (And.intro (@mU _ _ ac_ref13_Ledger_Close_6.eq_1) (@mD _ _ _ ac_ref13_Ledger_Close_7.eq_1)))) (And.intro (And.intro (And.intro (And.intro (@mU _ _ ac_ref13_Ledger_Close_8.eq_1) (@mU _ _ ac_ref13_Ledger_Close_9.eq_1)) (@mU _ _ ac_ref13_Ledger_Close_10.eq_1)) (And.intro (@mU _ _ ac_ref13_Ledger_Close_11.eq_1) @l_ref13_Ledger_Close_0.eq_1)) (And.intro (And.intro @l_ref13_Ledger_Close_1.eq_1 @l_ref13_Ledger_Close_2.eq_1) (And.intro @l_ref13_Ledger_Close_3.eq_1 @l_ref13_Ledger_Close_7.eq_1))))

/- (scoria/scoriaref13.Ledger).Resize -/
def l_ref13_Ledger_Resize_0 : List AOp := [⟨(some 3), .box (.t 0), none, none, [], none⟩,
  ⟨(some 6), .alloc [(.int .i64 0), (.slc [])], none, none, [], none⟩,
  ⟨(some 7), .mv (.k (.int .i64 0)), none, none, [], none⟩]
def ac_ref13_Ledger_Resize_0 : AC := .reg l_ref13_Ledger_Resize_0
def l_ref13_Ledger_Resize_1 : List AOp := [⟨(some 9), .mv (.t 2), none, none, [], none⟩,
  ⟨(some 10), .bin .lss (.t 9) (.k (.int .i64 0)), none, none, [], none⟩,
  ⟨(some 11), .mv (.t 10), none, none, [], none⟩,
  ⟨(some 12), .mv (.t 2), (some (11, false)), none, [], none⟩,
  ⟨(some 13), .bin .gtr (.t 12) (.k (.int .i64 16777216)), (some (11, false)), none, [], none⟩,
  ⟨(some 14), .pick (.t 11) (.k (.bool true)) (.t 13), none, none, [], none⟩]
def ac_ref13_Ledger_Resize_1 : AC := .reg l_ref13_Ledger_Resize_1
def l_ref13_Ledger_Resize_2 : List AOp := [⟨(some 15), .load (some 2) (.t 3), none, none, [], none⟩,
  ⟨none, .store 2 (.t 6) (.t 15), none, none, [], none⟩,
  ⟨(some 7), .mv (.k (.int .i64 1)), none, none, [], none⟩]
def ac_ref13_Ledger_Resize_2 : AC := .reg l_ref13_Ledger_Resize_2
def ac_ref13_Ledger_Resize_3 : AC := .seq ac_ref13_Ledger_Resize_2 .ret
def ac_ref13_Ledger_Resize_4 : AC := .cond (.t 14) ac_ref13_Ledger_Resize_3 .skip
def ac_ref13_Ledger_Resize_5 : AC := .seq ac_ref13_Ledger_Resize_1 ac_ref13_Ledger_Resize_4
def l_ref13_Ledger_Resize_6 : List AOp := [⟨(some 16), .load (some 2) (.t 3), none, none, [], none⟩,
  ⟨(some 17), .mv (.t 1), none, none, [], none⟩,
  ⟨(some 18), .call false 36 [(.t 16), (.t 17)], none, none, [], none⟩,
  ⟨(some 8), .mv (.t 18), none, none, [], none⟩]
def ac_ref13_Ledger_Resize_6 : AC := .reg l_ref13_Ledger_Resize_6
def l_ref13_Ledger_Resize_7 : List AOp := [⟨(some 19), .mv (.t 8), none, none, [], none⟩,
  ⟨(some 20), .bin .lss (.t 19) (.k (.int .i64 0)), none, none, [], none⟩]
def ac_ref13_Ledger_Resize_7 : AC := .reg l_ref13_Ledger_Resize_7
def l_ref13_Ledger_Resize_8 : List AOp := [⟨(some 21), .load (some 2) (.t 3), none, none, [], none⟩,
  ⟨none, .store 2 (.t 6) (.t 21), none, none, [], none⟩,
  ⟨(some 7), .mv (.k (.int .i64 4)), none, none, [], none⟩]
def ac_ref13_Ledger_Resize_8 : AC := .reg l_ref13_Ledger_Resize_8
def ac_ref13_Ledger_Resize_9 : AC := .seq ac_ref13_Ledger_Resize_8 .ret
def ac_ref13_Ledger_Resize_10 : AC := .cond (.t 20) ac_ref13_Ledger_Resize_9 .skip
def ac_ref13_Ledger_Resize_11 : AC := .seq ac_ref13_Ledger_Resize_7 ac_ref13_Ledger_Resize_10
def l_ref13_Ledger_Resize_12 : List AOp := [⟨(some 22), .load (some 2) (.t 3), none, none, [], none⟩,
  ⟨(some 23), .mv (.t 1), none, none, [], none⟩,
  ⟨(some 24), .call false 38 [(.t 22), (.t 23)], none, none, [], none⟩,
  ⟨(some 25), .mv (.t 1), none, none, [], none⟩,
  ⟨(some 26), .mv (.t 2), none, none, [], none⟩,
  ⟨(some 27), .faddr 1 (.t 3), none, none, [], none⟩,
  ⟨(some 28), .load none (.t 27), none, none, [], none⟩,
  ⟨(some 29), .mv (.t 8), none, none, [], none⟩,
  ⟨(some 30), .isl 3 (.t 28) (.t 29), none, none, [], none⟩,
  ⟨(some 31), .faddr 2 (.t 30), none, none, [], none⟩,
  ⟨(some 32), .load none (.t 31), none, none, [], none⟩,
  ⟨(some 33), .build [(.int .i64 0), (.int .i64 0), (.int .i64 0)] [(0, 1, (.t 25)), (1, 1, (.t 26)), (2, 1, (.t 32))], none, none, [], none⟩,
  ⟨(some 34), .call false 37 [(.t 24), (.t 33)], none, none, [], none⟩,
  ⟨none, .store 2 (.t 6) (.t 34), none, none, [], none⟩,
  ⟨(some 7), .mv (.k (.int .i64 0)), none, none, [], none⟩]
def ac_ref13_Ledger_Resize_12 : AC := .dreg 0 l_ref13_Ledger_Resize_12
def ac_ref13_Ledger_Resize_13 : AC := .seq ac_ref13_Ledger_Resize_12 .ret
def ac_ref13_Ledger_Resize_14 : AC := .seq ac_ref13_Ledger_Resize_11 ac_ref13_Ledger_Resize_13
def ac_ref13_Ledger_Resize_15 : AC := .seq ac_ref13_Ledger_Resize_6 ac_ref13_Ledger_Resize_14
def ac_ref13_Ledger_Resize_16 : AC := .seq ac_ref13_Ledger_Resize_5 ac_ref13_Ledger_Resize_15
def ac_ref13_Ledger_Resize_17 : AC := .seq ac_ref13_Ledger_Resize_0 ac_ref13_Ledger_Resize_16
def ac_ref13_Ledger_Resize : AC := ac_ref13_Ledger_Resize_17
theorem comp_ref13_Ledger_Resize : compF Try.prog [] (drawR Try.prog [] Try.f29.ntmps) [] 3 Try.f29 = some (ac_ref13_Ledger_Resize, [.c 6 (some 2), .t 7]) := by kernel_rfl
def U_ref13_Ledger_Resize := (And.intro (And.intro (And.intro (And.intro (And.intro @ac_ref13_Ledger_Resize.eq_1 (@mR _ _ ac_ref13_Ledger_Resize_0.eq_1)) (And.intro (@mR _ _ ac_ref13_Ledger_Resize_1.eq_1) (@mR _ _ ac_ref13_Ledger_Resize_2.eq_1))) (And.intro (And.intro (@mU _ _ ac_ref13_Ledger_Resize_3.eq_1) (@mU _ _ ac_ref13_Ledger_Resize_4.eq_1)) (@mU _ _ ac_ref13_Ledger_Resize_5.eq_1))) (And.intro (And.intro (And.intro (@mR _ _ ac_ref13_Ledger_Resize_6.eq_1) (@mR _ _ ac_ref13_Ledger_Resize_7.eq_1)) (@mR _ _ ac_ref13_Ledger_Resize_8.eq_1)) (And.intro (And.intro (@mU _ _ ac_ref13_Ledger_Resize_9.eq_1) (@mU _ _ ac_ref13_Ledger_Resize_10.eq_1)) (@mU _ _ ac_ref13_Ledger_Resize_11.eq_1)))) (And.intro (And.intro (And.intro (And.intro (@mD _ _ _ ac_ref13_Ledger_Resize_12.eq_1) (@mU _ _ ac_ref13_Ledger_Resize_13.eq_1)) (And.intro (@mU _ _ ac_ref13_Ledger_Resize_14.eq_1) (@mU _ _ ac_ref13_Ledger_Resize_15.eq_1))) (And.intro (And.intro (@mU _ _ ac_ref13_Ledger_Resize_16.eq_1) (@mU _ _ ac_ref13_Ledger_Resize_17.eq_1)) @l_ref13_Ledger_Resize_0.eq_1)) (And.intro (And.intro (And.intro @l_ref13_Ledger_Resize_1.eq_1 @l_ref13_Ledger_Resize_2.eq_1) @l_ref13_Ledger_Resize_6.eq_1) (And.intro (And.intro @l_ref13_Ledger_Resize_7.eq_1 @l_ref13_Ledger_Resize_8.eq_1) @l_ref13_Ledger_Resize_12.eq_1))))

/- (scoria/scoriaref13.Ledger).Charge -/
def l_ref13_Ledger_Charge_0 : List AOp := [⟨(some 3), .box (.t 0), none, none, [], none⟩,
  ⟨(some 6), .alloc [(.int .i64 0), (.slc [])], none, none, [], none⟩,
  ⟨(some 7), .mv (.k (.int .i64 0)), none, none, [], none⟩]
def ac_ref13_Ledger_Charge_0 : AC := .reg l_ref13_Ledger_Charge_0
def l_ref13_Ledger_Charge_1 : List AOp := [⟨(some 9), .mv (.t 2), none, none, [], none⟩,
  ⟨(some 10), .bin .lss (.t 9) (.k (.int .i64 0)), none, none, [], none⟩]
def ac_ref13_Ledger_Charge_1 : AC := .reg l_ref13_Ledger_Charge_1
def l_ref13_Ledger_Charge_2 : List AOp := [⟨(some 11), .load (some 2) (.t 3), none, none, [], none⟩,
  ⟨none, .store 2 (.t 6) (.t 11), none, none, [], none⟩,
  ⟨(some 7), .mv (.k (.int .i64 1)), none, none, [], none⟩]
def ac_ref13_Ledger_Charge_2 : AC := .reg l_ref13_Ledger_Charge_2
def ac_ref13_Ledger_Charge_3 : AC := .seq ac_ref13_Ledger_Charge_2 .ret
def ac_ref13_Ledger_Charge_4 : AC := .cond (.t 10) ac_ref13_Ledger_Charge_3 .skip
def ac_ref13_Ledger_Charge_5 : AC := .seq ac_ref13_Ledger_Charge_1 ac_ref13_Ledger_Charge_4
def l_ref13_Ledger_Charge_6 : List AOp := [⟨(some 12), .load (some 2) (.t 3), none, none, [], none⟩,
  ⟨(some 13), .mv (.t 1), none, none, [], none⟩,
  ⟨(some 14), .call false 36 [(.t 12), (.t 13)], none, none, [], none⟩,
  ⟨(some 8), .mv (.t 14), none, none, [], none⟩]
def ac_ref13_Ledger_Charge_6 : AC := .reg l_ref13_Ledger_Charge_6
def l_ref13_Ledger_Charge_7 : List AOp := [⟨(some 15), .mv (.t 8), none, none, [], none⟩,
  ⟨(some 16), .bin .lss (.t 15) (.k (.int .i64 0)), none, none, [], none⟩]
def ac_ref13_Ledger_Charge_7 : AC := .reg l_ref13_Ledger_Charge_7
def l_ref13_Ledger_Charge_8 : List AOp := [⟨(some 17), .load (some 2) (.t 3), none, none, [], none⟩,
  ⟨none, .store 2 (.t 6) (.t 17), none, none, [], none⟩,
  ⟨(some 7), .mv (.k (.int .i64 4)), none, none, [], none⟩]
def ac_ref13_Ledger_Charge_8 : AC := .reg l_ref13_Ledger_Charge_8
def ac_ref13_Ledger_Charge_9 : AC := .seq ac_ref13_Ledger_Charge_8 .ret
def ac_ref13_Ledger_Charge_10 : AC := .cond (.t 16) ac_ref13_Ledger_Charge_9 .skip
def ac_ref13_Ledger_Charge_11 : AC := .seq ac_ref13_Ledger_Charge_7 ac_ref13_Ledger_Charge_10
def l_ref13_Ledger_Charge_12 : List AOp := [⟨(some 18), .mv (.t 2), none, none, [], none⟩,
  ⟨(some 19), .faddr 0 (.t 3), none, none, [], none⟩,
  ⟨(some 20), .load none (.t 19), none, none, [], none⟩,
  ⟨(some 21), .load (some 2) (.t 3), none, none, [], none⟩,
  ⟨(some 22), .call false 32 [(.t 21)], none, none, [], none⟩,
  ⟨(some 23), .bin .sub (.t 20) (.t 22), none, none, [], none⟩,
  ⟨(some 24), .bin .gtr (.t 18) (.t 23), none, none, [], none⟩]
def ac_ref13_Ledger_Charge_12 : AC := .dreg 0 l_ref13_Ledger_Charge_12
def l_ref13_Ledger_Charge_13 : List AOp := [⟨(some 25), .load (some 2) (.t 3), none, none, [], none⟩,
  ⟨none, .store 2 (.t 6) (.t 25), none, none, [], none⟩,
  ⟨(some 7), .mv (.k (.int .i64 71)), none, none, [], none⟩]
def ac_ref13_Ledger_Charge_13 : AC := .reg l_ref13_Ledger_Charge_13
def ac_ref13_Ledger_Charge_14 : AC := .seq ac_ref13_Ledger_Charge_13 .ret
def ac_ref13_Ledger_Charge_15 : AC := .cond (.t 24) ac_ref13_Ledger_Charge_14 .skip
def ac_ref13_Ledger_Charge_16 : AC := .seq ac_ref13_Ledger_Charge_12 ac_ref13_Ledger_Charge_15
def l_ref13_Ledger_Charge_17 : List AOp := [⟨(some 26), .load (some 2) (.t 3), none, none, [], none⟩,
  ⟨(some 27), .mv (.t 1), none, none, [], none⟩,
  ⟨(some 28), .call false 38 [(.t 26), (.t 27)], none, none, [], none⟩,
  ⟨(some 29), .mv (.t 1), none, none, [], none⟩,
  ⟨(some 30), .faddr 1 (.t 3), none, none, [], none⟩,
  ⟨(some 31), .load none (.t 30), none, none, [], none⟩,
  ⟨(some 32), .mv (.t 8), none, none, [], none⟩,
  ⟨(some 33), .isl 3 (.t 31) (.t 32), none, none, [], none⟩,
  ⟨(some 34), .faddr 1 (.t 33), none, none, [], none⟩,
  ⟨(some 35), .load none (.t 34), none, none, [], none⟩,
  ⟨(some 36), .faddr 1 (.t 3), none, none, [], none⟩,
  ⟨(some 37), .load none (.t 36), none, none, [], none⟩,
  ⟨(some 38), .mv (.t 8), none, none, [], none⟩,
  ⟨(some 39), .isl 3 (.t 37) (.t 38), none, none, [], none⟩,
  ⟨(some 40), .faddr 2 (.t 39), none, none, [], none⟩,
  ⟨(some 41), .load none (.t 40), none, none, [], none⟩,
  ⟨(some 42), .mv (.t 2), none, none, [], none⟩,
  ⟨(some 43), .bin .add (.t 41) (.t 42), none, none, [], none⟩,
  ⟨(some 44), .build [(.int .i64 0), (.int .i64 0), (.int .i64 0)] [(0, 1, (.t 29)), (1, 1, (.t 35)), (2, 1, (.t 43))], none, none, [], none⟩,
  ⟨(some 45), .call false 37 [(.t 28), (.t 44)], none, none, [], none⟩,
  ⟨none, .store 2 (.t 6) (.t 45), none, none, [], none⟩,
  ⟨(some 7), .mv (.k (.int .i64 0)), none, none, [], none⟩]
def ac_ref13_Ledger_Charge_17 : AC := .dreg 0 l_ref13_Ledger_Charge_17
def ac_ref13_Ledger_Charge_18 : AC := .seq ac_ref13_Ledger_Charge_17 .ret
def ac_ref13_Ledger_Charge_19 : AC := .seq ac_ref13_Ledger_Charge_16 ac_ref13_Ledger_Charge_18
def ac_ref13_Ledger_Charge_20 : AC := .seq ac_ref13_Ledger_Charge_11 ac_ref13_Ledger_Charge_19
def ac_ref13_Ledger_Charge_21 : AC := .seq ac_ref13_Ledger_Charge_6 ac_ref13_Ledger_Charge_20
def ac_ref13_Ledger_Charge_22 : AC := .seq ac_ref13_Ledger_Charge_5 ac_ref13_Ledger_Charge_21
def ac_ref13_Ledger_Charge_23 : AC := .seq ac_ref13_Ledger_Charge_0 ac_ref13_Ledger_Charge_22
def ac_ref13_Ledger_Charge : AC := ac_ref13_Ledger_Charge_23
theorem comp_ref13_Ledger_Charge : compF Try.prog [] (drawR Try.prog [] Try.f30.ntmps) [] 3 Try.f30 = some (ac_ref13_Ledger_Charge, [.c 6 (some 2), .t 7]) := by kernel_rfl
def U_ref13_Ledger_Charge := (And.intro (And.intro (And.intro (And.intro (And.intro (And.intro @ac_ref13_Ledger_Charge.eq_1 (@mR _ _ ac_ref13_Ledger_Charge_0.eq_1)) (@mR _ _ ac_ref13_Ledger_Charge_1.eq_1)) (And.intro (@mR _ _ ac_ref13_Ledger_Charge_2.eq_1) (@mU _ _ ac_ref13_Ledger_Charge_3.eq_1))) (And.intro (And.intro (@mU _ _ ac_ref13_Ledger_Charge_4.eq_1) (@mU _ _ ac_ref13_Ledger_Charge_5.eq_1)) (And.intro (@mR _ _ ac_ref13_Ledger_Charge_6.eq_1) (@mR _ _ ac_ref13_Ledger_Charge_7.eq_1)))) (And.intro (And.intro (And.intro (@mR _ _ ac_ref13_Ledger_Charge_8.eq_1) (@mU _ _ ac_ref13_Ledger_Charge_9.eq_1)) (And.intro (@mU _ _ ac_ref13_Ledger_Charge_10.eq_1) (@mU _ _ ac_ref13_Ledger_Charge_11.eq_1))) (And.intro (And.intro (@mD _ _ _ ac_ref13_Ledger_Charge_12.eq_1) (@mR _ _ ac_ref13_Ledger_Charge_13.eq_1)) (And.intro (@mU _ _ ac_ref13_Ledger_Charge_14.eq_1) (@mU _ _ ac_ref13_Ledger_Charge_15.eq_1))))) (And.intro (And.intro (And.intro (And.intro (And.intro (@mU _ _ ac_ref13_Ledger_Charge_16.eq_1) (@mD _ _ _ ac_ref13_Ledger_Charge_17.eq_1)) (@mU _ _ ac_ref13_Ledger_Charge_18.eq_1)) (And.intro (@mU _ _ ac_ref13_Ledger_Charge_19.eq_1) (@mU _ _ ac_ref13_Ledger_Charge_20.eq_1))) (And.intro (And.intro (@mU _ _ ac_ref13_Ledger_Charge_21.eq_1) (@mU _ _ ac_ref13_Ledger_Charge_22.eq_1)) (And.intro (@mU _ _ ac_ref13_Ledger_Charge_23.eq_1) @l_ref13_Ledger_Charge_0.eq_1))) (And.intro (And.intro (And.intro @l_ref13_Ledger_Charge_1.eq_1 @l_ref13_Ledger_Charge_2.eq_1) (And.intro @l_ref13_Ledger_Charge_6.eq_1 @l_ref13_Ledger_Charge_7.eq_1)) (And.intro (And.intro @l_ref13_Ledger_Charge_8.eq_1 @l_ref13_Ledger_Charge_12.eq_1) (And.intro @l_ref13_Ledger_Charge_13.eq_1 @l_ref13_Ledger_Charge_17.eq_1)))))

/- (scoria/scoriaref13.Ledger).Credit -/
def l_ref13_Ledger_Credit_0 : List AOp := [⟨(some 3), .box (.t 0), none, none, [], none⟩,
  ⟨(some 6), .alloc [(.int .i64 0), (.slc [])], none, none, [], none⟩,
  ⟨(some 7), .mv (.k (.int .i64 0)), none, none, [], none⟩]
def ac_ref13_Ledger_Credit_0 : AC := .reg l_ref13_Ledger_Credit_0
def l_ref13_Ledger_Credit_1 : List AOp := [⟨(some 9), .mv (.t 2), none, none, [], none⟩,
  ⟨(some 10), .bin .lss (.t 9) (.k (.int .i64 0)), none, none, [], none⟩]
def ac_ref13_Ledger_Credit_1 : AC := .reg l_ref13_Ledger_Credit_1
def l_ref13_Ledger_Credit_2 : List AOp := [⟨(some 11), .load (some 2) (.t 3), none, none, [], none⟩,
  ⟨none, .store 2 (.t 6) (.t 11), none, none, [], none⟩,
  ⟨(some 7), .mv (.k (.int .i64 1)), none, none, [], none⟩]
def ac_ref13_Ledger_Credit_2 : AC := .reg l_ref13_Ledger_Credit_2
def ac_ref13_Ledger_Credit_3 : AC := .seq ac_ref13_Ledger_Credit_2 .ret
def ac_ref13_Ledger_Credit_4 : AC := .cond (.t 10) ac_ref13_Ledger_Credit_3 .skip
def ac_ref13_Ledger_Credit_5 : AC := .seq ac_ref13_Ledger_Credit_1 ac_ref13_Ledger_Credit_4
def l_ref13_Ledger_Credit_6 : List AOp := [⟨(some 12), .load (some 2) (.t 3), none, none, [], none⟩,
  ⟨(some 13), .mv (.t 1), none, none, [], none⟩,
  ⟨(some 14), .call false 36 [(.t 12), (.t 13)], none, none, [], none⟩,
  ⟨(some 8), .mv (.t 14), none, none, [], none⟩]
def ac_ref13_Ledger_Credit_6 : AC := .reg l_ref13_Ledger_Credit_6
def l_ref13_Ledger_Credit_7 : List AOp := [⟨(some 15), .mv (.t 8), none, none, [], none⟩,
  ⟨(some 16), .bin .lss (.t 15) (.k (.int .i64 0)), none, none, [], none⟩]
def ac_ref13_Ledger_Credit_7 : AC := .reg l_ref13_Ledger_Credit_7
def l_ref13_Ledger_Credit_8 : List AOp := [⟨(some 17), .load (some 2) (.t 3), none, none, [], none⟩,
  ⟨none, .store 2 (.t 6) (.t 17), none, none, [], none⟩,
  ⟨(some 7), .mv (.k (.int .i64 4)), none, none, [], none⟩]
def ac_ref13_Ledger_Credit_8 : AC := .reg l_ref13_Ledger_Credit_8
def ac_ref13_Ledger_Credit_9 : AC := .seq ac_ref13_Ledger_Credit_8 .ret
def ac_ref13_Ledger_Credit_10 : AC := .cond (.t 16) ac_ref13_Ledger_Credit_9 .skip
def ac_ref13_Ledger_Credit_11 : AC := .seq ac_ref13_Ledger_Credit_7 ac_ref13_Ledger_Credit_10
def l_ref13_Ledger_Credit_12 : List AOp := [⟨(some 18), .mv (.t 2), none, none, [], none⟩,
  ⟨(some 19), .faddr 1 (.t 3), none, none, [], none⟩,
  ⟨(some 20), .load none (.t 19), none, none, [], none⟩,
  ⟨(some 21), .mv (.t 8), none, none, [], none⟩,
  ⟨(some 22), .isl 3 (.t 20) (.t 21), none, none, [], none⟩,
  ⟨(some 23), .faddr 2 (.t 22), none, none, [], none⟩,
  ⟨(some 24), .load none (.t 23), none, none, [], none⟩,
  ⟨(some 25), .bin .gtr (.t 18) (.t 24), none, none, [], none⟩]
def ac_ref13_Ledger_Credit_12 : AC := .reg l_ref13_Ledger_Credit_12
def l_ref13_Ledger_Credit_13 : List AOp := [⟨(some 26), .load (some 2) (.t 3), none, none, [], none⟩,
  ⟨none, .store 2 (.t 6) (.t 26), none, none, [], none⟩,
  ⟨(some 7), .mv (.k (.int .i64 1)), none, none, [], none⟩]
def ac_ref13_Ledger_Credit_13 : AC := .reg l_ref13_Ledger_Credit_13
def ac_ref13_Ledger_Credit_14 : AC := .seq ac_ref13_Ledger_Credit_13 .ret
def ac_ref13_Ledger_Credit_15 : AC := .cond (.t 25) ac_ref13_Ledger_Credit_14 .skip
def ac_ref13_Ledger_Credit_16 : AC := .seq ac_ref13_Ledger_Credit_12 ac_ref13_Ledger_Credit_15
def l_ref13_Ledger_Credit_17 : List AOp := [⟨(some 27), .load (some 2) (.t 3), none, none, [], none⟩,
  ⟨(some 28), .mv (.t 1), none, none, [], none⟩,
  ⟨(some 29), .call false 38 [(.t 27), (.t 28)], none, none, [], none⟩,
  ⟨(some 30), .mv (.t 1), none, none, [], none⟩,
  ⟨(some 31), .faddr 1 (.t 3), none, none, [], none⟩,
  ⟨(some 32), .load none (.t 31), none, none, [], none⟩,
  ⟨(some 33), .mv (.t 8), none, none, [], none⟩,
  ⟨(some 34), .isl 3 (.t 32) (.t 33), none, none, [], none⟩,
  ⟨(some 35), .faddr 1 (.t 34), none, none, [], none⟩,
  ⟨(some 36), .load none (.t 35), none, none, [], none⟩,
  ⟨(some 37), .faddr 1 (.t 3), none, none, [], none⟩,
  ⟨(some 38), .load none (.t 37), none, none, [], none⟩,
  ⟨(some 39), .mv (.t 8), none, none, [], none⟩,
  ⟨(some 40), .isl 3 (.t 38) (.t 39), none, none, [], none⟩,
  ⟨(some 41), .faddr 2 (.t 40), none, none, [], none⟩,
  ⟨(some 42), .load none (.t 41), none, none, [], none⟩,
  ⟨(some 43), .mv (.t 2), none, none, [], none⟩,
  ⟨(some 44), .bin .sub (.t 42) (.t 43), none, none, [], none⟩,
  ⟨(some 45), .build [(.int .i64 0), (.int .i64 0), (.int .i64 0)] [(0, 1, (.t 30)), (1, 1, (.t 36)), (2, 1, (.t 44))], none, none, [], none⟩,
  ⟨(some 46), .call false 37 [(.t 29), (.t 45)], none, none, [], none⟩,
  ⟨none, .store 2 (.t 6) (.t 46), none, none, [], none⟩,
  ⟨(some 7), .mv (.k (.int .i64 0)), none, none, [], none⟩]
def ac_ref13_Ledger_Credit_17 : AC := .dreg 0 l_ref13_Ledger_Credit_17
def ac_ref13_Ledger_Credit_18 : AC := .seq ac_ref13_Ledger_Credit_17 .ret
def ac_ref13_Ledger_Credit_19 : AC := .seq ac_ref13_Ledger_Credit_16 ac_ref13_Ledger_Credit_18
def ac_ref13_Ledger_Credit_20 : AC := .seq ac_ref13_Ledger_Credit_11 ac_ref13_Ledger_Credit_19
def ac_ref13_Ledger_Credit_21 : AC := .seq ac_ref13_Ledger_Credit_6 ac_ref13_Ledger_Credit_20
def ac_ref13_Ledger_Credit_22 : AC := .seq ac_ref13_Ledger_Credit_5 ac_ref13_Ledger_Credit_21
def ac_ref13_Ledger_Credit_23 : AC := .seq ac_ref13_Ledger_Credit_0 ac_ref13_Ledger_Credit_22
def ac_ref13_Ledger_Credit : AC := ac_ref13_Ledger_Credit_23
theorem comp_ref13_Ledger_Credit : compF Try.prog [] (drawR Try.prog [] Try.f31.ntmps) [] 3 Try.f31 = some (ac_ref13_Ledger_Credit, [.c 6 (some 2), .t 7]) := by kernel_rfl
def U_ref13_Ledger_Credit := (And.intro (And.intro (And.intro (And.intro (And.intro (And.intro @ac_ref13_Ledger_Credit.eq_1 (@mR _ _ ac_ref13_Ledger_Credit_0.eq_1)) (@mR _ _ ac_ref13_Ledger_Credit_1.eq_1)) (And.intro (@mR _ _ ac_ref13_Ledger_Credit_2.eq_1) (@mU _ _ ac_ref13_Ledger_Credit_3.eq_1))) (And.intro (And.intro (@mU _ _ ac_ref13_Ledger_Credit_4.eq_1) (@mU _ _ ac_ref13_Ledger_Credit_5.eq_1)) (And.intro (@mR _ _ ac_ref13_Ledger_Credit_6.eq_1) (@mR _ _ ac_ref13_Ledger_Credit_7.eq_1)))) (And.intro (And.intro (And.intro (@mR _ _ ac_ref13_Ledger_Credit_8.eq_1) (@mU _ _ ac_ref13_Ledger_Credit_9.eq_1)) (And.intro (@mU _ _ ac_ref13_Ledger_Credit_10.eq_1) (@mU _ _ ac_ref13_Ledger_Credit_11.eq_1))) (And.intro (And.intro (@mR _ _ ac_ref13_Ledger_Credit_12.eq_1) (@mR _ _ ac_ref13_Ledger_Credit_13.eq_1)) (And.intro (@mU _ _ ac_ref13_Ledger_Credit_14.eq_1) (@mU _ _ ac_ref13_Ledger_Credit_15.eq_1))))) (And.intro (And.intro (And.intro (And.intro (And.intro (@mU _ _ ac_ref13_Ledger_Credit_16.eq_1) (@mD _ _ _ ac_ref13_Ledger_Credit_17.eq_1)) (@mU _ _ ac_ref13_Ledger_Credit_18.eq_1)) (And.intro (@mU _ _ ac_ref13_Ledger_Credit_19.eq_1) (@mU _ _ ac_ref13_Ledger_Credit_20.eq_1))) (And.intro (And.intro (@mU _ _ ac_ref13_Ledger_Credit_21.eq_1) (@mU _ _ ac_ref13_Ledger_Credit_22.eq_1)) (And.intro (@mU _ _ ac_ref13_Ledger_Credit_23.eq_1) @l_ref13_Ledger_Credit_0.eq_1))) (And.intro (And.intro (And.intro @l_ref13_Ledger_Credit_1.eq_1 @l_ref13_Ledger_Credit_2.eq_1) (And.intro @l_ref13_Ledger_Credit_6.eq_1 @l_ref13_Ledger_Credit_7.eq_1)) (And.intro (And.intro @l_ref13_Ledger_Credit_8.eq_1 @l_ref13_Ledger_Credit_12.eq_1) (And.intro @l_ref13_Ledger_Credit_13.eq_1 @l_ref13_Ledger_Credit_17.eq_1)))))

/- (scoria/scoriaref13.Ledger).Total -/
def l_ref13_Ledger_Total_0 : List AOp := [⟨(some 1), .box (.t 0), none, none, [], none⟩,
  ⟨(some 2), .mv (.k (.int .i64 0)), none, none, [], none⟩]
def ac_ref13_Ledger_Total_0 : AC := .reg l_ref13_Ledger_Total_0
def l_ref13_Ledger_Total_1 : List AOp := [⟨(some 3), .mv (.k (.int .i64 0)), none, none, [], none⟩]
def ac_ref13_Ledger_Total_1 : AC := .reg l_ref13_Ledger_Total_1
def l_ref13_Ledger_Total_2 : List AOp := [⟨(some 4), .mv (.k (.int .i64 0)), none, none, [], none⟩]
def ac_ref13_Ledger_Total_2 : AC := .reg l_ref13_Ledger_Total_2
def l_ref13_Ledger_Total_3 : List AOp := [⟨(some 5), .mv (.t 4), none, none, [], none⟩,
  ⟨(some 6), .faddr 1 (.t 1), none, none, [], none⟩,
  ⟨(some 7), .load none (.t 6), none, none, [], none⟩,
  ⟨(some 8), .len (.t 7), none, none, [], none⟩,
  ⟨(some 9), .bin .lss (.t 5) (.t 8), none, none, [], none⟩]
def ac_ref13_Ledger_Total_3 : AC := .reg l_ref13_Ledger_Total_3
def ac_ref13_Ledger_Total_4 : AC := .cond (.t 9) .skip (.exit 0)
def ac_ref13_Ledger_Total_5 : AC := .seq ac_ref13_Ledger_Total_3 ac_ref13_Ledger_Total_4
def l_ref13_Ledger_Total_6 : List AOp := [⟨(some 12), .mv (.t 3), none, none, [], none⟩,
  ⟨(some 13), .faddr 1 (.t 1), none, none, [], none⟩,
  ⟨(some 14), .load none (.t 13), none, none, [], none⟩,
  ⟨(some 15), .mv (.t 4), none, none, [], none⟩,
  ⟨(some 16), .isl 3 (.t 14) (.t 15), none, none, [], none⟩,
  ⟨(some 17), .faddr 2 (.t 16), none, none, [], none⟩,
  ⟨(some 18), .load none (.t 17), none, none, [], none⟩,
  ⟨(some 19), .bin .add (.t 12) (.t 18), none, none, [], none⟩,
  ⟨(some 3), .mv (.t 19), none, none, [], none⟩]
def ac_ref13_Ledger_Total_6 : AC := .reg l_ref13_Ledger_Total_6
def ac_ref13_Ledger_Total_7 : AC := .block 1 ac_ref13_Ledger_Total_6
def l_ref13_Ledger_Total_8 : List AOp := [⟨(some 10), .mv (.t 4), none, none, [], none⟩,
  ⟨(some 11), .bin .add (.t 10) (.k (.int .i64 1)), none, none, [], none⟩,
  ⟨(some 4), .mv (.t 11), none, none, [], none⟩]
def ac_ref13_Ledger_Total_8 : AC := .reg l_ref13_Ledger_Total_8
def ac_ref13_Ledger_Total_9 : AC := .seq ac_ref13_Ledger_Total_7 ac_ref13_Ledger_Total_8
def ac_ref13_Ledger_Total_10 : AC := .seq ac_ref13_Ledger_Total_5 ac_ref13_Ledger_Total_9
def ac_ref13_Ledger_Total_11 : AC := .loop [1, 3, 4] 1 ac_ref13_Ledger_Total_10
def ac_ref13_Ledger_Total_12 : AC := .block 0 ac_ref13_Ledger_Total_11
def ac_ref13_Ledger_Total_13 : AC := .seq ac_ref13_Ledger_Total_2 ac_ref13_Ledger_Total_12
def l_ref13_Ledger_Total_14 : List AOp := [⟨(some 20), .mv (.t 3), none, none, [], none⟩,
  ⟨(some 2), .mv (.t 20), none, none, [], none⟩]
def ac_ref13_Ledger_Total_14 : AC := .reg l_ref13_Ledger_Total_14
def ac_ref13_Ledger_Total_15 : AC := .seq ac_ref13_Ledger_Total_14 .ret
def ac_ref13_Ledger_Total_16 : AC := .seq ac_ref13_Ledger_Total_13 ac_ref13_Ledger_Total_15
def ac_ref13_Ledger_Total_17 : AC := .seq ac_ref13_Ledger_Total_1 ac_ref13_Ledger_Total_16
def ac_ref13_Ledger_Total_18 : AC := .seq ac_ref13_Ledger_Total_0 ac_ref13_Ledger_Total_17
def ac_ref13_Ledger_Total : AC := ac_ref13_Ledger_Total_18
theorem comp_ref13_Ledger_Total : compF Try.prog [] (drawR Try.prog [] Try.f32.ntmps) [([1, 3, 4], 1)] 1 Try.f32 = some (ac_ref13_Ledger_Total, [.t 2]) := by kernel_rfl
def U_ref13_Ledger_Total := (And.intro (And.intro (And.intro (And.intro (And.intro @ac_ref13_Ledger_Total.eq_1 (@mR _ _ ac_ref13_Ledger_Total_0.eq_1)) (And.intro (@mR _ _ ac_ref13_Ledger_Total_1.eq_1) (@mR _ _ ac_ref13_Ledger_Total_2.eq_1))) (And.intro (And.intro (@mR _ _ ac_ref13_Ledger_Total_3.eq_1) (@mU _ _ ac_ref13_Ledger_Total_4.eq_1)) (@mU _ _ ac_ref13_Ledger_Total_5.eq_1))) (And.intro (And.intro (And.intro (@mR _ _ ac_ref13_Ledger_Total_6.eq_1) (@mU _ _ ac_ref13_Ledger_Total_7.eq_1)) (And.intro (@mR _ _ ac_ref13_Ledger_Total_8.eq_1) (@mU _ _ ac_ref13_Ledger_Total_9.eq_1))) (And.intro (And.intro (@mU _ _ ac_ref13_Ledger_Total_10.eq_1) (@mU _ _ ac_ref13_Ledger_Total_11.eq_1)) (@mU _ _ ac_ref13_Ledger_Total_12.eq_1)))) (And.intro (And.intro (And.intro (And.intro (@mU _ _ ac_ref13_Ledger_Total_13.eq_1) (@mR _ _ ac_ref13_Ledger_Total_14.eq_1)) (And.intro (@mU _ _ ac_ref13_Ledger_Total_15.eq_1) (@mU _ _ ac_ref13_Ledger_Total_16.eq_1))) (And.intro (And.intro (@mU _ _ ac_ref13_Ledger_Total_17.eq_1) (@mU _ _ ac_ref13_Ledger_Total_18.eq_1)) @l_ref13_Ledger_Total_0.eq_1)) (And.intro (And.intro (And.intro @l_ref13_Ledger_Total_1.eq_1 @l_ref13_Ledger_Total_2.eq_1) @l_ref13_Ledger_Total_3.eq_1) (And.intro (And.intro @l_ref13_Ledger_Total_6.eq_1 @l_ref13_Ledger_Total_8.eq_1) @l_ref13_Ledger_Total_14.eq_1))))

/- (scoria/scoriaref13.Ledger).Find -/
def l_ref13_Ledger_Find_0 : List AOp := [⟨(some 2), .box (.t 0), none, none, [], none⟩,
  ⟨(some 4), .mv (.k (.int .i64 0)), none, none, [], none⟩]
def ac_ref13_Ledger_Find_0 : AC := .reg l_ref13_Ledger_Find_0
def l_ref13_Ledger_Find_1 : List AOp := [⟨(some 5), .mv (.k (.int .i64 0)), none, none, [], none⟩]
def ac_ref13_Ledger_Find_1 : AC := .reg l_ref13_Ledger_Find_1
def l_ref13_Ledger_Find_2 : List AOp := [⟨(some 6), .mv (.t 5), none, none, [], none⟩,
  ⟨(some 7), .faddr 1 (.t 2), none, none, [], none⟩,
  ⟨(some 8), .load none (.t 7), none, none, [], none⟩,
  ⟨(some 9), .len (.t 8), none, none, [], none⟩,
  ⟨(some 10), .bin .lss (.t 6) (.t 9), none, none, [], none⟩]
def ac_ref13_Ledger_Find_2 : AC := .reg l_ref13_Ledger_Find_2
def ac_ref13_Ledger_Find_3 : AC := .cond (.t 10) .skip (.exit 0)
def ac_ref13_Ledger_Find_4 : AC := .seq ac_ref13_Ledger_Find_2 ac_ref13_Ledger_Find_3
def l_ref13_Ledger_Find_5 : List AOp := [⟨(some 13), .faddr 1 (.t 2), none, none, [], none⟩,
  ⟨(some 14), .load none (.t 13), none, none, [], none⟩,
  ⟨(some 15), .mv (.t 5), none, none, [], none⟩,
  ⟨(some 16), .isl 3 (.t 14) (.t 15), none, none, [], none⟩,
  ⟨(some 17), .faddr 0 (.t 16), none, none, [], none⟩,
  ⟨(some 18), .load none (.t 17), none, none, [], none⟩,
  ⟨(some 19), .mv (.t 1), none, none, [], none⟩,
  ⟨(some 20), .bin .eql (.t 18) (.t 19), none, none, [], none⟩]
def ac_ref13_Ledger_Find_5 : AC := .reg l_ref13_Ledger_Find_5
def l_ref13_Ledger_Find_6 : List AOp := [⟨(some 21), .mv (.t 5), none, none, [], none⟩,
  ⟨(some 4), .mv (.t 21), none, none, [], none⟩]
def ac_ref13_Ledger_Find_6 : AC := .reg l_ref13_Ledger_Find_6
def ac_ref13_Ledger_Find_7 : AC := .seq ac_ref13_Ledger_Find_6 .ret
def ac_ref13_Ledger_Find_8 : AC := .cond (.t 20) ac_ref13_Ledger_Find_7 .skip
def ac_ref13_Ledger_Find_9 : AC := .seq ac_ref13_Ledger_Find_5 ac_ref13_Ledger_Find_8
def ac_ref13_Ledger_Find_10 : AC := .block 1 ac_ref13_Ledger_Find_9
def l_ref13_Ledger_Find_11 : List AOp := [⟨(some 11), .mv (.t 5), none, none, [], none⟩,
  ⟨(some 12), .bin .add (.t 11) (.k (.int .i64 1)), none, none, [], none⟩,
  ⟨(some 5), .mv (.t 12), none, none, [], none⟩]
def ac_ref13_Ledger_Find_11 : AC := .reg l_ref13_Ledger_Find_11
def ac_ref13_Ledger_Find_12 : AC := .seq ac_ref13_Ledger_Find_10 ac_ref13_Ledger_Find_11
def ac_ref13_Ledger_Find_13 : AC := .seq ac_ref13_Ledger_Find_4 ac_ref13_Ledger_Find_12
def ac_ref13_Ledger_Find_14 : AC := .loop [1, 2, 5] 1 ac_ref13_Ledger_Find_13
def ac_ref13_Ledger_Find_15 : AC := .block 0 ac_ref13_Ledger_Find_14
def ac_ref13_Ledger_Find_16 : AC := .seq ac_ref13_Ledger_Find_1 ac_ref13_Ledger_Find_15
def l_ref13_Ledger_Find_17 : List AOp := [⟨(some 4), .mv (.k (.int .i64 (-1))), none, none, [], none⟩]
def ac_ref13_Ledger_Find_17 : AC := .reg l_ref13_Ledger_Find_17
def ac_ref13_Ledger_Find_18 : AC := .seq ac_ref13_Ledger_Find_17 .ret
def ac_ref13_Ledger_Find_19 : AC := .seq ac_ref13_Ledger_Find_16 ac_ref13_Ledger_Find_18
def ac_ref13_Ledger_Find_20 : AC := .seq ac_ref13_Ledger_Find_0 ac_ref13_Ledger_Find_19
def ac_ref13_Ledger_Find : AC := ac_ref13_Ledger_Find_20
theorem comp_ref13_Ledger_Find : compF Try.prog [] (drawR Try.prog [] Try.f36.ntmps) [([1, 2, 5], 1)] 2 Try.f36 = some (ac_ref13_Ledger_Find, [.t 4]) := by kernel_rfl
def U_ref13_Ledger_Find := (And.intro (And.intro (And.intro (And.intro (And.intro @ac_ref13_Ledger_Find.eq_1 (@mR _ _ ac_ref13_Ledger_Find_0.eq_1)) (And.intro (@mR _ _ ac_ref13_Ledger_Find_1.eq_1) (@mR _ _ ac_ref13_Ledger_Find_2.eq_1))) (And.intro (And.intro (@mU _ _ ac_ref13_Ledger_Find_3.eq_1) (@mU _ _ ac_ref13_Ledger_Find_4.eq_1)) (And.intro (@mR _ _ ac_ref13_Ledger_Find_5.eq_1) (@mR _ _ ac_ref13_Ledger_Find_6.eq_1)))) (And.intro (And.intro (And.intro (@mU _ _ ac_ref13_Ledger_Find_7.eq_1) (@mU _ _ ac_ref13_Ledger_Find_8.eq_1)) (And.intro (@mU _ _ ac_ref13_Ledger_Find_9.eq_1) (@mU _ _ ac_ref13_Ledger_Find_10.eq_1))) (And.intro (And.intro (@mR _ _ ac_ref13_Ledger_Find_11.eq_1) (@mU _ _ ac_ref13_Ledger_Find_12.eq_1)) (@mU _ _ ac_ref13_Ledger_Find_13.eq_1)))) (And.intro (And.intro (And.intro (And.intro (@mU _ _ ac_ref13_Ledger_Find_14.eq_1) (@mU _ _ ac_ref13_Ledger_Find_15.eq_1)) (And.intro (@mU _ _ ac_ref13_Ledger_Find_16.eq_1) (@mR _ _ ac_ref13_Ledger_Find_17.eq_1))) (And.intro (And.intro (@mU _ _ ac_ref13_Ledger_Find_18.eq_1) (@mU _ _ ac_ref13_Ledger_Find_19.eq_1)) (@mU _ _ ac_ref13_Ledger_Find_20.eq_1))) (And.intro (And.intro (And.intro @l_ref13_Ledger_Find_0.eq_1 @l_ref13_Ledger_Find_1.eq_1) (And.intro @l_ref13_Ledger_Find_2.eq_1 @l_ref13_Ledger_Find_5.eq_1)) (And.intro (And.intro @l_ref13_Ledger_Find_6.eq_1 @l_ref13_Ledger_Find_11.eq_1) @l_ref13_Ledger_Find_17.eq_1))))

/- (scoria/scoriaref13.Ledger).with -/
def l_ref13_Ledger_with_0 : List AOp := [⟨(some 2), .box (.t 0), none, none, [], none⟩,
  ⟨(some 3), .box (.t 1), none, none, [], none⟩,
  ⟨(some 4), .alloc [(.int .i64 0), (.slc [])], none, none, [], none⟩]
def ac_ref13_Ledger_with_0 : AC := .reg l_ref13_Ledger_with_0
def l_ref13_Ledger_with_1 : List AOp := [⟨(some 5), .nilown 3, none, none, [], none⟩]
def ac_ref13_Ledger_with_1 : AC := .reg l_ref13_Ledger_with_1
def l_ref13_Ledger_with_2 : List AOp := [⟨(some 6), .mv (.k (.bool false)), none, none, [], none⟩]
def ac_ref13_Ledger_with_2 : AC := .reg l_ref13_Ledger_with_2
def l_ref13_Ledger_with_3 : List AOp := [⟨(some 7), .mv (.k (.int .i64 0)), none, none, [], none⟩]
def ac_ref13_Ledger_with_3 : AC := .reg l_ref13_Ledger_with_3
def l_ref13_Ledger_with_4 : List AOp := [⟨(some 8), .mv (.t 7), none, none, [], none⟩,
  ⟨(some 9), .faddr 1 (.t 2), none, none, [], none⟩,
  ⟨(some 10), .load none (.t 9), none, none, [], none⟩,
  ⟨(some 11), .len (.t 10), none, none, [], none⟩,
  ⟨(some 12), .bin .lss (.t 8) (.t 11), none, none, [], none⟩]
def ac_ref13_Ledger_with_4 : AC := .reg l_ref13_Ledger_with_4
def ac_ref13_Ledger_with_5 : AC := .cond (.t 12) .skip (.exit 0)
def ac_ref13_Ledger_with_6 : AC := .seq ac_ref13_Ledger_with_4 ac_ref13_Ledger_with_5
def l_ref13_Ledger_with_7 : List AOp := [⟨(some 15), .mv (.t 6), none, none, [], none⟩,
  ⟨(some 16), .un .not (.t 15), none, none, [], none⟩,
  ⟨(some 17), .mv (.t 16), none, none, [], none⟩,
  ⟨(some 18), .faddr 1 (.t 2), (some (17, true)), none, [], none⟩,
  ⟨(some 19), .load none (.t 18), (some (17, true)), none, [], none⟩,
  ⟨(some 20), .mv (.t 7), (some (17, true)), none, [], none⟩,
  ⟨(some 21), .isl 3 (.t 19) (.t 20), (some (17, true)), none, [], none⟩,
  ⟨(some 22), .faddr 0 (.t 21), (some (17, true)), none, [], none⟩,
  ⟨(some 23), .load none (.t 22), (some (17, true)), none, [], none⟩,
  ⟨(some 24), .faddr 0 (.t 3), (some (17, true)), none, [], none⟩,
  ⟨(some 25), .load none (.t 24), (some (17, true)), none, [], none⟩,
  ⟨(some 26), .bin .gtr (.t 23) (.t 25), (some (17, true)), none, [], none⟩,
  ⟨(some 27), .pick (.t 17) (.t 26) (.k (.bool false)), none, none, [], none⟩]
def ac_ref13_Ledger_with_7 : AC := .dreg 0 l_ref13_Ledger_with_7
def l_ref13_Ledger_with_8 : List AOp := [⟨(some 28), .mv (.t 5), none, none, [], none⟩,
  ⟨(some 29), .load (some 3) (.t 3), none, none, [], none⟩,
  ⟨(some 30), .blds false [(.int .i64 0), (.int .i64 0), (.int .i64 0)] 1 [(0, (.t 29))], none, none, [], none⟩,
  ⟨(some 31), .app 3 24 [(.int .i64 0), (.int .i64 0), (.int .i64 0)] (.t 28) (.t 30), none, none, [], none⟩,
  ⟨(some 5), .mv (.t 31), none, none, [], none⟩]
def ac_ref13_Ledger_with_8 : AC := .reg l_ref13_Ledger_with_8
def l_ref13_Ledger_with_9 : List AOp := [⟨(some 6), .mv (.k (.bool true)), none, none, [], none⟩]
def ac_ref13_Ledger_with_9 : AC := .reg l_ref13_Ledger_with_9
def ac_ref13_Ledger_with_10 : AC := .seq ac_ref13_Ledger_with_8 ac_ref13_Ledger_with_9
def ac_ref13_Ledger_with_11 : AC := .cond (.t 27) ac_ref13_Ledger_with_10 .skip
def ac_ref13_Ledger_with_12 : AC := .seq ac_ref13_Ledger_with_7 ac_ref13_Ledger_with_11
def l_ref13_Ledger_with_13 : List AOp := [⟨(some 32), .mv (.t 5), none, none, [], none⟩,
  ⟨(some 33), .faddr 1 (.t 2), none, none, [], none⟩,
  ⟨(some 34), .load none (.t 33), none, none, [], none⟩,
  ⟨(some 35), .mv (.t 7), none, none, [], none⟩,
  ⟨(some 36), .isl 3 (.t 34) (.t 35), none, none, [], none⟩,
  ⟨(some 37), .load (some 3) (.t 36), none, none, [], none⟩,
  ⟨(some 38), .blds false [(.int .i64 0), (.int .i64 0), (.int .i64 0)] 1 [(0, (.t 37))], none, none, [], none⟩,
  ⟨(some 39), .app 3 24 [(.int .i64 0), (.int .i64 0), (.int .i64 0)] (.t 32) (.t 38), none, none, [], none⟩,
  ⟨(some 5), .mv (.t 39), none, none, [], none⟩]
def ac_ref13_Ledger_with_13 : AC := .reg l_ref13_Ledger_with_13
def ac_ref13_Ledger_with_14 : AC := .seq ac_ref13_Ledger_with_12 ac_ref13_Ledger_with_13
def ac_ref13_Ledger_with_15 : AC := .block 1 ac_ref13_Ledger_with_14
def l_ref13_Ledger_with_16 : List AOp := [⟨(some 13), .mv (.t 7), none, none, [], none⟩,
  ⟨(some 14), .bin .add (.t 13) (.k (.int .i64 1)), none, none, [], none⟩,
  ⟨(some 7), .mv (.t 14), none, none, [], none⟩]
def ac_ref13_Ledger_with_16 : AC := .reg l_ref13_Ledger_with_16
def ac_ref13_Ledger_with_17 : AC := .seq ac_ref13_Ledger_with_15 ac_ref13_Ledger_with_16
def ac_ref13_Ledger_with_18 : AC := .seq ac_ref13_Ledger_with_6 ac_ref13_Ledger_with_17
def ac_ref13_Ledger_with_19 : AC := .loop [2, 3, 4, 5, 6, 7] 4 ac_ref13_Ledger_with_18
def ac_ref13_Ledger_with_20 : AC := .block 0 ac_ref13_Ledger_with_19
def ac_ref13_Ledger_with_21 : AC := .seq ac_ref13_Ledger_with_3 ac_ref13_Ledger_with_20
def l_ref13_Ledger_with_22 : List AOp := [⟨(some 40), .mv (.t 6), none, none, [], none⟩,
  ⟨(some 41), .un .not (.t 40), none, none, [], none⟩]
def ac_ref13_Ledger_with_22 : AC := .reg l_ref13_Ledger_with_22
def l_ref13_Ledger_with_23 : List AOp := [⟨(some 42), .mv (.t 5), none, none, [], none⟩,
  ⟨(some 43), .load (some 3) (.t 3), none, none, [], none⟩,
  ⟨(some 44), .blds false [(.int .i64 0), (.int .i64 0), (.int .i64 0)] 1 [(0, (.t 43))], none, none, [], none⟩,
  ⟨(some 45), .app 3 24 [(.int .i64 0), (.int .i64 0), (.int .i64 0)] (.t 42) (.t 44), none, none, [], none⟩,
  ⟨(some 5), .mv (.t 45), none, none, [], none⟩]
def ac_ref13_Ledger_with_23 : AC := .reg l_ref13_Ledger_with_23
def ac_ref13_Ledger_with_24 : AC := .cond (.t 41) ac_ref13_Ledger_with_23 .skip
def ac_ref13_Ledger_with_25 : AC := .seq ac_ref13_Ledger_with_22 ac_ref13_Ledger_with_24
def l_ref13_Ledger_with_26 : List AOp := [⟨(some 46), .mv (.t 5), none, none, [], none⟩,
  ⟨(some 47), .faddr 1 (.t 2), none, none, [], none⟩,
  ⟨none, .store 1 (.t 47) (.t 46), none, none, [], none⟩]
def ac_ref13_Ledger_with_26 : AC := .reg l_ref13_Ledger_with_26
def l_ref13_Ledger_with_27 : List AOp := [⟨(some 48), .load (some 2) (.t 2), none, none, [], none⟩,
  ⟨none, .store 2 (.t 4) (.t 48), none, none, [], none⟩]
def ac_ref13_Ledger_with_27 : AC := .reg l_ref13_Ledger_with_27
def ac_ref13_Ledger_with_28 : AC := .seq ac_ref13_Ledger_with_27 .ret
def ac_ref13_Ledger_with_29 : AC := .seq ac_ref13_Ledger_with_26 ac_ref13_Ledger_with_28
def ac_ref13_Ledger_with_30 : AC := .seq ac_ref13_Ledger_with_25 ac_ref13_Ledger_with_29
def ac_ref13_Ledger_with_31 : AC := .seq ac_ref13_Ledger_with_21 ac_ref13_Ledger_with_30
def ac_ref13_Ledger_with_32 : AC := .seq ac_ref13_Ledger_with_2 ac_ref13_Ledger_with_31
def ac_ref13_Ledger_with_33 : AC := .seq ac_ref13_Ledger_with_1 ac_ref13_Ledger_with_32
def ac_ref13_Ledger_with_34 : AC := .seq ac_ref13_Ledger_with_0 ac_ref13_Ledger_with_33
def ac_ref13_Ledger_with : AC := ac_ref13_Ledger_with_34
theorem comp_ref13_Ledger_with : compF Try.prog [5] (drawR Try.prog [5] Try.f37.ntmps) [([2, 3, 4, 5, 6, 7], 4)] 2 Try.f37 = some (ac_ref13_Ledger_with, [.c 4 (some 2)]) := by kernel_rfl
def U_ref13_Ledger_with := (And.intro (And.intro (And.intro (And.intro (And.intro (And.intro @ac_ref13_Ledger_with.eq_1 (@mR _ _ ac_ref13_Ledger_with_0.eq_1)) (And.intro (@mR _ _ ac_ref13_Ledger_with_1.eq_1) (@mR _ _ ac_ref13_Ledger_with_2.eq_1))) (And.intro (And.intro (@mR _ _ ac_ref13_Ledger_with_3.eq_1) (@mR _ _ ac_ref13_Ledger_with_4.eq_1)) (@mU _ _ ac_ref13_Ledger_with_5.eq_1))) (And.intro (And.intro (And.intro (@mU _ _ ac_ref13_Ledger_with_6.eq_1) (@mD _ _ _ ac_ref13_Ledger_with_7.eq_1)) (@mR _ _ ac_ref13_Ledger_with_8.eq_1)) (And.intro (And.intro (@mR _ _ ac_ref13_Ledger_with_9.eq_1) (@mU _ _ ac_ref13_Ledger_with_10.eq_1)) (@mU _ _ ac_ref13_Ledger_with_11.eq_1)))) (And.intro (And.intro (And.intro (And.intro (@mU _ _ ac_ref13_Ledger_with_12.eq_1) (@mR _ _ ac_ref13_Ledger_with_13.eq_1)) (@mU _ _ ac_ref13_Ledger_with_14.eq_1)) (And.intro (And.intro (@mU _ _ ac_ref13_Ledger_with_15.eq_1) (@mR _ _ ac_ref13_Ledger_with_16.eq_1)) (@mU _ _ ac_ref13_Ledger_with_17.eq_1))) (And.intro (And.intro (And.intro (@mU _ _ ac_ref13_Ledger_with_18.eq_1) (@mU _ _ ac_ref13_Ledger_with_19.eq_1)) (@mU _ _ ac_ref13_Ledger_with_20.eq_1)) (And.intro (And.intro (@mU _ _ ac_ref13_Ledger_with_21.eq_1) (@mR _ _ ac_ref13_Ledger_with_22.eq_1)) (@mR _ _ ac_ref13_Ledger_with_23.eq_1))))) (And.intro (And.intro (And.intro (And.intro (And.intro (@mU _ _ ac_ref13_Ledger_with_24.eq_1) (@mU _ _ ac_ref13_Ledger_with_25.eq_1)) (And.intro (@mR _ _ ac_ref13_Ledger_with_26.eq_1) (@mR _ _ ac_ref13_Ledger_with_27.eq_1))) (And.intro (And.intro (@mU _ _ ac_ref13_Ledger_with_28.eq_1) (@mU _ _ ac_ref13_Ledger_with_29.eq_1)) (@mU _ _ ac_ref13_Ledger_with_30.eq_1))) (And.intro (And.intro (And.intro (@mU _ _ ac_ref13_Ledger_with_31.eq_1) (@mU _ _ ac_ref13_Ledger_with_32.eq_1)) (@mU _ _ ac_ref13_Ledger_with_33.eq_1)) (And.intro (And.intro (@mU _ _ ac_ref13_Ledger_with_34.eq_1) @l_ref13_Ledger_with_0.eq_1) @l_ref13_Ledger_with_1.eq_1))) (And.intro (And.intro (And.intro (And.intro @l_ref13_Ledger_with_2.eq_1 @l_ref13_Ledger_with_3.eq_1) @l_ref13_Ledger_with_4.eq_1) (And.intro (And.intro @l_ref13_Ledger_with_7.eq_1 @l_ref13_Ledger_with_8.eq_1) @l_ref13_Ledger_with_9.eq_1)) (And.intro (And.intro (And.intro @l_ref13_Ledger_with_13.eq_1 @l_ref13_Ledger_with_16.eq_1) @l_ref13_Ledger_with_22.eq_1) (And.intro (And.intro @l_ref13_Ledger_with_23.eq_1 @l_ref13_Ledger_with_26.eq_1) @l_ref13_Ledger_with_27.eq_1)))))

/- (scoria/scoriaref13.Ledger).without -/
def l_ref13_Ledger_without_0 : List AOp := [⟨(some 2), .box (.t 0), none, none, [], none⟩,
  ⟨(some 4), .alloc [(.int .i64 0), (.slc [])], none, none, [], none⟩]
def ac_ref13_Ledger_without_0 : AC := .reg l_ref13_Ledger_without_0
def l_ref13_Ledger_without_1 : List AOp := [⟨(some 5), .nilown 3, none, none, [], none⟩]
def ac_ref13_Ledger_without_1 : AC := .reg l_ref13_Ledger_without_1
def l_ref13_Ledger_without_2 : List AOp := [⟨(some 6), .mv (.k (.int .i64 0)), none, none, [], none⟩]
def ac_ref13_Ledger_without_2 : AC := .reg l_ref13_Ledger_without_2
def l_ref13_Ledger_without_3 : List AOp := [⟨(some 7), .mv (.t 6), none, none, [], none⟩,
  ⟨(some 8), .faddr 1 (.t 2), none, none, [], none⟩,
  ⟨(some 9), .load none (.t 8), none, none, [], none⟩,
  ⟨(some 10), .len (.t 9), none, none, [], none⟩,
  ⟨(some 11), .bin .lss (.t 7) (.t 10), none, none, [], none⟩]
def ac_ref13_Ledger_without_3 : AC := .reg l_ref13_Ledger_without_3
def ac_ref13_Ledger_without_4 : AC := .cond (.t 11) .skip (.exit 0)
def ac_ref13_Ledger_without_5 : AC := .seq ac_ref13_Ledger_without_3 ac_ref13_Ledger_without_4
def l_ref13_Ledger_without_6 : List AOp := [⟨(some 14), .faddr 1 (.t 2), none, none, [], none⟩,
  ⟨(some 15), .load none (.t 14), none, none, [], none⟩,
  ⟨(some 16), .mv (.t 6), none, none, [], none⟩,
  ⟨(some 17), .isl 3 (.t 15) (.t 16), none, none, [], none⟩,
  ⟨(some 18), .faddr 0 (.t 17), none, none, [], none⟩,
  ⟨(some 19), .load none (.t 18), none, none, [], none⟩,
  ⟨(some 20), .mv (.t 1), none, none, [], none⟩,
  ⟨(some 21), .bin .neq (.t 19) (.t 20), none, none, [], none⟩]
def ac_ref13_Ledger_without_6 : AC := .reg l_ref13_Ledger_without_6
def l_ref13_Ledger_without_7 : List AOp := [⟨(some 22), .mv (.t 5), none, none, [], none⟩,
  ⟨(some 23), .faddr 1 (.t 2), none, none, [], none⟩,
  ⟨(some 24), .load none (.t 23), none, none, [], none⟩,
  ⟨(some 25), .mv (.t 6), none, none, [], none⟩,
  ⟨(some 26), .isl 3 (.t 24) (.t 25), none, none, [], none⟩,
  ⟨(some 27), .load (some 3) (.t 26), none, none, [], none⟩,
  ⟨(some 28), .blds false [(.int .i64 0), (.int .i64 0), (.int .i64 0)] 1 [(0, (.t 27))], none, none, [], none⟩,
  ⟨(some 29), .app 3 24 [(.int .i64 0), (.int .i64 0), (.int .i64 0)] (.t 22) (.t 28), none, none, [], none⟩,
  ⟨(some 5), .mv (.t 29), none, none, [], none⟩]
def ac_ref13_Ledger_without_7 : AC := .reg l_ref13_Ledger_without_7
def ac_ref13_Ledger_without_8 : AC := .cond (.t 21) ac_ref13_Ledger_without_7 .skip
def ac_ref13_Ledger_without_9 : AC := .seq ac_ref13_Ledger_without_6 ac_ref13_Ledger_without_8
def ac_ref13_Ledger_without_10 : AC := .block 1 ac_ref13_Ledger_without_9
def l_ref13_Ledger_without_11 : List AOp := [⟨(some 12), .mv (.t 6), none, none, [], none⟩,
  ⟨(some 13), .bin .add (.t 12) (.k (.int .i64 1)), none, none, [], none⟩,
  ⟨(some 6), .mv (.t 13), none, none, [], none⟩]
def ac_ref13_Ledger_without_11 : AC := .reg l_ref13_Ledger_without_11
def ac_ref13_Ledger_without_12 : AC := .seq ac_ref13_Ledger_without_10 ac_ref13_Ledger_without_11
def ac_ref13_Ledger_without_13 : AC := .seq ac_ref13_Ledger_without_5 ac_ref13_Ledger_without_12
def ac_ref13_Ledger_without_14 : AC := .loop [1, 2, 4, 5, 6] 3 ac_ref13_Ledger_without_13
def ac_ref13_Ledger_without_15 : AC := .block 0 ac_ref13_Ledger_without_14
def ac_ref13_Ledger_without_16 : AC := .seq ac_ref13_Ledger_without_2 ac_ref13_Ledger_without_15
def l_ref13_Ledger_without_17 : List AOp := [⟨(some 30), .mv (.t 5), none, none, [], none⟩,
  ⟨(some 31), .faddr 1 (.t 2), none, none, [], none⟩,
  ⟨none, .store 1 (.t 31) (.t 30), none, none, [], none⟩]
def ac_ref13_Ledger_without_17 : AC := .reg l_ref13_Ledger_without_17
def l_ref13_Ledger_without_18 : List AOp := [⟨(some 32), .load (some 2) (.t 2), none, none, [], none⟩,
  ⟨none, .store 2 (.t 4) (.t 32), none, none, [], none⟩]
def ac_ref13_Ledger_without_18 : AC := .reg l_ref13_Ledger_without_18
def ac_ref13_Ledger_without_19 : AC := .seq ac_ref13_Ledger_without_18 .ret
def ac_ref13_Ledger_without_20 : AC := .seq ac_ref13_Ledger_without_17 ac_ref13_Ledger_without_19
def ac_ref13_Ledger_without_21 : AC := .seq ac_ref13_Ledger_without_16 ac_ref13_Ledger_without_20
def ac_ref13_Ledger_without_22 : AC := .seq ac_ref13_Ledger_without_1 ac_ref13_Ledger_without_21
def ac_ref13_Ledger_without_23 : AC := .seq ac_ref13_Ledger_without_0 ac_ref13_Ledger_without_22
def ac_ref13_Ledger_without : AC := ac_ref13_Ledger_without_23
theorem comp_ref13_Ledger_without : compF Try.prog [5] (drawR Try.prog [5] Try.f38.ntmps) [([1, 2, 4, 5, 6], 3)] 2 Try.f38 = some (ac_ref13_Ledger_without, [.c 4 (some 2)]) := by kernel_rfl
def U_ref13_Ledger_without := (And.intro (And.intro (And.intro (And.intro (And.intro (And.intro @ac_ref13_Ledger_without.eq_1 (@mR _ _ ac_ref13_Ledger_without_0.eq_1)) (@mR _ _ ac_ref13_Ledger_without_1.eq_1)) (And.intro (@mR _ _ ac_ref13_Ledger_without_2.eq_1) (@mR _ _ ac_ref13_Ledger_without_3.eq_1))) (And.intro (And.intro (@mU _ _ ac_ref13_Ledger_without_4.eq_1) (@mU _ _ ac_ref13_Ledger_without_5.eq_1)) (And.intro (@mR _ _ ac_ref13_Ledger_without_6.eq_1) (@mR _ _ ac_ref13_Ledger_without_7.eq_1)))) (And.intro (And.intro (And.intro (@mU _ _ ac_ref13_Ledger_without_8.eq_1) (@mU _ _ ac_ref13_Ledger_without_9.eq_1)) (And.intro (@mU _ _ ac_ref13_Ledger_without_10.eq_1) (@mR _ _ ac_ref13_Ledger_without_11.eq_1))) (And.intro (And.intro (@mU _ _ ac_ref13_Ledger_without_12.eq_1) (@mU _ _ ac_ref13_Ledger_without_13.eq_1)) (And.intro (@mU _ _ ac_ref13_Ledger_without_14.eq_1) (@mU _ _ ac_ref13_Ledger_without_15.eq_1))))) (And.intro (And.intro (And.intro (And.intro (And.intro (@mU _ _ ac_ref13_Ledger_without_16.eq_1) (@mR _ _ ac_ref13_Ledger_without_17.eq_1)) (@mR _ _ ac_ref13_Ledger_without_18.eq_1)) (And.intro (@mU _ _ ac_ref13_Ledger_without_19.eq_1) (@mU _ _ ac_ref13_Ledger_without_20.eq_1))) (And.intro (And.intro (@mU _ _ ac_ref13_Ledger_without_21.eq_1) (@mU _ _ ac_ref13_Ledger_without_22.eq_1)) (And.intro (@mU _ _ ac_ref13_Ledger_without_23.eq_1) @l_ref13_Ledger_without_0.eq_1))) (And.intro (And.intro (And.intro @l_ref13_Ledger_without_1.eq_1 @l_ref13_Ledger_without_2.eq_1) (And.intro @l_ref13_Ledger_without_3.eq_1 @l_ref13_Ledger_without_6.eq_1)) (And.intro (And.intro @l_ref13_Ledger_without_7.eq_1 @l_ref13_Ledger_without_11.eq_1) (And.intro @l_ref13_Ledger_without_17.eq_1 @l_ref13_Ledger_without_18.eq_1)))))

end Go.Proofs.Ytokpmpbhpafncaa.Aw
