/-
  The functions of the seat, translated to abstract code. Written by a program (wip/Gen2.lean).
-/
import Derived.Test.YtklniadgdbjcpaaCodeS
import Derived.Test.YtklniadgdbjcpaaProg
set_option maxRecDepth 100000
set_option linter.all false
namespace Go.Proofs.Ytklniadgdbjcpaa.Aw
open Go.RowKit
/- scoria/scorialaw12.RootNewest -/
def l_law12_RootNewest_0 : List AOp := [⟨(some 6), .mv (.k (.bool false)), none, none, [], none⟩]
def ac_law12_RootNewest_0 : AC := .reg l_law12_RootNewest_0
def l_law12_RootNewest_1 : List AOp := [⟨(some 18), .mv (.t 0), none, none, [], none⟩,
  ⟨(some 19), .call false 17 [(.t 18)], none, none, [], none⟩,
  ⟨(some 20), .un .not (.t 19), none, none, [], none⟩,
  ⟨(some 21), .mv (.t 20), none, none, [], none⟩,
  ⟨(some 22), .mv (.t 2), (some (21, false)), none, [], none⟩,
  ⟨(some 23), .len (.t 22), (some (21, false)), none, [], none⟩,
  ⟨(some 24), .bin .gtr (.t 23) (.k (.int .i64 8)), (some (21, false)), none, [], none⟩,
  ⟨(some 25), .pick (.t 21) (.k (.bool true)) (.t 24), none, none, [], none⟩]
def ac_law12_RootNewest_1 : AC := .reg l_law12_RootNewest_1
def l_law12_RootNewest_2 : List AOp := [⟨(some 26), .call false 9 [], none, none, [], none⟩,
  ⟨(some 6), .mv (.t 26), none, none, [], none⟩]
def ac_law12_RootNewest_2 : AC := .reg l_law12_RootNewest_2
def ac_law12_RootNewest_3 : AC := .seq ac_law12_RootNewest_2 .ret
def ac_law12_RootNewest_4 : AC := .cond (.t 25) ac_law12_RootNewest_3 .skip
def ac_law12_RootNewest_5 : AC := .seq ac_law12_RootNewest_1 ac_law12_RootNewest_4
def l_law12_RootNewest_6 : List AOp := [⟨(some 27), .mv (.t 0), none, none, [], none⟩,
  ⟨(some 28), .icall 18 [(.t 27)], none, none, [], none⟩,
  ⟨(some 7), .mv (.t 28), none, none, [], none⟩]
def ac_law12_RootNewest_6 : AC := .reg l_law12_RootNewest_6
def l_law12_RootNewest_7 : List AOp := [⟨(some 8), .mv (.k (.int .i64 (-1))), none, none, [], none⟩]
def ac_law12_RootNewest_7 : AC := .reg l_law12_RootNewest_7
def l_law12_RootNewest_8 : List AOp := [⟨(some 9), .mv (.k (.int .i64 0)), none, none, [], none⟩]
def ac_law12_RootNewest_8 : AC := .reg l_law12_RootNewest_8
def l_law12_RootNewest_9 : List AOp := [⟨(some 29), .mv (.t 9), none, none, [], none⟩,
  ⟨(some 30), .mv (.t 7), none, none, [], none⟩,
  ⟨(some 31), .len (.t 30), none, none, [], none⟩,
  ⟨(some 32), .bin .lss (.t 29) (.t 31), none, none, [], none⟩]
def ac_law12_RootNewest_9 : AC := .reg l_law12_RootNewest_9
def ac_law12_RootNewest_10 : AC := .cond (.t 32) .skip (.exit 0)
def ac_law12_RootNewest_11 : AC := .seq ac_law12_RootNewest_9 ac_law12_RootNewest_10
def l_law12_RootNewest_12 : List AOp := [⟨(some 36), .mv (.t 7), none, none, [], none⟩,
  ⟨(some 37), .mv (.t 9), none, none, [], none⟩,
  ⟨(some 38), .isl 6 (.t 36) (.t 37), none, none, [], none⟩,
  ⟨(some 39), .faddr 1 (.t 38), none, none, [], none⟩,
  ⟨(some 40), .faddr 4 (.t 39), none, none, [], none⟩,
  ⟨(some 41), .load none (.t 40), none, none, [], none⟩,
  ⟨(some 42), .call false 15 [(.t 41)], none, none, [], none⟩,
  ⟨(some 35), .mv (.t 42), none, none, [], none⟩,
  ⟨(some 43), .ext 0 (.t 35), none, none, [], none⟩,
  ⟨(some 44), .ext 1 (.t 35), none, none, [], none⟩,
  ⟨(some 45), .ext 2 (.t 35), none, none, [], none⟩,
  ⟨(some 10), .mv (.t 43), none, none, [], none⟩,
  ⟨(some 11), .mv (.t 44), none, none, [], none⟩,
  ⟨(some 12), .mv (.t 45), none, none, [], none⟩]
def ac_law12_RootNewest_12 : AC := .reg l_law12_RootNewest_12
def l_law12_RootNewest_13 : List AOp := [⟨(some 46), .mv (.t 12), none, none, [], none⟩,
  ⟨(some 47), .bin .neq (.t 46) (.k (.int .i64 0)), none, none, [], none⟩,
  ⟨(some 48), .mv (.t 47), none, none, [], none⟩,
  ⟨(some 49), .mv (.t 7), (some (48, false)), none, [], none⟩,
  ⟨(some 50), .mv (.t 9), (some (48, false)), none, [], none⟩,
  ⟨(some 51), .isl 6 (.t 49) (.t 50), (some (48, false)), none, [], none⟩,
  ⟨(some 52), .faddr 1 (.t 51), (some (48, false)), none, [], none⟩,
  ⟨(some 53), .faddr 0 (.t 52), (some (48, false)), none, [], none⟩,
  ⟨(some 54), .load none (.t 53), (some (48, false)), none, [], none⟩,
  ⟨(some 55), .bin .neq (.t 54) (.k (.int .i64 4)), (some (48, false)), none, [], none⟩,
  ⟨(some 56), .pick (.t 48) (.k (.bool true)) (.t 55), none, none, [], none⟩,
  ⟨(some 57), .mv (.t 56), none, none, [], none⟩,
  ⟨(some 58), .mv (.t 8), (some (57, false)), none, [], none⟩,
  ⟨(some 59), .bin .geq (.t 58) (.k (.int .i64 0)), (some (57, false)), none, [], none⟩,
  ⟨(some 60), .mv (.t 59), (some (57, false)), none, [], none⟩,
  ⟨(some 61), .mv (.t 10), (some (60, true)), none, [], none⟩,
  ⟨(some 62), .mv (.t 8), (some (60, true)), none, [], none⟩,
  ⟨(some 63), .bin .gtr (.t 61) (.t 62), (some (60, true)), none, [], none⟩,
  ⟨(some 64), .pick (.t 60) (.t 63) (.k (.bool false)), (some (57, false)), none, [], none⟩,
  ⟨(some 65), .pick (.t 57) (.k (.bool true)) (.t 64), none, none, [], none⟩]
def ac_law12_RootNewest_13 : AC := .reg l_law12_RootNewest_13
def l_law12_RootNewest_14 : List AOp := [⟨(some 6), .mv (.k (.bool false)), none, none, [], none⟩]
def ac_law12_RootNewest_14 : AC := .reg l_law12_RootNewest_14
def ac_law12_RootNewest_15 : AC := .seq ac_law12_RootNewest_14 .ret
def ac_law12_RootNewest_16 : AC := .cond (.t 65) ac_law12_RootNewest_15 .skip
def ac_law12_RootNewest_17 : AC := .seq ac_law12_RootNewest_13 ac_law12_RootNewest_16
def l_law12_RootNewest_18 : List AOp := [⟨(some 66), .mv (.t 10), none, none, [], none⟩,
  ⟨(some 8), .mv (.t 66), none, none, [], none⟩]
def ac_law12_RootNewest_18 : AC := .reg l_law12_RootNewest_18
def ac_law12_RootNewest_19 : AC := .seq ac_law12_RootNewest_17 ac_law12_RootNewest_18
def ac_law12_RootNewest_20 : AC := .seq ac_law12_RootNewest_12 ac_law12_RootNewest_19
def ac_law12_RootNewest_21 : AC := .block 1 ac_law12_RootNewest_20
def l_law12_RootNewest_22 : List AOp := [⟨(some 33), .mv (.t 9), none, none, [], none⟩,
  ⟨(some 34), .bin .add (.t 33) (.k (.int .i64 1)), none, none, [], none⟩,
  ⟨(some 9), .mv (.t 34), none, none, [], none⟩]
def ac_law12_RootNewest_22 : AC := .reg l_law12_RootNewest_22
def ac_law12_RootNewest_23 : AC := .seq ac_law12_RootNewest_21 ac_law12_RootNewest_22
def ac_law12_RootNewest_24 : AC := .seq ac_law12_RootNewest_11 ac_law12_RootNewest_23
def ac_law12_RootNewest_25 : AC := .loop [0, 1, 2, 7, 8, 9] 1000000000 ac_law12_RootNewest_24
def ac_law12_RootNewest_26 : AC := .block 0 ac_law12_RootNewest_25
def ac_law12_RootNewest_27 : AC := .seq ac_law12_RootNewest_8 ac_law12_RootNewest_26
def l_law12_RootNewest_28 : List AOp := [⟨(some 67), .mv (.t 7), none, none, [], none⟩,
  ⟨(some 68), .len (.t 67), none, none, [], none⟩,
  ⟨(some 69), .bin .gtr (.t 68) (.k (.int .i64 0)), none, none, [], none⟩]
def ac_law12_RootNewest_28 : AC := .reg l_law12_RootNewest_28
def l_law12_RootNewest_29 : List AOp := [⟨(some 71), .mv (.t 7), none, none, [], none⟩,
  ⟨(some 72), .isl 6 (.t 71) (.k (.int .i64 0)), none, none, [], none⟩,
  ⟨(some 73), .faddr 1 (.t 72), none, none, [], none⟩,
  ⟨(some 74), .faddr 4 (.t 73), none, none, [], none⟩,
  ⟨(some 75), .load none (.t 74), none, none, [], none⟩,
  ⟨(some 76), .call false 15 [(.t 75)], none, none, [], none⟩,
  ⟨(some 70), .mv (.t 76), none, none, [], none⟩,
  ⟨(some 77), .ext 0 (.t 70), none, none, [], none⟩,
  ⟨(some 78), .ext 1 (.t 70), none, none, [], none⟩,
  ⟨(some 79), .ext 2 (.t 70), none, none, [], none⟩,
  ⟨(some 8), .mv (.t 77), none, none, [], none⟩]
def ac_law12_RootNewest_29 : AC := .reg l_law12_RootNewest_29
def ac_law12_RootNewest_30 : AC := .cond (.t 69) ac_law12_RootNewest_29 .skip
def ac_law12_RootNewest_31 : AC := .seq ac_law12_RootNewest_28 ac_law12_RootNewest_30
def l_law12_RootNewest_32 : List AOp := [⟨(some 81), .mv (.t 8), none, none, [], none⟩,
  ⟨(some 82), .bin .add (.t 81) (.k (.int .i64 1)), none, none, [], none⟩,
  ⟨(some 83), .mv (.t 2), none, none, [], none⟩,
  ⟨(some 84), .call false 10 [(.t 82), (.t 83)], none, none, [], none⟩,
  ⟨(some 80), .mv (.t 84), none, none, [], none⟩,
  ⟨(some 85), .ext 0 (.t 80), none, none, [], none⟩,
  ⟨(some 86), .ext 1 (.t 80), none, none, [], none⟩,
  ⟨(some 13), .mv (.t 85), none, none, [], none⟩,
  ⟨(some 14), .mv (.t 86), none, none, [], none⟩]
def ac_law12_RootNewest_32 : AC := .reg l_law12_RootNewest_32
def l_law12_RootNewest_33 : List AOp := [⟨(some 87), .mv (.t 14), none, none, [], none⟩,
  ⟨(some 88), .bin .neq (.t 87) (.k (.int .i64 0)), none, none, [], none⟩]
def ac_law12_RootNewest_33 : AC := .reg l_law12_RootNewest_33
def l_law12_RootNewest_34 : List AOp := [⟨(some 89), .call false 9 [], none, none, [], none⟩,
  ⟨(some 90), .mv (.t 89), none, none, [], none⟩,
  ⟨(some 91), .mv (.t 13), (some (90, true)), none, [], none⟩,
  ⟨(some 92), .bin .eql (.t 91) (.k (.str [])), (some (90, true)), none, [], none⟩,
  ⟨(some 93), .pick (.t 90) (.t 92) (.k (.bool false)), none, none, [], none⟩,
  ⟨(some 6), .mv (.t 93), none, none, [], none⟩]
def ac_law12_RootNewest_34 : AC := .reg l_law12_RootNewest_34
def ac_law12_RootNewest_35 : AC := .seq ac_law12_RootNewest_34 .ret
def ac_law12_RootNewest_36 : AC := .cond (.t 88) ac_law12_RootNewest_35 .skip
def ac_law12_RootNewest_37 : AC := .seq ac_law12_RootNewest_33 ac_law12_RootNewest_36
def l_law12_RootNewest_38 : List AOp := [⟨(some 94), .mv (.t 1), none, none, [], none⟩,
  ⟨(some 95), .mv (.t 0), none, none, [], none⟩,
  ⟨(some 96), .len (.t 95), none, none, [], none⟩,
  ⟨(some 97), .bin .add (.t 96) (.k (.int .i64 1)), none, none, [], none⟩,
  ⟨(some 98), .bin .rem (.t 94) (.t 97), none, none, [], none⟩,
  ⟨(some 99), .mv (.t 0), none, none, [], none⟩,
  ⟨(some 100), .len (.t 99), none, none, [], none⟩,
  ⟨(some 101), .bin .add (.t 98) (.t 100), none, none, [], none⟩,
  ⟨(some 102), .bin .add (.t 101) (.k (.int .i64 1)), none, none, [], none⟩,
  ⟨(some 103), .mv (.t 0), none, none, [], none⟩,
  ⟨(some 104), .len (.t 103), none, none, [], none⟩,
  ⟨(some 105), .bin .add (.t 104) (.k (.int .i64 1)), none, none, [], none⟩,
  ⟨(some 106), .bin .rem (.t 102) (.t 105), none, none, [], none⟩,
  ⟨(some 1), .mv (.t 106), none, none, [], none⟩]
def ac_law12_RootNewest_38 : AC := .reg l_law12_RootNewest_38
def l_law12_RootNewest_39 : List AOp := [⟨(some 107), .mv (.t 13), none, none, [], none⟩,
  ⟨(some 108), .build [(.int .i64 0), (.int .i64 0), (.int .i64 0), (.int .i64 0), (.str [])] [(0, 1, (.k (.int .i64 4))), (4, 1, (.t 107))], none, none, [], none⟩,
  ⟨(some 109), .build [(.int .i64 0), (.int .i64 0), (.int .i64 0), (.int .i64 0), (.int .i64 0), (.str [])] [(0, 1, (.k (.int .i64 3000))), (1, 5, (.t 108))], none, none, [], none⟩,
  ⟨(some 15), .alloc [(.int .i64 0), (.int .i64 0), (.int .i64 0), (.int .i64 0), (.int .i64 0), (.str [])], none, none, [], none⟩,
  ⟨none, .store 6 (.t 15) (.t 109), none, none, [], none⟩]
def ac_law12_RootNewest_39 : AC := .reg l_law12_RootNewest_39
def l_law12_RootNewest_40 : List AOp := [⟨(some 110), .blds true [(.int .i64 0), (.int .i64 0), (.int .i64 0), (.int .i64 0), (.int .i64 0), (.str [])] 0 [], none, (some 0), [1, 2, 3, 0], none⟩,
  ⟨(some 111), .mv (.t 0), none, none, [], none⟩,
  ⟨(some 112), .mv (.t 1), none, none, [], none⟩,
  ⟨(some 113), .ssl 6 (.t 111) none (some (.t 112)), none, none, [0, 1, 2, 3], none⟩,
  ⟨(some 114), .app 6 56 [(.int .i64 0), (.int .i64 0), (.int .i64 0), (.int .i64 0), (.int .i64 0), (.str [])] (.t 110) (.t 113), none, (some 1), [2, 3], (some 0)⟩,
  ⟨(some 115), .load (some 6) (.t 15), none, none, [0, 1, 2, 3], none⟩,
  ⟨(some 116), .blds false [(.int .i64 0), (.int .i64 0), (.int .i64 0), (.int .i64 0), (.int .i64 0), (.str [])] 1 [(0, (.t 115))], none, none, [0, 1, 2, 3], none⟩,
  ⟨(some 117), .app 6 56 [(.int .i64 0), (.int .i64 0), (.int .i64 0), (.int .i64 0), (.int .i64 0), (.str [])] (.t 114) (.t 116), none, (some 2), [3], (some 0)⟩,
  ⟨(some 118), .mv (.t 0), none, none, [], none⟩,
  ⟨(some 119), .mv (.t 1), none, none, [], none⟩,
  ⟨(some 120), .ssl 6 (.t 118) (some (.t 119)) none, none, none, [0, 1, 2, 3], none⟩,
  ⟨(some 121), .app 6 56 [(.int .i64 0), (.int .i64 0), (.int .i64 0), (.int .i64 0), (.int .i64 0), (.str [])] (.t 117) (.t 120), none, (some 3), [], none⟩,
  ⟨(some 16), .mv (.t 121), none, none, [], none⟩]
def ac_law12_RootNewest_40 : AC := .dreg 4 l_law12_RootNewest_40
def l_law12_RootNewest_41 : List AOp := [⟨(some 122), .mv (.t 16), none, none, [], none⟩,
  ⟨(some 123), .icall 18 [(.t 122)], none, none, [], none⟩,
  ⟨(some 17), .mv (.t 123), none, none, [], none⟩]
def ac_law12_RootNewest_41 : AC := .reg l_law12_RootNewest_41
def l_law12_RootNewest_42 : List AOp := [⟨(some 124), .call false 9 [], none, none, [], none⟩,
  ⟨(some 125), .mv (.t 124), none, none, [], none⟩,
  ⟨(some 126), .mv (.t 17), (some (125, true)), none, [], none⟩,
  ⟨(some 127), .len (.t 126), (some (125, true)), none, [], none⟩,
  ⟨(some 128), .mv (.t 7), (some (125, true)), none, [], none⟩,
  ⟨(some 129), .len (.t 128), (some (125, true)), none, [], none⟩,
  ⟨(some 130), .bin .add (.t 129) (.k (.int .i64 1)), (some (125, true)), none, [], none⟩,
  ⟨(some 131), .bin .eql (.t 127) (.t 130), (some (125, true)), none, [], none⟩,
  ⟨(some 132), .pick (.t 125) (.t 131) (.k (.bool false)), none, none, [], none⟩,
  ⟨(some 133), .mv (.t 132), none, none, [], none⟩,
  ⟨(some 134), .mv (.t 17), (some (133, true)), none, [], none⟩,
  ⟨(some 135), .isl 6 (.t 134) (.k (.int .i64 0)), (some (133, true)), none, [], none⟩,
  ⟨(some 136), .load (some 6) (.t 135), (some (133, true)), none, [], none⟩,
  ⟨(some 137), .load (some 6) (.t 15), (some (133, true)), none, [], none⟩,
  ⟨(some 138), .eqs false [.i, .i, .i, .i, .i, .s] (.t 136) (.t 137), (some (133, true)), none, [], none⟩,
  ⟨(some 139), .pick (.t 133) (.t 138) (.k (.bool false)), none, none, [], none⟩,
  ⟨(some 6), .mv (.t 139), none, none, [], none⟩]
def ac_law12_RootNewest_42 : AC := .dreg 0 l_law12_RootNewest_42
def ac_law12_RootNewest_43 : AC := .seq ac_law12_RootNewest_42 .ret
def ac_law12_RootNewest_44 : AC := .seq ac_law12_RootNewest_41 ac_law12_RootNewest_43
def ac_law12_RootNewest_45 : AC := .seq ac_law12_RootNewest_40 ac_law12_RootNewest_44
def ac_law12_RootNewest_46 : AC := .seq ac_law12_RootNewest_39 ac_law12_RootNewest_45
def ac_law12_RootNewest_47 : AC := .seq ac_law12_RootNewest_38 ac_law12_RootNewest_46
def ac_law12_RootNewest_48 : AC := .seq ac_law12_RootNewest_37 ac_law12_RootNewest_47
def ac_law12_RootNewest_49 : AC := .seq ac_law12_RootNewest_32 ac_law12_RootNewest_48
def ac_law12_RootNewest_50 : AC := .seq ac_law12_RootNewest_31 ac_law12_RootNewest_49
def ac_law12_RootNewest_51 : AC := .seq ac_law12_RootNewest_27 ac_law12_RootNewest_50
def ac_law12_RootNewest_52 : AC := .seq ac_law12_RootNewest_7 ac_law12_RootNewest_51
def ac_law12_RootNewest_53 : AC := .seq ac_law12_RootNewest_6 ac_law12_RootNewest_52
def ac_law12_RootNewest_54 : AC := .seq ac_law12_RootNewest_5 ac_law12_RootNewest_53
def ac_law12_RootNewest_55 : AC := .seq ac_law12_RootNewest_0 ac_law12_RootNewest_54
def ac_law12_RootNewest : AC := ac_law12_RootNewest_55
theorem comp_law12_RootNewest : compF Try.prog [110, 1000018] (drawR Try.prog [110, 1000018] Try.f8.ntmps) [([0, 1, 2, 7, 8, 9], 1000000000)] 3 Try.f8 = some (ac_law12_RootNewest, [.t 6]) := by kernel_rfl
def U_law12_RootNewest := (And.intro (And.intro (And.intro (And.intro (And.intro (And.intro (And.intro @ac_law12_RootNewest.eq_1 (@mR _ _ ac_law12_RootNewest_0.eq_1)) (@mR _ _ ac_law12_RootNewest_1.eq_1)) (And.intro (@mR _ _ ac_law12_RootNewest_2.eq_1) (@mU _ _ ac_law12_RootNewest_3.eq_1))) (And.intro (And.intro (And.intro (@mU _ _ ac_law12_RootNewest_4.eq_1) (@mU _ _ ac_law12_RootNewest_5.eq_1)) (@mR _ _ ac_law12_RootNewest_6.eq_1)) (And.intro (@mR _ _ ac_law12_RootNewest_7.eq_1) (@mR _ _ ac_law12_RootNewest_8.eq_1)))) (And.intro (And.intro (And.intro (And.intro (@mR _ _ ac_law12_RootNewest_9.eq_1) (@mU _ _ ac_law12_RootNewest_10.eq_1)) (@mU _ _ ac_law12_RootNewest_11.eq_1)) (And.intro (@mR _ _ ac_law12_RootNewest_12.eq_1) (@mR _ _ ac_law12_RootNewest_13.eq_1))) (And.intro (And.intro (And.intro (@mR _ _ ac_law12_RootNewest_14.eq_1) (@mU _ _ ac_law12_RootNewest_15.eq_1)) (@mU _ _ ac_law12_RootNewest_16.eq_1)) (And.intro (@mU _ _ ac_law12_RootNewest_17.eq_1) (@mR _ _ ac_law12_RootNewest_18.eq_1))))) (And.intro (And.intro (And.intro (And.intro (And.intro (@mU _ _ ac_law12_RootNewest_19.eq_1) (@mU _ _ ac_law12_RootNewest_20.eq_1)) (@mU _ _ ac_law12_RootNewest_21.eq_1)) (And.intro (@mR _ _ ac_law12_RootNewest_22.eq_1) (@mU _ _ ac_law12_RootNewest_23.eq_1))) (And.intro (And.intro (And.intro (@mU _ _ ac_law12_RootNewest_24.eq_1) (@mU _ _ ac_law12_RootNewest_25.eq_1)) (@mU _ _ ac_law12_RootNewest_26.eq_1)) (And.intro (@mU _ _ ac_law12_RootNewest_27.eq_1) (@mR _ _ ac_law12_RootNewest_28.eq_1)))) (And.intro (And.intro (And.intro (And.intro (@mR _ _ ac_law12_RootNewest_29.eq_1) (@mU _ _ ac_law12_RootNewest_30.eq_1)) (@mU _ _ ac_law12_RootNewest_31.eq_1)) (And.intro (@mR _ _ ac_law12_RootNewest_32.eq_1) (@mR _ _ ac_law12_RootNewest_33.eq_1))) (And.intro (And.intro (And.intro (@mR _ _ ac_law12_RootNewest_34.eq_1) (@mU _ _ ac_law12_RootNewest_35.eq_1)) (@mU _ _ ac_law12_RootNewest_36.eq_1)) (And.intro (@mU _ _ ac_law12_RootNewest_37.eq_1) (@mR _ _ ac_law12_RootNewest_38.eq_1)))))) (And.intro (And.intro (And.intro (And.intro (And.intro (And.intro (@mR _ _ ac_law12_RootNewest_39.eq_1) (@mD _ _ _ ac_law12_RootNewest_40.eq_1)) (@mR _ _ ac_law12_RootNewest_41.eq_1)) (And.intro (@mD _ _ _ ac_law12_RootNewest_42.eq_1) (@mU _ _ ac_law12_RootNewest_43.eq_1))) (And.intro (And.intro (And.intro (@mU _ _ ac_law12_RootNewest_44.eq_1) (@mU _ _ ac_law12_RootNewest_45.eq_1)) (@mU _ _ ac_law12_RootNewest_46.eq_1)) (And.intro (@mU _ _ ac_law12_RootNewest_47.eq_1) (@mU _ _ ac_law12_RootNewest_48.eq_1)))) (And.intro (And.intro (And.intro (And.intro (@mU _ _ ac_law12_RootNewest_49.eq_1) (@mU _ _ ac_law12_RootNewest_50.eq_1)) (@mU _ _ ac_law12_RootNewest_51.eq_1)) (And.intro (@mU _ _ ac_law12_RootNewest_52.eq_1) (@mU _ _ ac_law12_RootNewest_53.eq_1))) (And.intro (And.intro (And.intro (@mU _ _ ac_law12_RootNewest_54.eq_1) (@mU _ _ ac_law12_RootNewest_55.eq_1)) @l_law12_RootNewest_0.eq_1) (And.intro @l_law12_RootNewest_1.eq_1 @l_law12_RootNewest_2.eq_1)))) (And.intro (And.intro (And.intro (And.intro (And.intro @l_law12_RootNewest_6.eq_1 @l_law12_RootNewest_7.eq_1) @l_law12_RootNewest_8.eq_1) (And.intro @l_law12_RootNewest_9.eq_1 @l_law12_RootNewest_12.eq_1)) (And.intro (And.intro (And.intro @l_law12_RootNewest_13.eq_1 @l_law12_RootNewest_14.eq_1) @l_law12_RootNewest_18.eq_1) (And.intro @l_law12_RootNewest_22.eq_1 @l_law12_RootNewest_28.eq_1))) (And.intro (And.intro (And.intro (And.intro @l_law12_RootNewest_29.eq_1 @l_law12_RootNewest_32.eq_1) @l_law12_RootNewest_33.eq_1) (And.intro @l_law12_RootNewest_34.eq_1 @l_law12_RootNewest_38.eq_1)) (And.intro (And.intro @l_law12_RootNewest_39.eq_1 @l_law12_RootNewest_40.eq_1) (And.intro @l_law12_RootNewest_41.eq_1 @l_law12_RootNewest_42.eq_1))))))

/- scoria/scorialaw12.few -/
def l_law12_few_0 : List AOp := [⟨(some 2), .mv (.k (.bool false)), none, none, [], none⟩]
def ac_law12_few_0 : AC := .reg l_law12_few_0
def l_law12_few_1 : List AOp := [⟨(some 3), .mv (.k (.int .i64 0)), none, none, [], none⟩]
def ac_law12_few_1 : AC := .reg l_law12_few_1
def l_law12_few_2 : List AOp := [⟨(some 4), .mv (.t 3), none, none, [], none⟩,
  ⟨(some 5), .mv (.t 0), none, none, [], none⟩,
  ⟨(some 6), .len (.t 5), none, none, [], none⟩,
  ⟨(some 7), .bin .lss (.t 4) (.t 6), none, none, [], none⟩]
def ac_law12_few_2 : AC := .reg l_law12_few_2
def ac_law12_few_3 : AC := .cond (.t 7) .skip (.exit 0)
def ac_law12_few_4 : AC := .seq ac_law12_few_2 ac_law12_few_3
def l_law12_few_5 : List AOp := [⟨(some 10), .mv (.t 0), none, none, [], none⟩,
  ⟨(some 11), .mv (.t 3), none, none, [], none⟩,
  ⟨(some 12), .isl 6 (.t 10) (.t 11), none, none, [], none⟩,
  ⟨(some 13), .faddr 1 (.t 12), none, none, [], none⟩,
  ⟨(some 14), .faddr 4 (.t 13), none, none, [], none⟩,
  ⟨(some 15), .load none (.t 14), none, none, [], none⟩,
  ⟨(some 16), .lens (.t 15), none, none, [], none⟩,
  ⟨(some 17), .bin .gtr (.t 16) (.k (.int .i64 300)), none, none, [], none⟩]
def ac_law12_few_5 : AC := .reg l_law12_few_5
def l_law12_few_6 : List AOp := [⟨(some 2), .mv (.k (.bool false)), none, none, [], none⟩]
def ac_law12_few_6 : AC := .reg l_law12_few_6
def ac_law12_few_7 : AC := .seq ac_law12_few_6 .ret
def ac_law12_few_8 : AC := .cond (.t 17) ac_law12_few_7 .skip
def ac_law12_few_9 : AC := .seq ac_law12_few_5 ac_law12_few_8
def ac_law12_few_10 : AC := .block 1 ac_law12_few_9
def l_law12_few_11 : List AOp := [⟨(some 8), .mv (.t 3), none, none, [], none⟩,
  ⟨(some 9), .bin .add (.t 8) (.k (.int .i64 1)), none, none, [], none⟩,
  ⟨(some 3), .mv (.t 9), none, none, [], none⟩]
def ac_law12_few_11 : AC := .reg l_law12_few_11
def ac_law12_few_12 : AC := .seq ac_law12_few_10 ac_law12_few_11
def ac_law12_few_13 : AC := .seq ac_law12_few_4 ac_law12_few_12
def ac_law12_few_14 : AC := .loop [0, 3] 0 ac_law12_few_13
def ac_law12_few_15 : AC := .block 0 ac_law12_few_14
def ac_law12_few_16 : AC := .seq ac_law12_few_1 ac_law12_few_15
def l_law12_few_17 : List AOp := [⟨(some 18), .mv (.t 0), none, none, [], none⟩,
  ⟨(some 19), .len (.t 18), none, none, [], none⟩,
  ⟨(some 20), .bin .leq (.t 19) (.k (.int .i64 40)), none, none, [], none⟩,
  ⟨(some 2), .mv (.t 20), none, none, [], none⟩]
def ac_law12_few_17 : AC := .reg l_law12_few_17
def ac_law12_few_18 : AC := .seq ac_law12_few_17 .ret
def ac_law12_few_19 : AC := .seq ac_law12_few_16 ac_law12_few_18
def ac_law12_few_20 : AC := .seq ac_law12_few_0 ac_law12_few_19
def ac_law12_few : AC := ac_law12_few_20
theorem comp_law12_few : compF Try.prog [] (drawR Try.prog [] Try.f17.ntmps) [([0, 3], 0)] 1 Try.f17 = some (ac_law12_few, [.t 2]) := by kernel_rfl
def U_law12_few := (And.intro (And.intro (And.intro (And.intro (And.intro @ac_law12_few.eq_1 (@mR _ _ ac_law12_few_0.eq_1)) (And.intro (@mR _ _ ac_law12_few_1.eq_1) (@mR _ _ ac_law12_few_2.eq_1))) (And.intro (And.intro (@mU _ _ ac_law12_few_3.eq_1) (@mU _ _ ac_law12_few_4.eq_1)) (And.intro (@mR _ _ ac_law12_few_5.eq_1) (@mR _ _ ac_law12_few_6.eq_1)))) (And.intro (And.intro (And.intro (@mU _ _ ac_law12_few_7.eq_1) (@mU _ _ ac_law12_few_8.eq_1)) (And.intro (@mU _ _ ac_law12_few_9.eq_1) (@mU _ _ ac_law12_few_10.eq_1))) (And.intro (And.intro (@mR _ _ ac_law12_few_11.eq_1) (@mU _ _ ac_law12_few_12.eq_1)) (@mU _ _ ac_law12_few_13.eq_1)))) (And.intro (And.intro (And.intro (And.intro (@mU _ _ ac_law12_few_14.eq_1) (@mU _ _ ac_law12_few_15.eq_1)) (And.intro (@mU _ _ ac_law12_few_16.eq_1) (@mR _ _ ac_law12_few_17.eq_1))) (And.intro (And.intro (@mU _ _ ac_law12_few_18.eq_1) (@mU _ _ ac_law12_few_19.eq_1)) (@mU _ _ ac_law12_few_20.eq_1))) (And.intro (And.intro (And.intro @l_law12_few_0.eq_1 @l_law12_few_1.eq_1) (And.intro @l_law12_few_2.eq_1 @l_law12_few_5.eq_1)) (And.intro (And.intro @l_law12_few_6.eq_1 @l_law12_few_11.eq_1) @l_law12_few_17.eq_1))))

end Go.Proofs.Ytklniadgdbjcpaa.Aw
