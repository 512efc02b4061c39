/-
  The functions of the seat, translated to abstract code. Written by a program (wip/Gen2.lean).
-/
import Derived.Test.YtdgpiobmncohjaaDoorCodeN
import Derived.Test.YtdgpiobmncohjaaDoorProg
set_option maxRecDepth 100000
set_option linter.all false
namespace Go.Proofs.YtdgpiobmncohjaaDoor.Aw
open Go.RowKit
/- scoria/scoriatop.TopPages -/
def l_top_TopPages_0 : List AOp := [⟨(some 4), .mv (.k (.bool false)), none, none, [], none⟩]
def ac_top_TopPages_0 : AC := .reg l_top_TopPages_0
def l_top_TopPages_1 : List AOp := [⟨(some 25), .call false 8 [], none, none, [], none⟩,
  ⟨(some 26), .icall 7 [(.t 25)], none, none, [], none⟩,
  ⟨(some 24), .mv (.t 26), none, none, [], none⟩,
  ⟨(some 27), .ext 0 (.t 24), none, none, [], none⟩,
  ⟨(some 28), .ext 1 (.t 24), none, none, [], none⟩,
  ⟨(some 5), .mv (.t 27), none, none, [], none⟩,
  ⟨(some 6), .mv (.t 28), none, none, [], none⟩]
def ac_top_TopPages_1 : AC := .reg l_top_TopPages_1
def l_top_TopPages_2 : List AOp := [⟨(some 29), .mv (.t 1), none, none, [], none⟩,
  ⟨(some 30), .bin .rem (.t 29) (.k (.int .i64 16)), none, none, [], none⟩,
  ⟨(some 31), .bin .add (.t 30) (.k (.int .i64 16)), none, none, [], none⟩,
  ⟨(some 32), .bin .rem (.t 31) (.k (.int .i64 16)), none, none, [], none⟩,
  ⟨(some 1), .mv (.t 32), none, none, [], none⟩]
def ac_top_TopPages_2 : AC := .reg l_top_TopPages_2
def l_top_TopPages_3 : List AOp := [⟨(some 33), .call false 6 [], none, none, [], none⟩,
  ⟨(some 34), .un .not (.t 33), none, none, [], none⟩,
  ⟨(some 35), .mv (.t 34), none, none, [], none⟩,
  ⟨(some 36), .mv (.t 6), (some (35, false)), none, [], none⟩,
  ⟨(some 37), .isn .i true (.t 36), (some (35, false)), none, [], none⟩,
  ⟨(some 38), .pick (.t 35) (.k (.bool true)) (.t 37), none, none, [], none⟩]
def ac_top_TopPages_3 : AC := .reg l_top_TopPages_3
def l_top_TopPages_4 : List AOp := [⟨(some 4), .mv (.k (.bool false)), none, none, [], none⟩]
def ac_top_TopPages_4 : AC := .reg l_top_TopPages_4
def ac_top_TopPages_5 : AC := .seq ac_top_TopPages_4 .ret
def ac_top_TopPages_6 : AC := .cond (.t 38) ac_top_TopPages_5 .skip
def ac_top_TopPages_7 : AC := .seq ac_top_TopPages_3 ac_top_TopPages_6
def l_top_TopPages_8 : List AOp := [⟨(some 7), .nilown 5, none, none, [], none⟩]
def ac_top_TopPages_8 : AC := .reg l_top_TopPages_8
def l_top_TopPages_9 : List AOp := [⟨(some 8), .mv (.k (.int .i64 0)), none, none, [], none⟩]
def ac_top_TopPages_9 : AC := .reg l_top_TopPages_9
def l_top_TopPages_10 : List AOp := [⟨(some 39), .mv (.t 8), none, none, [], none⟩,
  ⟨(some 40), .mv (.t 0), none, none, [], none⟩,
  ⟨(some 41), .len (.t 40), none, none, [], none⟩,
  ⟨(some 42), .bin .lss (.t 39) (.t 41), none, none, [], none⟩,
  ⟨(some 43), .mv (.t 42), none, none, [], none⟩,
  ⟨(some 44), .mv (.t 7), (some (43, true)), none, [], none⟩,
  ⟨(some 45), .len (.t 44), (some (43, true)), none, [], none⟩,
  ⟨(some 46), .bin .lss (.t 45) (.k (.int .i64 7)), (some (43, true)), none, [], none⟩,
  ⟨(some 47), .pick (.t 43) (.t 46) (.k (.bool false)), none, none, [], none⟩]
def ac_top_TopPages_10 : AC := .reg l_top_TopPages_10
def ac_top_TopPages_11 : AC := .cond (.t 47) .skip (.exit 0)
def ac_top_TopPages_12 : AC := .seq ac_top_TopPages_10 ac_top_TopPages_11
def l_top_TopPages_13 : List AOp := [⟨(some 51), .mv (.t 0), none, none, [], none⟩,
  ⟨(some 52), .mv (.t 8), none, none, [], none⟩,
  ⟨(some 53), .isl 5 (.t 51) (.t 52), none, none, [], none⟩,
  ⟨(some 54), .load (some 5) (.t 53), none, none, [], none⟩,
  ⟨(some 55), .call false 5 [(.t 54)], none, none, [], none⟩,
  ⟨(some 50), .mv (.t 55), none, none, [], none⟩,
  ⟨(some 56), .ext 0 (.t 50), none, none, [], none⟩,
  ⟨(some 57), .ext 1 (.t 50), none, none, [], none⟩,
  ⟨(some 9), .mv (.t 56), none, none, [], none⟩,
  ⟨(some 10), .mv (.t 57), none, none, [], none⟩]
def ac_top_TopPages_13 : AC := .reg l_top_TopPages_13
def l_top_TopPages_14 : List AOp := [⟨(some 58), .mv (.t 10), none, none, [], none⟩,
  ⟨(some 59), .bin .neq (.t 58) (.k (.int .i64 0)), none, none, [], none⟩]
def ac_top_TopPages_14 : AC := .reg l_top_TopPages_14
def ac_top_TopPages_15 : AC := .cond (.t 59) (.exit 1) .skip
def ac_top_TopPages_16 : AC := .seq ac_top_TopPages_14 ac_top_TopPages_15
def l_top_TopPages_17 : List AOp := [⟨(some 60), .mv (.t 5), none, none, [], none⟩,
  ⟨(some 61), .mv (.t 1), none, none, [], none⟩,
  ⟨(some 62), .bin .mul (.k (.int .i64 8)) (.t 61), none, none, [], none⟩,
  ⟨(some 63), .mv (.t 7), none, none, [], none⟩,
  ⟨(some 64), .len (.t 63), none, none, [], none⟩,
  ⟨(some 65), .bin .add (.t 62) (.t 64), none, none, [], none⟩,
  ⟨(some 66), .mv (.t 9), none, none, [], none⟩,
  ⟨(some 67), .icall 9 [(.t 60), (.t 65), (.t 66)], none, none, [], none⟩,
  ⟨(some 68), .isn .i true (.t 67), none, none, [], none⟩]
def ac_top_TopPages_17 : AC := .reg l_top_TopPages_17
def l_top_TopPages_18 : List AOp := [⟨(some 4), .mv (.k (.bool false)), none, none, [], none⟩]
def ac_top_TopPages_18 : AC := .reg l_top_TopPages_18
def ac_top_TopPages_19 : AC := .seq ac_top_TopPages_18 .ret
def ac_top_TopPages_20 : AC := .cond (.t 68) ac_top_TopPages_19 .skip
def ac_top_TopPages_21 : AC := .seq ac_top_TopPages_17 ac_top_TopPages_20
def l_top_TopPages_22 : List AOp := [⟨(some 69), .mv (.t 7), none, none, [], none⟩,
  ⟨(some 70), .mv (.t 0), none, none, [], none⟩,
  ⟨(some 71), .mv (.t 8), none, none, [], none⟩,
  ⟨(some 72), .isl 5 (.t 70) (.t 71), none, none, [], none⟩,
  ⟨(some 73), .load (some 5) (.t 72), none, none, [], none⟩,
  ⟨(some 74), .blds false [(.int .i64 0), (.int .i64 0), (.int .i64 0), (.int .i64 0), (.str [])] 1 [(0, (.t 73))], none, none, [], none⟩,
  ⟨(some 75), .app 5 48 [(.int .i64 0), (.int .i64 0), (.int .i64 0), (.int .i64 0), (.str [])] (.t 69) (.t 74), none, none, [], none⟩,
  ⟨(some 7), .mv (.t 75), none, none, [], none⟩]
def ac_top_TopPages_22 : AC := .reg l_top_TopPages_22
def ac_top_TopPages_23 : AC := .seq ac_top_TopPages_21 ac_top_TopPages_22
def ac_top_TopPages_24 : AC := .seq ac_top_TopPages_16 ac_top_TopPages_23
def ac_top_TopPages_25 : AC := .seq ac_top_TopPages_13 ac_top_TopPages_24
def ac_top_TopPages_26 : AC := .block 1 ac_top_TopPages_25
def l_top_TopPages_27 : List AOp := [⟨(some 48), .mv (.t 8), none, none, [], none⟩,
  ⟨(some 49), .bin .add (.t 48) (.k (.int .i64 1)), none, none, [], none⟩,
  ⟨(some 8), .mv (.t 49), none, none, [], none⟩]
def ac_top_TopPages_27 : AC := .reg l_top_TopPages_27
def ac_top_TopPages_28 : AC := .seq ac_top_TopPages_26 ac_top_TopPages_27
def ac_top_TopPages_29 : AC := .seq ac_top_TopPages_12 ac_top_TopPages_28
def ac_top_TopPages_30 : AC := .loop [0, 1, 5, 7, 8] 1000000000 ac_top_TopPages_29
def ac_top_TopPages_31 : AC := .block 0 ac_top_TopPages_30
def ac_top_TopPages_32 : AC := .seq ac_top_TopPages_9 ac_top_TopPages_31
def l_top_TopPages_33 : List AOp := [⟨(some 76), .mv (.t 5), none, none, [], none⟩,
  ⟨(some 77), .build [(.int .i64 0), (.int .i64 0), (.int .i64 0), (.str [])] [(0, 1, (.k (.int .i64 1))), (1, 1, (.k (.int .i64 2)))], none, none, [], none⟩,
  ⟨(some 78), .build [(.int .i64 0), (.int .i64 0), (.int .i64 0), (.str [])] [(0, 1, (.k (.int .i64 2))), (1, 1, (.k (.int .i64 3)))], none, none, [], none⟩,
  ⟨(some 79), .blds false [(.int .i64 0), (.int .i64 0), (.int .i64 0), (.str [])] 2 [(0, (.t 77)), (1, (.t 78))], none, none, [], none⟩,
  ⟨(some 80), .icall 10 [(.t 76), (.t 79)], none, none, [], none⟩]
def ac_top_TopPages_33 : AC := .reg l_top_TopPages_33
def l_top_TopPages_34 : List AOp := [⟨(some 81), .mv (.t 1), none, none, [], none⟩,
  ⟨(some 82), .bin .add (.t 81) (.k (.int .i64 1)), none, none, [], none⟩,
  ⟨(some 83), .bin .rem (.t 82) (.k (.int .i64 16)), none, none, [], none⟩,
  ⟨(some 11), .mv (.t 83), none, none, [], none⟩]
def ac_top_TopPages_34 : AC := .reg l_top_TopPages_34
def l_top_TopPages_35 : List AOp := [⟨(some 84), .mv (.t 5), none, none, [], none⟩,
  ⟨(some 85), .mv (.t 1), none, none, [], none⟩,
  ⟨(some 86), .bin .mul (.k (.int .i64 8)) (.t 85), none, none, [], none⟩,
  ⟨(some 87), .mv (.t 7), none, none, [], none⟩,
  ⟨(some 88), .len (.t 87), none, none, [], none⟩,
  ⟨(some 89), .bin .add (.t 86) (.t 88), none, none, [], none⟩,
  ⟨(some 90), .icall 9 [(.t 84), (.t 89), (.k (.str [120]))], none, none, [], none⟩,
  ⟨(some 91), .rcall 11 [(.t 90)], none, none, [], none⟩,
  ⟨(some 92), .bin .neq (.t 91) (.k (.int .i64 41)), none, none, [], none⟩,
  ⟨(some 93), .mv (.t 92), none, none, [], none⟩,
  ⟨(some 94), .mv (.t 5), (some (93, false)), none, [], none⟩,
  ⟨(some 95), .mv (.t 11), (some (93, false)), none, [], none⟩,
  ⟨(some 96), .icall 15 [(.t 94), (.t 95)], (some (93, false)), none, [], none⟩,
  ⟨(some 97), .rcall 11 [(.t 96)], (some (93, false)), none, [], none⟩,
  ⟨(some 98), .bin .neq (.t 97) (.k (.int .i64 41)), (some (93, false)), none, [], none⟩,
  ⟨(some 99), .pick (.t 93) (.k (.bool true)) (.t 98), none, none, [], none⟩]
def ac_top_TopPages_35 : AC := .reg l_top_TopPages_35
def l_top_TopPages_36 : List AOp := [⟨(some 4), .mv (.k (.bool false)), none, none, [], none⟩]
def ac_top_TopPages_36 : AC := .reg l_top_TopPages_36
def ac_top_TopPages_37 : AC := .seq ac_top_TopPages_36 .ret
def ac_top_TopPages_38 : AC := .cond (.t 99) ac_top_TopPages_37 .skip
def ac_top_TopPages_39 : AC := .seq ac_top_TopPages_35 ac_top_TopPages_38
def l_top_TopPages_40 : List AOp := [⟨(some 12), .mv (.k (.int .i64 0)), none, none, [], none⟩]
def ac_top_TopPages_40 : AC := .reg l_top_TopPages_40
def l_top_TopPages_41 : List AOp := [⟨(some 100), .mv (.t 12), none, none, [], none⟩,
  ⟨(some 101), .mv (.t 7), none, none, [], none⟩,
  ⟨(some 102), .len (.t 101), none, none, [], none⟩,
  ⟨(some 103), .bin .lss (.t 100) (.t 102), none, none, [], none⟩]
def ac_top_TopPages_41 : AC := .reg l_top_TopPages_41
def ac_top_TopPages_42 : AC := .cond (.t 103) .skip (.exit 2)
def ac_top_TopPages_43 : AC := .seq ac_top_TopPages_41 ac_top_TopPages_42
def l_top_TopPages_44 : List AOp := [⟨(some 107), .mv (.t 5), none, none, [], none⟩,
  ⟨(some 108), .mv (.t 1), none, none, [], none⟩,
  ⟨(some 109), .bin .mul (.k (.int .i64 8)) (.t 108), none, none, [], none⟩,
  ⟨(some 110), .mv (.t 12), none, none, [], none⟩,
  ⟨(some 111), .bin .add (.t 109) (.t 110), none, none, [], none⟩,
  ⟨(some 112), .icall 13 [(.t 107), (.t 111)], none, none, [], none⟩,
  ⟨(some 106), .mv (.t 112), none, none, [], none⟩,
  ⟨(some 113), .ext 0 (.t 106), none, none, [], none⟩,
  ⟨(some 114), .ext 1 (.t 106), none, none, [], none⟩,
  ⟨(some 13), .mv (.t 113), none, none, [], none⟩,
  ⟨(some 14), .mv (.t 114), none, none, [], none⟩]
def ac_top_TopPages_44 : AC := .reg l_top_TopPages_44
def l_top_TopPages_45 : List AOp := [⟨(some 116), .mv (.t 13), none, none, [], none⟩,
  ⟨(some 117), .call false 14 [(.t 116)], none, none, [], none⟩,
  ⟨(some 115), .mv (.t 117), none, none, [], none⟩,
  ⟨(some 118), .ext 0 (.t 115), none, none, [], none⟩,
  ⟨(some 119), .ext 1 (.t 115), none, none, [], none⟩,
  ⟨(some 15), .alloc [(.int .i64 0), (.int .i64 0), (.int .i64 0), (.int .i64 0), (.str [])], none, none, [], none⟩,
  ⟨none, .store 5 (.t 15) (.t 118), none, none, [], none⟩,
  ⟨(some 16), .mv (.t 119), none, none, [], none⟩]
def ac_top_TopPages_45 : AC := .reg l_top_TopPages_45
def l_top_TopPages_46 : List AOp := [⟨(some 120), .mv (.t 14), none, none, [], none⟩,
  ⟨(some 121), .isn .i true (.t 120), none, none, [], none⟩,
  ⟨(some 122), .mv (.t 121), none, none, [], none⟩,
  ⟨(some 123), .mv (.t 16), (some (122, false)), none, [], none⟩,
  ⟨(some 124), .bin .neq (.t 123) (.k (.int .i64 0)), (some (122, false)), none, [], none⟩,
  ⟨(some 125), .pick (.t 122) (.k (.bool true)) (.t 124), none, none, [], none⟩,
  ⟨(some 126), .mv (.t 125), none, none, [], none⟩,
  ⟨(some 127), .load (some 5) (.t 15), (some (126, false)), none, [], none⟩,
  ⟨(some 128), .mv (.t 7), (some (126, false)), none, [], none⟩,
  ⟨(some 129), .mv (.t 12), (some (126, false)), none, [], none⟩,
  ⟨(some 130), .isl 5 (.t 128) (.t 129), (some (126, false)), none, [], none⟩,
  ⟨(some 131), .load (some 5) (.t 130), (some (126, false)), none, [], none⟩,
  ⟨(some 132), .eqs true [.i, .i, .i, .i, .s] (.t 127) (.t 131), (some (126, false)), none, [], none⟩,
  ⟨(some 133), .pick (.t 126) (.k (.bool true)) (.t 132), none, none, [], none⟩]
def ac_top_TopPages_46 : AC := .dreg 0 l_top_TopPages_46
def l_top_TopPages_47 : List AOp := [⟨(some 4), .mv (.k (.bool false)), none, none, [], none⟩]
def ac_top_TopPages_47 : AC := .reg l_top_TopPages_47
def ac_top_TopPages_48 : AC := .seq ac_top_TopPages_47 .ret
def ac_top_TopPages_49 : AC := .cond (.t 133) ac_top_TopPages_48 .skip
def ac_top_TopPages_50 : AC := .seq ac_top_TopPages_46 ac_top_TopPages_49
def ac_top_TopPages_51 : AC := .seq ac_top_TopPages_45 ac_top_TopPages_50
def ac_top_TopPages_52 : AC := .seq ac_top_TopPages_44 ac_top_TopPages_51
def ac_top_TopPages_53 : AC := .block 3 ac_top_TopPages_52
def l_top_TopPages_54 : List AOp := [⟨(some 104), .mv (.t 12), none, none, [], none⟩,
  ⟨(some 105), .bin .add (.t 104) (.k (.int .i64 1)), none, none, [], none⟩,
  ⟨(some 12), .mv (.t 105), none, none, [], none⟩]
def ac_top_TopPages_54 : AC := .reg l_top_TopPages_54
def ac_top_TopPages_55 : AC := .seq ac_top_TopPages_53 ac_top_TopPages_54
def ac_top_TopPages_56 : AC := .seq ac_top_TopPages_43 ac_top_TopPages_55
def ac_top_TopPages_57 : AC := .loop [1, 5, 7, 11, 12] 1000000000 ac_top_TopPages_56
def ac_top_TopPages_58 : AC := .block 2 ac_top_TopPages_57
def ac_top_TopPages_59 : AC := .seq ac_top_TopPages_40 ac_top_TopPages_58
def l_top_TopPages_60 : List AOp := [⟨(some 134), .mv (.t 1), none, none, [], none⟩,
  ⟨(some 135), .bin .add (.t 134) (.k (.int .i64 2)), none, none, [], none⟩,
  ⟨(some 136), .bin .rem (.t 135) (.k (.int .i64 16)), none, none, [], none⟩,
  ⟨(some 17), .mv (.t 136), none, none, [], none⟩]
def ac_top_TopPages_60 : AC := .reg l_top_TopPages_60
def l_top_TopPages_61 : List AOp := [⟨(some 138), .build [(.int .i64 0), (.int .i64 0), (.int .i64 0), (.int .i64 0), (.str [])] [(0, 1, (.k (.int .i64 4)))], none, none, [], none⟩,
  ⟨(some 139), .call false 5 [(.t 138)], none, none, [], none⟩,
  ⟨(some 137), .mv (.t 139), none, none, [], none⟩,
  ⟨(some 140), .ext 0 (.t 137), none, none, [], none⟩,
  ⟨(some 141), .ext 1 (.t 137), none, none, [], none⟩,
  ⟨(some 18), .mv (.t 140), none, none, [], none⟩,
  ⟨(some 19), .mv (.t 141), none, none, [], none⟩]
def ac_top_TopPages_61 : AC := .reg l_top_TopPages_61
def l_top_TopPages_62 : List AOp := [⟨(some 142), .mv (.t 5), none, none, [], none⟩,
  ⟨(some 143), .mv (.t 17), none, none, [], none⟩,
  ⟨(some 144), .bin .mul (.k (.int .i64 8)) (.t 143), none, none, [], none⟩,
  ⟨(some 145), .mv (.t 18), none, none, [], none⟩,
  ⟨(some 146), .icall 9 [(.t 142), (.t 144), (.t 145)], none, none, [], none⟩,
  ⟨(some 20), .mv (.t 146), none, none, [], none⟩]
def ac_top_TopPages_62 : AC := .reg l_top_TopPages_62
def l_top_TopPages_63 : List AOp := [⟨(some 147), .mv (.t 5), none, none, [], none⟩,
  ⟨(some 148), .mv (.t 17), none, none, [], none⟩,
  ⟨(some 149), .icall 15 [(.t 147), (.t 148)], none, none, [], none⟩,
  ⟨(some 21), .mv (.t 149), none, none, [], none⟩]
def ac_top_TopPages_63 : AC := .reg l_top_TopPages_63
def l_top_TopPages_64 : List AOp := [⟨(some 151), .mv (.t 5), none, none, [], none⟩,
  ⟨(some 152), .mv (.t 17), none, none, [], none⟩,
  ⟨(some 153), .bin .mul (.k (.int .i64 8)) (.t 152), none, none, [], none⟩,
  ⟨(some 154), .icall 13 [(.t 151), (.t 153)], none, none, [], none⟩,
  ⟨(some 150), .mv (.t 154), none, none, [], none⟩,
  ⟨(some 155), .ext 0 (.t 150), none, none, [], none⟩,
  ⟨(some 156), .ext 1 (.t 150), none, none, [], none⟩,
  ⟨(some 22), .mv (.t 155), none, none, [], none⟩,
  ⟨(some 23), .mv (.t 156), none, none, [], none⟩]
def ac_top_TopPages_64 : AC := .reg l_top_TopPages_64
def l_top_TopPages_65 : List AOp := [⟨(some 157), .mv (.t 20), none, none, [], none⟩,
  ⟨(some 158), .isn .i false (.t 157), none, none, [], none⟩,
  ⟨(some 159), .mv (.t 158), none, none, [], none⟩,
  ⟨(some 160), .mv (.t 21), (some (159, true)), none, [], none⟩,
  ⟨(some 161), .isn .i false (.t 160), (some (159, true)), none, [], none⟩,
  ⟨(some 162), .pick (.t 159) (.t 161) (.k (.bool false)), none, none, [], none⟩,
  ⟨(some 163), .mv (.t 162), none, none, [], none⟩,
  ⟨(some 164), .mv (.t 23), (some (163, true)), none, [], none⟩,
  ⟨(some 165), .rcall 11 [(.t 164)], (some (163, true)), none, [], none⟩,
  ⟨(some 166), .bin .eql (.t 165) (.k (.int .i64 42)), (some (163, true)), none, [], none⟩,
  ⟨(some 167), .pick (.t 163) (.t 166) (.k (.bool false)), none, none, [], none⟩,
  ⟨(some 168), .mv (.t 167), none, none, [], none⟩,
  ⟨(some 169), .mv (.t 5), (some (168, true)), none, [], none⟩,
  ⟨(some 170), .mv (.t 1), (some (168, true)), none, [], none⟩,
  ⟨(some 171), .rcall 16 [(.t 169), (.t 170)], (some (168, true)), none, [], none⟩,
  ⟨(some 172), .pick (.t 168) (.t 171) (.k (.bool false)), none, none, [], none⟩,
  ⟨(some 173), .mv (.t 172), none, none, [], none⟩,
  ⟨(some 174), .mv (.t 5), (some (173, true)), none, [], none⟩,
  ⟨(some 175), .mv (.t 11), (some (173, true)), none, [], none⟩,
  ⟨(some 176), .rcall 16 [(.t 174), (.t 175)], (some (173, true)), none, [], none⟩,
  ⟨(some 177), .pick (.t 173) (.t 176) (.k (.bool false)), none, none, [], none⟩,
  ⟨(some 178), .mv (.t 177), none, none, [], none⟩,
  ⟨(some 179), .mv (.t 5), (some (178, true)), none, [], none⟩,
  ⟨(some 180), .mv (.t 17), (some (178, true)), none, [], none⟩,
  ⟨(some 181), .rcall 16 [(.t 179), (.t 180)], (some (178, true)), none, [], none⟩,
  ⟨(some 182), .un .not (.t 181), (some (178, true)), none, [], none⟩,
  ⟨(some 183), .pick (.t 178) (.t 182) (.k (.bool false)), none, none, [], none⟩,
  ⟨(some 4), .mv (.t 183), none, none, [], none⟩]
def ac_top_TopPages_65 : AC := .reg l_top_TopPages_65
def ac_top_TopPages_66 : AC := .seq ac_top_TopPages_65 .ret
def ac_top_TopPages_67 : AC := .seq ac_top_TopPages_64 ac_top_TopPages_66
def ac_top_TopPages_68 : AC := .seq ac_top_TopPages_63 ac_top_TopPages_67
def ac_top_TopPages_69 : AC := .seq ac_top_TopPages_62 ac_top_TopPages_68
def ac_top_TopPages_70 : AC := .seq ac_top_TopPages_61 ac_top_TopPages_69
def ac_top_TopPages_71 : AC := .seq ac_top_TopPages_60 ac_top_TopPages_70
def ac_top_TopPages_72 : AC := .seq ac_top_TopPages_59 ac_top_TopPages_71
def ac_top_TopPages_73 : AC := .seq ac_top_TopPages_39 ac_top_TopPages_72
def ac_top_TopPages_74 : AC := .seq ac_top_TopPages_34 ac_top_TopPages_73
def ac_top_TopPages_75 : AC := .seq ac_top_TopPages_33 ac_top_TopPages_74
def ac_top_TopPages_76 : AC := .seq ac_top_TopPages_32 ac_top_TopPages_75
def ac_top_TopPages_77 : AC := .seq ac_top_TopPages_8 ac_top_TopPages_76
def ac_top_TopPages_78 : AC := .seq ac_top_TopPages_7 ac_top_TopPages_77
def ac_top_TopPages_79 : AC := .seq ac_top_TopPages_2 ac_top_TopPages_78
def ac_top_TopPages_80 : AC := .seq ac_top_TopPages_1 ac_top_TopPages_79
def ac_top_TopPages_81 : AC := .seq ac_top_TopPages_0 ac_top_TopPages_80
def ac_top_TopPages : AC := ac_top_TopPages_81
theorem comp_top_TopPages : compF Tryd.prog [7, 1000007, 1000009, 1000010, 4000011, 1000015, 1000013, 4000016] (drawR Tryd.prog [7, 1000007, 1000009, 1000010, 4000011, 1000015, 1000013, 4000016] Tryd.f4.ntmps) [([0, 1, 5, 7, 8], 1000000000), ([1, 5, 7, 11, 12], 1000000000)] 2 Tryd.f4 = some (ac_top_TopPages, [.t 4]) := by kernel_rfl
def U_top_TopPages := (And.intro (And.intro (And.intro (And.intro (And.intro (And.intro (And.intro @ac_top_TopPages.eq_1 (@mR _ _ ac_top_TopPages_0.eq_1)) (And.intro (@mR _ _ ac_top_TopPages_1.eq_1) (@mR _ _ ac_top_TopPages_2.eq_1))) (And.intro (And.intro (@mR _ _ ac_top_TopPages_3.eq_1) (@mR _ _ ac_top_TopPages_4.eq_1)) (And.intro (@mU _ _ ac_top_TopPages_5.eq_1) (@mU _ _ ac_top_TopPages_6.eq_1)))) (And.intro (And.intro (And.intro (@mU _ _ ac_top_TopPages_7.eq_1) (@mR _ _ ac_top_TopPages_8.eq_1)) (And.intro (@mR _ _ ac_top_TopPages_9.eq_1) (@mR _ _ ac_top_TopPages_10.eq_1))) (And.intro (And.intro (@mU _ _ ac_top_TopPages_11.eq_1) (@mU _ _ ac_top_TopPages_12.eq_1)) (@mR _ _ ac_top_TopPages_13.eq_1)))) (And.intro (And.intro (And.intro (And.intro (@mR _ _ ac_top_TopPages_14.eq_1) (@mU _ _ ac_top_TopPages_15.eq_1)) (And.intro (@mU _ _ ac_top_TopPages_16.eq_1) (@mR _ _ ac_top_TopPages_17.eq_1))) (And.intro (And.intro (@mR _ _ ac_top_TopPages_18.eq_1) (@mU _ _ ac_top_TopPages_19.eq_1)) (@mU _ _ ac_top_TopPages_20.eq_1))) (And.intro (And.intro (And.intro (@mU _ _ ac_top_TopPages_21.eq_1) (@mR _ _ ac_top_TopPages_22.eq_1)) (And.intro (@mU _ _ ac_top_TopPages_23.eq_1) (@mU _ _ ac_top_TopPages_24.eq_1))) (And.intro (And.intro (@mU _ _ ac_top_TopPages_25.eq_1) (@mU _ _ ac_top_TopPages_26.eq_1)) (@mR _ _ ac_top_TopPages_27.eq_1))))) (And.intro (And.intro (And.intro (And.intro (And.intro (@mU _ _ ac_top_TopPages_28.eq_1) (@mU _ _ ac_top_TopPages_29.eq_1)) (And.intro (@mU _ _ ac_top_TopPages_30.eq_1) (@mU _ _ ac_top_TopPages_31.eq_1))) (And.intro (And.intro (@mU _ _ ac_top_TopPages_32.eq_1) (@mR _ _ ac_top_TopPages_33.eq_1)) (@mR _ _ ac_top_TopPages_34.eq_1))) (And.intro (And.intro (And.intro (@mR _ _ ac_top_TopPages_35.eq_1) (@mR _ _ ac_top_TopPages_36.eq_1)) (And.intro (@mU _ _ ac_top_TopPages_37.eq_1) (@mU _ _ ac_top_TopPages_38.eq_1))) (And.intro (And.intro (@mU _ _ ac_top_TopPages_39.eq_1) (@mR _ _ ac_top_TopPages_40.eq_1)) (@mR _ _ ac_top_TopPages_41.eq_1)))) (And.intro (And.intro (And.intro (And.intro (@mU _ _ ac_top_TopPages_42.eq_1) (@mU _ _ ac_top_TopPages_43.eq_1)) (And.intro (@mR _ _ ac_top_TopPages_44.eq_1) (@mR _ _ ac_top_TopPages_45.eq_1))) (And.intro (And.intro (@mD _ _ _ ac_top_TopPages_46.eq_1) (@mR _ _ ac_top_TopPages_47.eq_1)) (@mU _ _ ac_top_TopPages_48.eq_1))) (And.intro (And.intro (And.intro (@mU _ _ ac_top_TopPages_49.eq_1) (@mU _ _ ac_top_TopPages_50.eq_1)) (And.intro (@mU _ _ ac_top_TopPages_51.eq_1) (@mU _ _ ac_top_TopPages_52.eq_1))) (And.intro (And.intro (@mU _ _ ac_top_TopPages_53.eq_1) (@mR _ _ ac_top_TopPages_54.eq_1)) (@mU _ _ ac_top_TopPages_55.eq_1)))))) (And.intro (And.intro (And.intro (And.intro (And.intro (And.intro (@mU _ _ ac_top_TopPages_56.eq_1) (@mU _ _ ac_top_TopPages_57.eq_1)) (And.intro (@mU _ _ ac_top_TopPages_58.eq_1) (@mU _ _ ac_top_TopPages_59.eq_1))) (And.intro (And.intro (@mR _ _ ac_top_TopPages_60.eq_1) (@mR _ _ ac_top_TopPages_61.eq_1)) (And.intro (@mR _ _ ac_top_TopPages_62.eq_1) (@mR _ _ ac_top_TopPages_63.eq_1)))) (And.intro (And.intro (And.intro (@mR _ _ ac_top_TopPages_64.eq_1) (@mR _ _ ac_top_TopPages_65.eq_1)) (And.intro (@mU _ _ ac_top_TopPages_66.eq_1) (@mU _ _ ac_top_TopPages_67.eq_1))) (And.intro (And.intro (@mU _ _ ac_top_TopPages_68.eq_1) (@mU _ _ ac_top_TopPages_69.eq_1)) (@mU _ _ ac_top_TopPages_70.eq_1)))) (And.intro (And.intro (And.intro (And.intro (@mU _ _ ac_top_TopPages_71.eq_1) (@mU _ _ ac_top_TopPages_72.eq_1)) (And.intro (@mU _ _ ac_top_TopPages_73.eq_1) (@mU _ _ ac_top_TopPages_74.eq_1))) (And.intro (And.intro (@mU _ _ ac_top_TopPages_75.eq_1) (@mU _ _ ac_top_TopPages_76.eq_1)) (@mU _ _ ac_top_TopPages_77.eq_1))) (And.intro (And.intro (And.intro (@mU _ _ ac_top_TopPages_78.eq_1) (@mU _ _ ac_top_TopPages_79.eq_1)) (And.intro (@mU _ _ ac_top_TopPages_80.eq_1) (@mU _ _ ac_top_TopPages_81.eq_1))) (And.intro (And.intro @l_top_TopPages_0.eq_1 @l_top_TopPages_1.eq_1) @l_top_TopPages_2.eq_1)))) (And.intro (And.intro (And.intro (And.intro (And.intro @l_top_TopPages_3.eq_1 @l_top_TopPages_4.eq_1) (And.intro @l_top_TopPages_8.eq_1 @l_top_TopPages_9.eq_1)) (And.intro (And.intro @l_top_TopPages_10.eq_1 @l_top_TopPages_13.eq_1) @l_top_TopPages_14.eq_1)) (And.intro (And.intro (And.intro @l_top_TopPages_17.eq_1 @l_top_TopPages_18.eq_1) (And.intro @l_top_TopPages_22.eq_1 @l_top_TopPages_27.eq_1)) (And.intro (And.intro @l_top_TopPages_33.eq_1 @l_top_TopPages_34.eq_1) @l_top_TopPages_35.eq_1))) (And.intro (And.intro (And.intro (And.intro @l_top_TopPages_36.eq_1 @l_top_TopPages_40.eq_1) (And.intro @l_top_TopPages_41.eq_1 @l_top_TopPages_44.eq_1)) (And.intro (And.intro @l_top_TopPages_45.eq_1 @l_top_TopPages_46.eq_1) @l_top_TopPages_47.eq_1)) (And.intro (And.intro (And.intro @l_top_TopPages_54.eq_1 @l_top_TopPages_60.eq_1) (And.intro @l_top_TopPages_61.eq_1 @l_top_TopPages_62.eq_1)) (And.intro (And.intro @l_top_TopPages_63.eq_1 @l_top_TopPages_64.eq_1) @l_top_TopPages_65.eq_1))))))

end Go.Proofs.YtdgpiobmncohjaaDoor.Aw
