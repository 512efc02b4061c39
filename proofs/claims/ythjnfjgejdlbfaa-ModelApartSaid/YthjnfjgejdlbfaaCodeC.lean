/-
  The functions of the seat, translated to abstract code. Written by a program (wip/Gen2.lean).
-/
import Derived.Test.YthjnfjgejdlbfaaCodeB
import Derived.Test.YthjnfjgejdlbfaaProg
set_option maxRecDepth 100000
set_option linter.all false
namespace Go.Proofs.Ythjnfjgejdlbfaa.Aw
open Go.RowKit
/- scoria/scorialaw17.ModelCounts -/
def l_law17_ModelCounts_0 : List AOp := [⟨(some 2), .mv (.k (.bool false)), none, none, [], none⟩]
def ac_law17_ModelCounts_0 : AC := .reg l_law17_ModelCounts_0
def l_law17_ModelCounts_1 : List AOp := [⟨(some 15), .icall 10 [(.k (.int .i64 30))], none, none, [], none⟩,
  ⟨(some 3), .mv (.t 15), none, none, [], none⟩]
def ac_law17_ModelCounts_1 : AC := .reg l_law17_ModelCounts_1
def l_law17_ModelCounts_2 : List AOp := [⟨(some 16), .call false 11 [], none, none, [], none⟩,
  ⟨(some 17), .un .not (.t 16), none, none, [], none⟩,
  ⟨(some 18), .mv (.t 17), none, none, [], none⟩,
  ⟨(some 19), .mv (.t 3), (some (18, false)), none, [], none⟩,
  ⟨(some 20), .isn .p false (.t 19), (some (18, false)), none, [], none⟩,
  ⟨(some 21), .pick (.t 18) (.k (.bool true)) (.t 20), none, none, [], none⟩,
  ⟨(some 22), .mv (.t 21), none, none, [], none⟩,
  ⟨(some 23), .mv (.t 3), (some (22, false)), none, [], none⟩,
  ⟨(some 24), .build [(.int .i64 0), (.int .i64 0), (.int .i64 0), (.int .i64 0), (.str [])] [(0, 1, (.k (.int .i64 1))), (1, 1, (.k (.int .i64 1))), (3, 1, (.k (.int .i64 40)))], (some (22, false)), none, [], none⟩,
  ⟨(some 25), .icall 12 [(.t 23), (.t 24)], (some (22, false)), none, [], none⟩,
  ⟨(some 26), .fld none 0 (.t 25), (some (22, false)), none, [], none⟩,
  ⟨(some 27), .bin .neq (.t 26) (.k (.int .i64 0)), (some (22, false)), none, [], none⟩,
  ⟨(some 28), .pick (.t 22) (.k (.bool true)) (.t 27), none, none, [], none⟩]
def ac_law17_ModelCounts_2 : AC := .reg l_law17_ModelCounts_2
def l_law17_ModelCounts_3 : List AOp := [⟨(some 2), .mv (.k (.bool false)), none, none, [], none⟩]
def ac_law17_ModelCounts_3 : AC := .reg l_law17_ModelCounts_3
def ac_law17_ModelCounts_4 : AC := .seq ac_law17_ModelCounts_3 .ret
def ac_law17_ModelCounts_5 : AC := .cond (.t 28) ac_law17_ModelCounts_4 .skip
def ac_law17_ModelCounts_6 : AC := .seq ac_law17_ModelCounts_2 ac_law17_ModelCounts_5
def l_law17_ModelCounts_7 : List AOp := [⟨(some 4), .alloc (List.replicate 40 (.bool false)), none, none, [], none⟩]
def ac_law17_ModelCounts_7 : AC := .reg l_law17_ModelCounts_7
def l_law17_ModelCounts_8 : List AOp := [⟨(some 5), .mv (.k (.int .i64 0)), none, none, [], none⟩]
def ac_law17_ModelCounts_8 : AC := .reg l_law17_ModelCounts_8
def l_law17_ModelCounts_9 : List AOp := [⟨(some 6), .mv (.k (.int .i64 0)), none, none, [], none⟩]
def ac_law17_ModelCounts_9 : AC := .reg l_law17_ModelCounts_9
def l_law17_ModelCounts_10 : List AOp := [⟨(some 29), .mv (.t 6), none, none, [], none⟩,
  ⟨(some 30), .mv (.t 0), none, none, [], none⟩,
  ⟨(some 31), .len (.t 30), none, none, [], none⟩,
  ⟨(some 32), .bin .lss (.t 29) (.t 31), none, none, [], none⟩,
  ⟨(some 33), .mv (.t 32), none, none, [], none⟩,
  ⟨(some 34), .mv (.t 6), (some (33, true)), none, [], none⟩,
  ⟨(some 35), .bin .lss (.t 34) (.k (.int .i64 60)), (some (33, true)), none, [], none⟩,
  ⟨(some 36), .pick (.t 33) (.t 35) (.k (.bool false)), none, none, [], none⟩]
def ac_law17_ModelCounts_10 : AC := .reg l_law17_ModelCounts_10
def ac_law17_ModelCounts_11 : AC := .cond (.t 36) .skip (.exit 0)
def ac_law17_ModelCounts_12 : AC := .seq ac_law17_ModelCounts_10 ac_law17_ModelCounts_11
def l_law17_ModelCounts_13 : List AOp := [⟨(some 39), .mv (.t 0), none, none, [], none⟩,
  ⟨(some 40), .mv (.t 6), none, none, [], none⟩,
  ⟨(some 41), .isl 5 (.t 39) (.t 40), none, none, [], none⟩,
  ⟨(some 42), .load (some 5) (.t 41), none, none, [], none⟩,
  ⟨(some 7), .alloc [(.int .i64 0), (.int .i64 0), (.int .i64 0), (.int .i64 0), (.str [])], none, none, [], none⟩,
  ⟨none, .store 5 (.t 7) (.t 42), none, none, [], none⟩]
def ac_law17_ModelCounts_13 : AC := .reg l_law17_ModelCounts_13
def l_law17_ModelCounts_14 : List AOp := [⟨(some 43), .faddr 1 (.t 7), none, none, [], none⟩,
  ⟨none, .store 1 (.t 43) (.k (.int .i64 1)), none, none, [], none⟩]
def ac_law17_ModelCounts_14 : AC := .reg l_law17_ModelCounts_14
def l_law17_ModelCounts_15 : List AOp := [⟨(some 44), .faddr 3 (.t 7), none, none, [], none⟩,
  ⟨(some 45), .load none (.t 44), none, none, [], none⟩,
  ⟨(some 8), .mv (.t 45), none, none, [], none⟩]
def ac_law17_ModelCounts_15 : AC := .reg l_law17_ModelCounts_15
def l_law17_ModelCounts_16 : List AOp := [⟨(some 46), .faddr 0 (.t 7), none, none, [], none⟩,
  ⟨(some 47), .load none (.t 46), none, none, [], none⟩,
  ⟨(some 48), .bin .eql (.t 47) (.k (.int .i64 4)), none, none, [], none⟩]
def ac_law17_ModelCounts_16 : AC := .reg l_law17_ModelCounts_16
def l_law17_ModelCounts_17 : List AOp := [⟨(some 49), .faddr 4 (.t 7), none, none, [], none⟩,
  ⟨(some 50), .load none (.t 49), none, none, [], none⟩,
  ⟨(some 51), .lens (.t 50), none, none, [], none⟩,
  ⟨(some 52), .bin .quo (.t 51) (.k (.int .i64 32)), none, none, [], none⟩,
  ⟨(some 8), .mv (.t 52), none, none, [], none⟩]
def ac_law17_ModelCounts_17 : AC := .reg l_law17_ModelCounts_17
def ac_law17_ModelCounts_18 : AC := .cond (.t 48) ac_law17_ModelCounts_17 .skip
def ac_law17_ModelCounts_19 : AC := .seq ac_law17_ModelCounts_16 ac_law17_ModelCounts_18
def l_law17_ModelCounts_20 : List AOp := [⟨(some 53), .faddr 0 (.t 7), none, none, [], none⟩,
  ⟨(some 54), .load none (.t 53), none, none, [], none⟩,
  ⟨(some 55), .bin .neq (.t 54) (.k (.int .i64 4)), none, none, [], none⟩,
  ⟨(some 56), .mv (.t 55), none, none, [], none⟩,
  ⟨(some 57), .faddr 0 (.t 7), (some (56, true)), none, [], none⟩,
  ⟨(some 58), .load none (.t 57), (some (56, true)), none, [], none⟩,
  ⟨(some 59), .bin .neq (.t 58) (.k (.int .i64 5)), (some (56, true)), none, [], none⟩,
  ⟨(some 60), .pick (.t 56) (.t 59) (.k (.bool false)), none, none, [], none⟩,
  ⟨(some 61), .mv (.t 60), none, none, [], none⟩,
  ⟨(some 62), .faddr 0 (.t 7), (some (61, true)), none, [], none⟩,
  ⟨(some 63), .load none (.t 62), (some (61, true)), none, [], none⟩,
  ⟨(some 64), .bin .neq (.t 63) (.k (.int .i64 6)), (some (61, true)), none, [], none⟩,
  ⟨(some 65), .pick (.t 61) (.t 64) (.k (.bool false)), none, none, [], none⟩,
  ⟨(some 66), .mv (.t 65), none, none, [], none⟩,
  ⟨(some 67), .faddr 2 (.t 7), (some (66, false)), none, [], none⟩,
  ⟨(some 68), .load none (.t 67), (some (66, false)), none, [], none⟩,
  ⟨(some 69), .bin .lss (.t 68) (.k (.int .i64 0)), (some (66, false)), none, [], none⟩,
  ⟨(some 70), .pick (.t 66) (.k (.bool true)) (.t 69), none, none, [], none⟩,
  ⟨(some 71), .mv (.t 70), none, none, [], none⟩,
  ⟨(some 72), .faddr 2 (.t 7), (some (71, false)), none, [], none⟩,
  ⟨(some 73), .load none (.t 72), (some (71, false)), none, [], none⟩,
  ⟨(some 74), .bin .geq (.t 73) (.k (.int .i64 40)), (some (71, false)), none, [], none⟩,
  ⟨(some 75), .pick (.t 71) (.k (.bool true)) (.t 74), none, none, [], none⟩,
  ⟨(some 76), .mv (.t 75), none, none, [], none⟩,
  ⟨(some 77), .mv (.t 8), (some (76, false)), none, [], none⟩,
  ⟨(some 78), .bin .lss (.t 77) (.k (.int .i64 1)), (some (76, false)), none, [], none⟩,
  ⟨(some 79), .pick (.t 76) (.k (.bool true)) (.t 78), none, none, [], none⟩,
  ⟨(some 80), .mv (.t 79), none, none, [], none⟩,
  ⟨(some 81), .mv (.t 8), (some (80, false)), none, [], none⟩,
  ⟨(some 82), .bin .gtr (.t 81) (.k (.int .i64 8)), (some (80, false)), none, [], none⟩,
  ⟨(some 83), .pick (.t 80) (.k (.bool true)) (.t 82), none, none, [], none⟩,
  ⟨(some 84), .mv (.t 83), none, none, [], none⟩,
  ⟨(some 85), .mv (.t 8), (some (84, false)), none, [], none⟩,
  ⟨(some 86), .faddr 2 (.t 7), (some (84, false)), none, [], none⟩,
  ⟨(some 87), .load none (.t 86), (some (84, false)), none, [], none⟩,
  ⟨(some 88), .bin .sub (.k (.int .i64 40)) (.t 87), (some (84, false)), none, [], none⟩,
  ⟨(some 89), .bin .gtr (.t 85) (.t 88), (some (84, false)), none, [], none⟩,
  ⟨(some 90), .pick (.t 84) (.k (.bool true)) (.t 89), none, none, [], none⟩,
  ⟨(some 91), .mv (.t 90), none, none, [], none⟩,
  ⟨(some 92), .load (some 5) (.t 7), (some (91, false)), none, [], none⟩,
  ⟨(some 93), .call false 13 [(.t 92)], (some (91, false)), none, [], none⟩,
  ⟨(some 94), .un .not (.t 93), (some (91, false)), none, [], none⟩,
  ⟨(some 95), .pick (.t 91) (.k (.bool true)) (.t 94), none, none, [], none⟩]
def ac_law17_ModelCounts_20 : AC := .reg l_law17_ModelCounts_20
def ac_law17_ModelCounts_21 : AC := .cond (.t 95) (.exit 1) .skip
def ac_law17_ModelCounts_22 : AC := .seq ac_law17_ModelCounts_20 ac_law17_ModelCounts_21
def l_law17_ModelCounts_23 : List AOp := [⟨(some 9), .mv (.k (.int .i64 0)), none, none, [], none⟩]
def ac_law17_ModelCounts_23 : AC := .reg l_law17_ModelCounts_23
def l_law17_ModelCounts_24 : List AOp := [⟨(some 10), .mv (.k (.int .i64 0)), none, none, [], none⟩]
def ac_law17_ModelCounts_24 : AC := .reg l_law17_ModelCounts_24
def l_law17_ModelCounts_25 : List AOp := [⟨(some 96), .mv (.t 10), none, none, [], none⟩,
  ⟨(some 97), .mv (.t 8), none, none, [], none⟩,
  ⟨(some 98), .bin .lss (.t 96) (.t 97), none, none, [], none⟩]
def ac_law17_ModelCounts_25 : AC := .reg l_law17_ModelCounts_25
def ac_law17_ModelCounts_26 : AC := .cond (.t 98) .skip (.exit 2)
def ac_law17_ModelCounts_27 : AC := .seq ac_law17_ModelCounts_25 ac_law17_ModelCounts_26
def l_law17_ModelCounts_28 : List AOp := [⟨(some 101), .faddr 2 (.t 7), none, none, [], none⟩,
  ⟨(some 102), .load none (.t 101), none, none, [], none⟩,
  ⟨(some 103), .mv (.t 10), none, none, [], none⟩,
  ⟨(some 104), .bin .add (.t 102) (.t 103), none, none, [], none⟩,
  ⟨(some 105), .iarr 1 40 (.t 4) (.t 104), none, none, [], none⟩,
  ⟨(some 106), .load none (.t 105), none, none, [], none⟩,
  ⟨(some 107), .un .not (.t 106), none, none, [], none⟩]
def ac_law17_ModelCounts_28 : AC := .reg l_law17_ModelCounts_28
def l_law17_ModelCounts_29 : List AOp := [⟨(some 108), .mv (.t 9), none, none, [], none⟩,
  ⟨(some 109), .bin .add (.t 108) (.k (.int .i64 1)), none, none, [], none⟩,
  ⟨(some 9), .mv (.t 109), none, none, [], none⟩]
def ac_law17_ModelCounts_29 : AC := .reg l_law17_ModelCounts_29
def ac_law17_ModelCounts_30 : AC := .cond (.t 107) ac_law17_ModelCounts_29 .skip
def ac_law17_ModelCounts_31 : AC := .seq ac_law17_ModelCounts_28 ac_law17_ModelCounts_30
def ac_law17_ModelCounts_32 : AC := .block 3 ac_law17_ModelCounts_31
def l_law17_ModelCounts_33 : List AOp := [⟨(some 99), .mv (.t 10), none, none, [], none⟩,
  ⟨(some 100), .bin .add (.t 99) (.k (.int .i64 1)), none, none, [], none⟩,
  ⟨(some 10), .mv (.t 100), none, none, [], none⟩]
def ac_law17_ModelCounts_33 : AC := .reg l_law17_ModelCounts_33
def ac_law17_ModelCounts_34 : AC := .seq ac_law17_ModelCounts_32 ac_law17_ModelCounts_33
def ac_law17_ModelCounts_35 : AC := .seq ac_law17_ModelCounts_27 ac_law17_ModelCounts_34
def ac_law17_ModelCounts_36 : AC := .loop [0, 3, 4, 5, 6, 7, 8, 9, 10] 1000000000 ac_law17_ModelCounts_35
def ac_law17_ModelCounts_37 : AC := .block 2 ac_law17_ModelCounts_36
def ac_law17_ModelCounts_38 : AC := .seq ac_law17_ModelCounts_24 ac_law17_ModelCounts_37
def l_law17_ModelCounts_39 : List AOp := [⟨(some 110), .mv (.t 3), none, none, [], none⟩,
  ⟨(some 111), .load (some 5) (.t 7), none, none, [], none⟩,
  ⟨(some 112), .icall 12 [(.t 110), (.t 111)], none, none, [], none⟩,
  ⟨(some 113), .fld none 0 (.t 112), none, none, [], none⟩,
  ⟨(some 11), .mv (.t 113), none, none, [], none⟩]
def ac_law17_ModelCounts_39 : AC := .reg l_law17_ModelCounts_39
def l_law17_ModelCounts_40 : List AOp := [⟨(some 114), .faddr 0 (.t 7), none, none, [], none⟩,
  ⟨(some 115), .load none (.t 114), none, none, [], none⟩,
  ⟨(some 116), .bin .neq (.t 115) (.k (.int .i64 6)), none, none, [], none⟩,
  ⟨(some 117), .mv (.t 116), none, none, [], none⟩,
  ⟨(some 118), .mv (.t 9), (some (117, true)), none, [], none⟩,
  ⟨(some 119), .mv (.t 5), (some (117, true)), none, [], none⟩,
  ⟨(some 120), .bin .sub (.k (.int .i64 30)) (.t 119), (some (117, true)), none, [], none⟩,
  ⟨(some 121), .bin .gtr (.t 118) (.t 120), (some (117, true)), none, [], none⟩,
  ⟨(some 122), .pick (.t 117) (.t 121) (.k (.bool false)), none, none, [], none⟩,
  ⟨(some 12), .mv (.t 122), none, none, [], none⟩]
def ac_law17_ModelCounts_40 : AC := .reg l_law17_ModelCounts_40
def l_law17_ModelCounts_41 : List AOp := [⟨(some 123), .faddr 0 (.t 7), none, none, [], none⟩,
  ⟨(some 124), .load none (.t 123), none, none, [], none⟩,
  ⟨(some 125), .bin .eql (.t 124) (.k (.int .i64 4)), none, none, [], none⟩,
  ⟨(some 126), .mv (.t 125), none, none, [], none⟩,
  ⟨(some 127), .mv (.t 8), (some (126, true)), none, [], none⟩,
  ⟨(some 128), .bin .mul (.t 127) (.k (.int .i64 32)), (some (126, true)), none, [], none⟩,
  ⟨(some 129), .faddr 4 (.t 7), (some (126, true)), none, [], none⟩,
  ⟨(some 130), .load none (.t 129), (some (126, true)), none, [], none⟩,
  ⟨(some 131), .lens (.t 130), (some (126, true)), none, [], none⟩,
  ⟨(some 132), .bin .neq (.t 128) (.t 131), (some (126, true)), none, [], none⟩,
  ⟨(some 133), .pick (.t 126) (.t 132) (.k (.bool false)), none, none, [], none⟩]
def ac_law17_ModelCounts_41 : AC := .reg l_law17_ModelCounts_41
def l_law17_ModelCounts_42 : List AOp := [⟨(some 134), .mv (.t 11), none, none, [], none⟩,
  ⟨(some 135), .bin .neq (.t 134) (.k (.int .i64 1)), none, none, [], none⟩]
def ac_law17_ModelCounts_42 : AC := .reg l_law17_ModelCounts_42
def l_law17_ModelCounts_43 : List AOp := [⟨(some 2), .mv (.k (.bool false)), none, none, [], none⟩]
def ac_law17_ModelCounts_43 : AC := .reg l_law17_ModelCounts_43
def ac_law17_ModelCounts_44 : AC := .seq ac_law17_ModelCounts_43 .ret
def ac_law17_ModelCounts_45 : AC := .cond (.t 135) ac_law17_ModelCounts_44 .skip
def ac_law17_ModelCounts_46 : AC := .seq ac_law17_ModelCounts_42 ac_law17_ModelCounts_45
def ac_law17_ModelCounts_47 : AC := .seq ac_law17_ModelCounts_46 (.exit 1)
def ac_law17_ModelCounts_48 : AC := .cond (.t 133) ac_law17_ModelCounts_47 .skip
def ac_law17_ModelCounts_49 : AC := .seq ac_law17_ModelCounts_41 ac_law17_ModelCounts_48
def l_law17_ModelCounts_50 : List AOp := [⟨(some 136), .mv (.t 12), none, none, [], none⟩,
  ⟨(some 137), .mv (.t 11), none, none, [], none⟩,
  ⟨(some 138), .bin .eql (.t 137) (.k (.int .i64 71)), none, none, [], none⟩,
  ⟨(some 139), .eqb true (.t 136) (.t 138), none, none, [], none⟩,
  ⟨(some 140), .mv (.t 139), none, none, [], none⟩,
  ⟨(some 141), .mv (.t 12), (some (140, false)), none, [], none⟩,
  ⟨(some 142), .un .not (.t 141), (some (140, false)), none, [], none⟩,
  ⟨(some 143), .mv (.t 142), (some (140, false)), none, [], none⟩,
  ⟨(some 144), .mv (.t 11), (some (143, true)), none, [], none⟩,
  ⟨(some 145), .bin .neq (.t 144) (.k (.int .i64 0)), (some (143, true)), none, [], none⟩,
  ⟨(some 146), .pick (.t 143) (.t 145) (.k (.bool false)), (some (140, false)), none, [], none⟩,
  ⟨(some 147), .pick (.t 140) (.k (.bool true)) (.t 146), none, none, [], none⟩]
def ac_law17_ModelCounts_50 : AC := .reg l_law17_ModelCounts_50
def l_law17_ModelCounts_51 : List AOp := [⟨(some 2), .mv (.k (.bool false)), none, none, [], none⟩]
def ac_law17_ModelCounts_51 : AC := .reg l_law17_ModelCounts_51
def ac_law17_ModelCounts_52 : AC := .seq ac_law17_ModelCounts_51 .ret
def ac_law17_ModelCounts_53 : AC := .cond (.t 147) ac_law17_ModelCounts_52 .skip
def ac_law17_ModelCounts_54 : AC := .seq ac_law17_ModelCounts_50 ac_law17_ModelCounts_53
def l_law17_ModelCounts_55 : List AOp := [⟨(some 13), .mv (.k (.int .i64 0)), none, none, [], none⟩]
def ac_law17_ModelCounts_55 : AC := .reg l_law17_ModelCounts_55
def l_law17_ModelCounts_56 : List AOp := [⟨(some 148), .mv (.t 13), none, none, [], none⟩,
  ⟨(some 149), .mv (.t 8), none, none, [], none⟩,
  ⟨(some 150), .bin .lss (.t 148) (.t 149), none, none, [], none⟩,
  ⟨(some 151), .mv (.t 150), none, none, [], none⟩,
  ⟨(some 152), .mv (.t 12), (some (151, true)), none, [], none⟩,
  ⟨(some 153), .un .not (.t 152), (some (151, true)), none, [], none⟩,
  ⟨(some 154), .pick (.t 151) (.t 153) (.k (.bool false)), none, none, [], none⟩]
def ac_law17_ModelCounts_56 : AC := .reg l_law17_ModelCounts_56
def ac_law17_ModelCounts_57 : AC := .cond (.t 154) .skip (.exit 4)
def ac_law17_ModelCounts_58 : AC := .seq ac_law17_ModelCounts_56 ac_law17_ModelCounts_57
def l_law17_ModelCounts_59 : List AOp := [⟨(some 157), .faddr 2 (.t 7), none, none, [], none⟩,
  ⟨(some 158), .load none (.t 157), none, none, [], none⟩,
  ⟨(some 159), .mv (.t 13), none, none, [], none⟩,
  ⟨(some 160), .bin .add (.t 158) (.t 159), none, none, [], none⟩,
  ⟨(some 161), .iarr 1 40 (.t 4) (.t 160), none, none, [], none⟩,
  ⟨(some 162), .load none (.t 161), none, none, [], none⟩]
def ac_law17_ModelCounts_59 : AC := .reg l_law17_ModelCounts_59
def l_law17_ModelCounts_60 : List AOp := [⟨(some 163), .mv (.t 5), none, none, [], none⟩,
  ⟨(some 164), .bin .sub (.t 163) (.k (.int .i64 1)), none, none, [], none⟩,
  ⟨(some 5), .mv (.t 164), none, none, [], none⟩]
def ac_law17_ModelCounts_60 : AC := .reg l_law17_ModelCounts_60
def ac_law17_ModelCounts_61 : AC := .cond (.t 162) ac_law17_ModelCounts_60 .skip
def ac_law17_ModelCounts_62 : AC := .seq ac_law17_ModelCounts_59 ac_law17_ModelCounts_61
def l_law17_ModelCounts_63 : List AOp := [⟨(some 165), .faddr 2 (.t 7), none, none, [], none⟩,
  ⟨(some 166), .load none (.t 165), none, none, [], none⟩,
  ⟨(some 167), .mv (.t 13), none, none, [], none⟩,
  ⟨(some 168), .bin .add (.t 166) (.t 167), none, none, [], none⟩,
  ⟨(some 169), .faddr 0 (.t 7), none, none, [], none⟩,
  ⟨(some 170), .load none (.t 169), none, none, [], none⟩,
  ⟨(some 171), .bin .neq (.t 170) (.k (.int .i64 6)), none, none, [], none⟩,
  ⟨(some 172), .iarr 1 40 (.t 4) (.t 168), none, none, [], none⟩,
  ⟨none, .store 1 (.t 172) (.t 171), none, none, [], none⟩]
def ac_law17_ModelCounts_63 : AC := .reg l_law17_ModelCounts_63
def l_law17_ModelCounts_64 : List AOp := [⟨(some 173), .faddr 2 (.t 7), none, none, [], none⟩,
  ⟨(some 174), .load none (.t 173), none, none, [], none⟩,
  ⟨(some 175), .mv (.t 13), none, none, [], none⟩,
  ⟨(some 176), .bin .add (.t 174) (.t 175), none, none, [], none⟩,
  ⟨(some 177), .iarr 1 40 (.t 4) (.t 176), none, none, [], none⟩,
  ⟨(some 178), .load none (.t 177), none, none, [], none⟩]
def ac_law17_ModelCounts_64 : AC := .reg l_law17_ModelCounts_64
def l_law17_ModelCounts_65 : List AOp := [⟨(some 179), .mv (.t 5), none, none, [], none⟩,
  ⟨(some 180), .bin .add (.t 179) (.k (.int .i64 1)), none, none, [], none⟩,
  ⟨(some 5), .mv (.t 180), none, none, [], none⟩]
def ac_law17_ModelCounts_65 : AC := .reg l_law17_ModelCounts_65
def ac_law17_ModelCounts_66 : AC := .cond (.t 178) ac_law17_ModelCounts_65 .skip
def ac_law17_ModelCounts_67 : AC := .seq ac_law17_ModelCounts_64 ac_law17_ModelCounts_66
def ac_law17_ModelCounts_68 : AC := .seq ac_law17_ModelCounts_63 ac_law17_ModelCounts_67
def ac_law17_ModelCounts_69 : AC := .seq ac_law17_ModelCounts_62 ac_law17_ModelCounts_68
def ac_law17_ModelCounts_70 : AC := .block 5 ac_law17_ModelCounts_69
def l_law17_ModelCounts_71 : List AOp := [⟨(some 155), .mv (.t 13), none, none, [], none⟩,
  ⟨(some 156), .bin .add (.t 155) (.k (.int .i64 1)), none, none, [], none⟩,
  ⟨(some 13), .mv (.t 156), none, none, [], none⟩]
def ac_law17_ModelCounts_71 : AC := .reg l_law17_ModelCounts_71
def ac_law17_ModelCounts_72 : AC := .seq ac_law17_ModelCounts_70 ac_law17_ModelCounts_71
def ac_law17_ModelCounts_73 : AC := .seq ac_law17_ModelCounts_58 ac_law17_ModelCounts_72
def ac_law17_ModelCounts_74 : AC := .loop [0, 3, 4, 5, 6, 7, 8, 12, 13] 1000000000 ac_law17_ModelCounts_73
def ac_law17_ModelCounts_75 : AC := .block 4 ac_law17_ModelCounts_74
def ac_law17_ModelCounts_76 : AC := .seq ac_law17_ModelCounts_55 ac_law17_ModelCounts_75
def l_law17_ModelCounts_77 : List AOp := [⟨(some 181), .mv (.t 3), none, none, [], none⟩,
  ⟨(some 182), .build [(.int .i64 0), (.int .i64 0), (.int .i64 0), (.int .i64 0), (.str [])] [(0, 1, (.k (.int .i64 9))), (1, 1, (.k (.int .i64 1)))], none, none, [], none⟩,
  ⟨(some 183), .icall 12 [(.t 181), (.t 182)], none, none, [], none⟩,
  ⟨(some 14), .alloc [(.int .i64 0), (.str []), (.int .i64 0), (.int .i64 0), (.slc [])], none, none, [], none⟩,
  ⟨none, .store 5 (.t 14) (.t 183), none, none, [], none⟩]
def ac_law17_ModelCounts_77 : AC := .reg l_law17_ModelCounts_77
def l_law17_ModelCounts_78 : List AOp := [⟨(some 184), .faddr 3 (.t 14), none, none, [], none⟩,
  ⟨(some 185), .load none (.t 184), none, none, [], none⟩,
  ⟨(some 186), .mv (.t 5), none, none, [], none⟩,
  ⟨(some 187), .bin .neq (.t 185) (.t 186), none, none, [], none⟩,
  ⟨(some 188), .mv (.t 187), none, none, [], none⟩,
  ⟨(some 189), .faddr 2 (.t 14), (some (188, false)), none, [], none⟩,
  ⟨(some 190), .load none (.t 189), (some (188, false)), none, [], none⟩,
  ⟨(some 191), .bin .neq (.t 190) (.k (.int .i64 40)), (some (188, false)), none, [], none⟩,
  ⟨(some 192), .pick (.t 188) (.k (.bool true)) (.t 191), none, none, [], none⟩,
  ⟨(some 193), .mv (.t 192), none, none, [], none⟩,
  ⟨(some 194), .mv (.t 3), (some (193, false)), none, [], none⟩,
  ⟨(some 195), .build [(.int .i64 0), (.int .i64 0), (.int .i64 0), (.int .i64 0), (.str [])] [(0, 1, (.k (.int .i64 10)))], (some (193, false)), none, [], none⟩,
  ⟨(some 196), .icall 12 [(.t 194), (.t 195)], (some (193, false)), none, [], none⟩,
  ⟨(some 197), .fld none 3 (.t 196), (some (193, false)), none, [], none⟩,
  ⟨(some 198), .mv (.t 5), (some (193, false)), none, [], none⟩,
  ⟨(some 199), .bin .neq (.t 197) (.t 198), (some (193, false)), none, [], none⟩,
  ⟨(some 200), .pick (.t 193) (.k (.bool true)) (.t 199), none, none, [], none⟩]
def ac_law17_ModelCounts_78 : AC := .reg l_law17_ModelCounts_78
def l_law17_ModelCounts_79 : List AOp := [⟨(some 2), .mv (.k (.bool false)), none, none, [], none⟩]
def ac_law17_ModelCounts_79 : AC := .reg l_law17_ModelCounts_79
def ac_law17_ModelCounts_80 : AC := .seq ac_law17_ModelCounts_79 .ret
def ac_law17_ModelCounts_81 : AC := .cond (.t 200) ac_law17_ModelCounts_80 .skip
def ac_law17_ModelCounts_82 : AC := .seq ac_law17_ModelCounts_78 ac_law17_ModelCounts_81
def ac_law17_ModelCounts_83 : AC := .seq ac_law17_ModelCounts_77 ac_law17_ModelCounts_82
def ac_law17_ModelCounts_84 : AC := .seq ac_law17_ModelCounts_76 ac_law17_ModelCounts_83
def ac_law17_ModelCounts_85 : AC := .seq ac_law17_ModelCounts_54 ac_law17_ModelCounts_84
def ac_law17_ModelCounts_86 : AC := .seq ac_law17_ModelCounts_49 ac_law17_ModelCounts_85
def ac_law17_ModelCounts_87 : AC := .seq ac_law17_ModelCounts_40 ac_law17_ModelCounts_86
def ac_law17_ModelCounts_88 : AC := .seq ac_law17_ModelCounts_39 ac_law17_ModelCounts_87
def ac_law17_ModelCounts_89 : AC := .seq ac_law17_ModelCounts_38 ac_law17_ModelCounts_88
def ac_law17_ModelCounts_90 : AC := .seq ac_law17_ModelCounts_23 ac_law17_ModelCounts_89
def ac_law17_ModelCounts_91 : AC := .seq ac_law17_ModelCounts_22 ac_law17_ModelCounts_90
def ac_law17_ModelCounts_92 : AC := .seq ac_law17_ModelCounts_19 ac_law17_ModelCounts_91
def ac_law17_ModelCounts_93 : AC := .seq ac_law17_ModelCounts_15 ac_law17_ModelCounts_92
def ac_law17_ModelCounts_94 : AC := .seq ac_law17_ModelCounts_14 ac_law17_ModelCounts_93
def ac_law17_ModelCounts_95 : AC := .seq ac_law17_ModelCounts_13 ac_law17_ModelCounts_94
def ac_law17_ModelCounts_96 : AC := .block 1 ac_law17_ModelCounts_95
def l_law17_ModelCounts_97 : List AOp := [⟨(some 37), .mv (.t 6), none, none, [], none⟩,
  ⟨(some 38), .bin .add (.t 37) (.k (.int .i64 1)), none, none, [], none⟩,
  ⟨(some 6), .mv (.t 38), none, none, [], none⟩]
def ac_law17_ModelCounts_97 : AC := .reg l_law17_ModelCounts_97
def ac_law17_ModelCounts_98 : AC := .seq ac_law17_ModelCounts_96 ac_law17_ModelCounts_97
def ac_law17_ModelCounts_99 : AC := .seq ac_law17_ModelCounts_12 ac_law17_ModelCounts_98
def ac_law17_ModelCounts_100 : AC := .loop [0, 3, 4, 5, 6] 1000000000 ac_law17_ModelCounts_99
def ac_law17_ModelCounts_101 : AC := .block 0 ac_law17_ModelCounts_100
def ac_law17_ModelCounts_102 : AC := .seq ac_law17_ModelCounts_9 ac_law17_ModelCounts_101
def l_law17_ModelCounts_103 : List AOp := [⟨(some 2), .mv (.k (.bool true)), none, none, [], none⟩]
def ac_law17_ModelCounts_103 : AC := .reg l_law17_ModelCounts_103
def ac_law17_ModelCounts_104 : AC := .seq ac_law17_ModelCounts_103 .ret
def ac_law17_ModelCounts_105 : AC := .seq ac_law17_ModelCounts_102 ac_law17_ModelCounts_104
def ac_law17_ModelCounts_106 : AC := .seq ac_law17_ModelCounts_8 ac_law17_ModelCounts_105
def ac_law17_ModelCounts_107 : AC := .seq ac_law17_ModelCounts_7 ac_law17_ModelCounts_106
def ac_law17_ModelCounts_108 : AC := .seq ac_law17_ModelCounts_6 ac_law17_ModelCounts_107
def ac_law17_ModelCounts_109 : AC := .seq ac_law17_ModelCounts_1 ac_law17_ModelCounts_108
def ac_law17_ModelCounts_110 : AC := .seq ac_law17_ModelCounts_0 ac_law17_ModelCounts_109
def ac_law17_ModelCounts : AC := ac_law17_ModelCounts_110
theorem comp_law17_ModelCounts : compF Try.prog [1000010, 1000012] (drawR Try.prog [1000010, 1000012] Try.f3.ntmps) [([0, 3, 4, 5, 6], 1000000000), ([0, 3, 4, 5, 6, 7, 8, 9, 10], 1000000000), ([0, 3, 4, 5, 6, 7, 8, 12, 13], 1000000000)] 1 Try.f3 = some (ac_law17_ModelCounts, [.t 2]) := by kernel_rfl
def U_law17_ModelCounts := (And.intro (And.intro (And.intro (And.intro (And.intro (And.intro (And.intro (And.intro @ac_law17_ModelCounts.eq_1 (@mR _ _ ac_law17_ModelCounts_0.eq_1)) (@mR _ _ ac_law17_ModelCounts_1.eq_1)) (And.intro (@mR _ _ ac_law17_ModelCounts_2.eq_1) (@mR _ _ ac_law17_ModelCounts_3.eq_1))) (And.intro (And.intro (And.intro (@mU _ _ ac_law17_ModelCounts_4.eq_1) (@mU _ _ ac_law17_ModelCounts_5.eq_1)) (@mU _ _ ac_law17_ModelCounts_6.eq_1)) (And.intro (@mR _ _ ac_law17_ModelCounts_7.eq_1) (@mR _ _ ac_law17_ModelCounts_8.eq_1)))) (And.intro (And.intro (And.intro (And.intro (@mR _ _ ac_law17_ModelCounts_9.eq_1) (@mR _ _ ac_law17_ModelCounts_10.eq_1)) (@mU _ _ ac_law17_ModelCounts_11.eq_1)) (And.intro (@mU _ _ ac_law17_ModelCounts_12.eq_1) (@mR _ _ ac_law17_ModelCounts_13.eq_1))) (And.intro (And.intro (@mR _ _ ac_law17_ModelCounts_14.eq_1) (@mR _ _ ac_law17_ModelCounts_15.eq_1)) (And.intro (@mR _ _ ac_law17_ModelCounts_16.eq_1) (@mR _ _ ac_law17_ModelCounts_17.eq_1))))) (And.intro (And.intro (And.intro (And.intro (And.intro (@mU _ _ ac_law17_ModelCounts_18.eq_1) (@mU _ _ ac_law17_ModelCounts_19.eq_1)) (@mR _ _ ac_law17_ModelCounts_20.eq_1)) (And.intro (@mU _ _ ac_law17_ModelCounts_21.eq_1) (@mU _ _ ac_law17_ModelCounts_22.eq_1))) (And.intro (And.intro (And.intro (@mR _ _ ac_law17_ModelCounts_23.eq_1) (@mR _ _ ac_law17_ModelCounts_24.eq_1)) (@mR _ _ ac_law17_ModelCounts_25.eq_1)) (And.intro (@mU _ _ ac_law17_ModelCounts_26.eq_1) (@mU _ _ ac_law17_ModelCounts_27.eq_1)))) (And.intro (And.intro (And.intro (And.intro (@mR _ _ ac_law17_ModelCounts_28.eq_1) (@mR _ _ ac_law17_ModelCounts_29.eq_1)) (@mU _ _ ac_law17_ModelCounts_30.eq_1)) (And.intro (@mU _ _ ac_law17_ModelCounts_31.eq_1) (@mU _ _ ac_law17_ModelCounts_32.eq_1))) (And.intro (And.intro (@mR _ _ ac_law17_ModelCounts_33.eq_1) (@mU _ _ ac_law17_ModelCounts_34.eq_1)) (And.intro (@mU _ _ ac_law17_ModelCounts_35.eq_1) (@mU _ _ ac_law17_ModelCounts_36.eq_1)))))) (And.intro (And.intro (And.intro (And.intro (And.intro (And.intro (@mU _ _ ac_law17_ModelCounts_37.eq_1) (@mU _ _ ac_law17_ModelCounts_38.eq_1)) (@mR _ _ ac_law17_ModelCounts_39.eq_1)) (And.intro (@mR _ _ ac_law17_ModelCounts_40.eq_1) (@mR _ _ ac_law17_ModelCounts_41.eq_1))) (And.intro (And.intro (And.intro (@mR _ _ ac_law17_ModelCounts_42.eq_1) (@mR _ _ ac_law17_ModelCounts_43.eq_1)) (@mU _ _ ac_law17_ModelCounts_44.eq_1)) (And.intro (@mU _ _ ac_law17_ModelCounts_45.eq_1) (@mU _ _ ac_law17_ModelCounts_46.eq_1)))) (And.intro (And.intro (And.intro (And.intro (@mU _ _ ac_law17_ModelCounts_47.eq_1) (@mU _ _ ac_law17_ModelCounts_48.eq_1)) (@mU _ _ ac_law17_ModelCounts_49.eq_1)) (And.intro (@mR _ _ ac_law17_ModelCounts_50.eq_1) (@mR _ _ ac_law17_ModelCounts_51.eq_1))) (And.intro (And.intro (@mU _ _ ac_law17_ModelCounts_52.eq_1) (@mU _ _ ac_law17_ModelCounts_53.eq_1)) (And.intro (@mU _ _ ac_law17_ModelCounts_54.eq_1) (@mR _ _ ac_law17_ModelCounts_55.eq_1))))) (And.intro (And.intro (And.intro (And.intro (And.intro (@mR _ _ ac_law17_ModelCounts_56.eq_1) (@mU _ _ ac_law17_ModelCounts_57.eq_1)) (@mU _ _ ac_law17_ModelCounts_58.eq_1)) (And.intro (@mR _ _ ac_law17_ModelCounts_59.eq_1) (@mR _ _ ac_law17_ModelCounts_60.eq_1))) (And.intro (And.intro (And.intro (@mU _ _ ac_law17_ModelCounts_61.eq_1) (@mU _ _ ac_law17_ModelCounts_62.eq_1)) (@mR _ _ ac_law17_ModelCounts_63.eq_1)) (And.intro (@mR _ _ ac_law17_ModelCounts_64.eq_1) (@mR _ _ ac_law17_ModelCounts_65.eq_1)))) (And.intro (And.intro (And.intro (And.intro (@mU _ _ ac_law17_ModelCounts_66.eq_1) (@mU _ _ ac_law17_ModelCounts_67.eq_1)) (@mU _ _ ac_law17_ModelCounts_68.eq_1)) (And.intro (@mU _ _ ac_law17_ModelCounts_69.eq_1) (@mU _ _ ac_law17_ModelCounts_70.eq_1))) (And.intro (And.intro (@mR _ _ ac_law17_ModelCounts_71.eq_1) (@mU _ _ ac_law17_ModelCounts_72.eq_1)) (And.intro (@mU _ _ ac_law17_ModelCounts_73.eq_1) (@mU _ _ ac_law17_ModelCounts_74.eq_1))))))) (And.intro (And.intro (And.intro (And.intro (And.intro (And.intro (And.intro (@mU _ _ ac_law17_ModelCounts_75.eq_1) (@mU _ _ ac_law17_ModelCounts_76.eq_1)) (@mR _ _ ac_law17_ModelCounts_77.eq_1)) (And.intro (@mR _ _ ac_law17_ModelCounts_78.eq_1) (@mR _ _ ac_law17_ModelCounts_79.eq_1))) (And.intro (And.intro (And.intro (@mU _ _ ac_law17_ModelCounts_80.eq_1) (@mU _ _ ac_law17_ModelCounts_81.eq_1)) (@mU _ _ ac_law17_ModelCounts_82.eq_1)) (And.intro (@mU _ _ ac_law17_ModelCounts_83.eq_1) (@mU _ _ ac_law17_ModelCounts_84.eq_1)))) (And.intro (And.intro (And.intro (And.intro (@mU _ _ ac_law17_ModelCounts_85.eq_1) (@mU _ _ ac_law17_ModelCounts_86.eq_1)) (@mU _ _ ac_law17_ModelCounts_87.eq_1)) (And.intro (@mU _ _ ac_law17_ModelCounts_88.eq_1) (@mU _ _ ac_law17_ModelCounts_89.eq_1))) (And.intro (And.intro (@mU _ _ ac_law17_ModelCounts_90.eq_1) (@mU _ _ ac_law17_ModelCounts_91.eq_1)) (And.intro (@mU _ _ ac_law17_ModelCounts_92.eq_1) (@mU _ _ ac_law17_ModelCounts_93.eq_1))))) (And.intro (And.intro (And.intro (And.intro (And.intro (@mU _ _ ac_law17_ModelCounts_94.eq_1) (@mU _ _ ac_law17_ModelCounts_95.eq_1)) (@mU _ _ ac_law17_ModelCounts_96.eq_1)) (And.intro (@mR _ _ ac_law17_ModelCounts_97.eq_1) (@mU _ _ ac_law17_ModelCounts_98.eq_1))) (And.intro (And.intro (And.intro (@mU _ _ ac_law17_ModelCounts_99.eq_1) (@mU _ _ ac_law17_ModelCounts_100.eq_1)) (@mU _ _ ac_law17_ModelCounts_101.eq_1)) (And.intro (@mU _ _ ac_law17_ModelCounts_102.eq_1) (@mR _ _ ac_law17_ModelCounts_103.eq_1)))) (And.intro (And.intro (And.intro (And.intro (@mU _ _ ac_law17_ModelCounts_104.eq_1) (@mU _ _ ac_law17_ModelCounts_105.eq_1)) (@mU _ _ ac_law17_ModelCounts_106.eq_1)) (And.intro (@mU _ _ ac_law17_ModelCounts_107.eq_1) (@mU _ _ ac_law17_ModelCounts_108.eq_1))) (And.intro (And.intro (@mU _ _ ac_law17_ModelCounts_109.eq_1) (@mU _ _ ac_law17_ModelCounts_110.eq_1)) (And.intro @l_law17_ModelCounts_0.eq_1 @l_law17_ModelCounts_1.eq_1))))) (And.intro (And.intro (And.intro (And.intro (And.intro (And.intro @l_law17_ModelCounts_2.eq_1 @l_law17_ModelCounts_3.eq_1) @l_law17_ModelCounts_7.eq_1) (And.intro @l_law17_ModelCounts_8.eq_1 @l_law17_ModelCounts_9.eq_1)) (And.intro (And.intro (And.intro @l_law17_ModelCounts_10.eq_1 @l_law17_ModelCounts_13.eq_1) @l_law17_ModelCounts_14.eq_1) (And.intro @l_law17_ModelCounts_15.eq_1 @l_law17_ModelCounts_16.eq_1))) (And.intro (And.intro (And.intro (And.intro @l_law17_ModelCounts_17.eq_1 @l_law17_ModelCounts_20.eq_1) @l_law17_ModelCounts_23.eq_1) (And.intro @l_law17_ModelCounts_24.eq_1 @l_law17_ModelCounts_25.eq_1)) (And.intro (And.intro @l_law17_ModelCounts_28.eq_1 @l_law17_ModelCounts_29.eq_1) (And.intro @l_law17_ModelCounts_33.eq_1 @l_law17_ModelCounts_39.eq_1)))) (And.intro (And.intro (And.intro (And.intro (And.intro @l_law17_ModelCounts_40.eq_1 @l_law17_ModelCounts_41.eq_1) @l_law17_ModelCounts_42.eq_1) (And.intro @l_law17_ModelCounts_43.eq_1 @l_law17_ModelCounts_50.eq_1)) (And.intro (And.intro (And.intro @l_law17_ModelCounts_51.eq_1 @l_law17_ModelCounts_55.eq_1) @l_law17_ModelCounts_56.eq_1) (And.intro @l_law17_ModelCounts_59.eq_1 @l_law17_ModelCounts_60.eq_1))) (And.intro (And.intro (And.intro (And.intro @l_law17_ModelCounts_63.eq_1 @l_law17_ModelCounts_64.eq_1) @l_law17_ModelCounts_65.eq_1) (And.intro @l_law17_ModelCounts_71.eq_1 @l_law17_ModelCounts_77.eq_1)) (And.intro (And.intro @l_law17_ModelCounts_78.eq_1 @l_law17_ModelCounts_79.eq_1) (And.intro @l_law17_ModelCounts_97.eq_1 @l_law17_ModelCounts_103.eq_1)))))))

end Go.Proofs.Ythjnfjgejdlbfaa.Aw
