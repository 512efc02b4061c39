/-
  The functions of the seat, translated to abstract code. Written by a program (wip/Gen2.lean).
-/
import Derived.Test.YthjnfjgejdlbfaaCodeB
import Derived.Test.YthjnfjgejdlbfaaProg
set_option maxRecDepth 100000
set_option linter.all false
namespace Go.Proofs.Ythjnfjgejdlbfaa.Aw
open Go.RowKit
/- scoria/scorialaw17.ModelApart -/
def l_law17_ModelApart_0 : List AOp := [⟨(some 5), .box (.t 2), none, none, [], none⟩,
  ⟨(some 6), .mv (.k (.bool false)), none, none, [], none⟩]
def ac_law17_ModelApart_0 : AC := .reg l_law17_ModelApart_0
def l_law17_ModelApart_1 : List AOp := [⟨(some 18), .mv (.t 0), none, none, [], none⟩,
  ⟨(some 19), .bin .gtr (.t 18) (.k (.int .i64 200)), none, none, [], none⟩,
  ⟨(some 20), .mv (.t 19), none, none, [], none⟩,
  ⟨(some 21), .load (some 5) (.t 5), (some (20, false)), none, [], none⟩,
  ⟨(some 22), .call false 13 [(.t 21)], (some (20, false)), none, [], none⟩,
  ⟨(some 23), .un .not (.t 22), (some (20, false)), none, [], none⟩,
  ⟨(some 24), .pick (.t 20) (.k (.bool true)) (.t 23), none, none, [], none⟩]
def ac_law17_ModelApart_1 : AC := .reg l_law17_ModelApart_1
def l_law17_ModelApart_2 : List AOp := [⟨(some 25), .call false 11 [], none, none, [], none⟩,
  ⟨(some 6), .mv (.t 25), none, none, [], none⟩]
def ac_law17_ModelApart_2 : AC := .reg l_law17_ModelApart_2
def ac_law17_ModelApart_3 : AC := .seq ac_law17_ModelApart_2 .ret
def ac_law17_ModelApart_4 : AC := .cond (.t 24) ac_law17_ModelApart_3 .skip
def ac_law17_ModelApart_5 : AC := .seq ac_law17_ModelApart_1 ac_law17_ModelApart_4
def l_law17_ModelApart_6 : List AOp := [⟨(some 26), .mv (.t 0), none, none, [], none⟩,
  ⟨(some 27), .icall 10 [(.t 26)], none, none, [], none⟩,
  ⟨(some 7), .mv (.t 27), none, none, [], none⟩]
def ac_law17_ModelApart_6 : AC := .reg l_law17_ModelApart_6
def l_law17_ModelApart_7 : List AOp := [⟨(some 28), .call false 11 [], none, none, [], none⟩,
  ⟨(some 29), .un .not (.t 28), none, none, [], none⟩,
  ⟨(some 30), .mv (.t 29), none, none, [], none⟩,
  ⟨(some 31), .mv (.t 7), (some (30, false)), none, [], none⟩,
  ⟨(some 32), .isn .p false (.t 31), (some (30, false)), none, [], none⟩,
  ⟨(some 33), .pick (.t 30) (.k (.bool true)) (.t 32), none, none, [], none⟩]
def ac_law17_ModelApart_7 : AC := .reg l_law17_ModelApart_7
def l_law17_ModelApart_8 : List AOp := [⟨(some 6), .mv (.k (.bool false)), none, none, [], none⟩]
def ac_law17_ModelApart_8 : AC := .reg l_law17_ModelApart_8
def ac_law17_ModelApart_9 : AC := .seq ac_law17_ModelApart_8 .ret
def ac_law17_ModelApart_10 : AC := .cond (.t 33) ac_law17_ModelApart_9 .skip
def ac_law17_ModelApart_11 : AC := .seq ac_law17_ModelApart_7 ac_law17_ModelApart_10
def l_law17_ModelApart_12 : List AOp := [⟨(some 8), .mv (.k (.int .i64 0)), none, none, [], none⟩]
def ac_law17_ModelApart_12 : AC := .reg l_law17_ModelApart_12
def l_law17_ModelApart_13 : List AOp := [⟨(some 34), .mv (.t 8), none, none, [], none⟩,
  ⟨(some 35), .mv (.t 1), none, none, [], none⟩,
  ⟨(some 36), .len (.t 35), none, none, [], none⟩,
  ⟨(some 37), .bin .lss (.t 34) (.t 36), none, none, [], none⟩,
  ⟨(some 38), .mv (.t 37), none, none, [], none⟩,
  ⟨(some 39), .mv (.t 8), (some (38, true)), none, [], none⟩,
  ⟨(some 40), .bin .lss (.t 39) (.k (.int .i64 40)), (some (38, true)), none, [], none⟩,
  ⟨(some 41), .pick (.t 38) (.t 40) (.k (.bool false)), none, none, [], none⟩]
def ac_law17_ModelApart_13 : AC := .reg l_law17_ModelApart_13
def ac_law17_ModelApart_14 : AC := .cond (.t 41) .skip (.exit 0)
def ac_law17_ModelApart_15 : AC := .seq ac_law17_ModelApart_13 ac_law17_ModelApart_14
def l_law17_ModelApart_16 : List AOp := [⟨(some 44), .mv (.t 1), none, none, [], none⟩,
  ⟨(some 45), .mv (.t 8), none, none, [], none⟩,
  ⟨(some 46), .isl 5 (.t 44) (.t 45), none, none, [], none⟩,
  ⟨(some 47), .load (some 5) (.t 46), none, none, [], none⟩,
  ⟨(some 48), .call false 13 [(.t 47)], none, none, [], none⟩]
def ac_law17_ModelApart_16 : AC := .reg l_law17_ModelApart_16
def l_law17_ModelApart_17 : List AOp := [⟨(some 49), .mv (.t 7), none, none, [], none⟩,
  ⟨(some 50), .mv (.t 1), none, none, [], none⟩,
  ⟨(some 51), .mv (.t 8), none, none, [], none⟩,
  ⟨(some 52), .isl 5 (.t 50) (.t 51), none, none, [], none⟩,
  ⟨(some 53), .load (some 5) (.t 52), none, none, [], none⟩,
  ⟨(some 54), .icall 12 [(.t 49), (.t 53)], none, none, [], none⟩]
def ac_law17_ModelApart_17 : AC := .reg l_law17_ModelApart_17
def ac_law17_ModelApart_18 : AC := .cond (.t 48) ac_law17_ModelApart_17 .skip
def ac_law17_ModelApart_19 : AC := .seq ac_law17_ModelApart_16 ac_law17_ModelApart_18
def ac_law17_ModelApart_20 : AC := .block 1 ac_law17_ModelApart_19
def l_law17_ModelApart_21 : List AOp := [⟨(some 42), .mv (.t 8), none, none, [], none⟩,
  ⟨(some 43), .bin .add (.t 42) (.k (.int .i64 1)), none, none, [], none⟩,
  ⟨(some 8), .mv (.t 43), none, none, [], none⟩]
def ac_law17_ModelApart_21 : AC := .reg l_law17_ModelApart_21
def ac_law17_ModelApart_22 : AC := .seq ac_law17_ModelApart_20 ac_law17_ModelApart_21
def ac_law17_ModelApart_23 : AC := .seq ac_law17_ModelApart_15 ac_law17_ModelApart_22
def ac_law17_ModelApart_24 : AC := .loop [1, 5, 7, 8] 1000000000 ac_law17_ModelApart_23
def ac_law17_ModelApart_25 : AC := .block 0 ac_law17_ModelApart_24
def ac_law17_ModelApart_26 : AC := .seq ac_law17_ModelApart_12 ac_law17_ModelApart_25
def l_law17_ModelApart_27 : List AOp := [⟨(some 55), .mv (.t 7), none, none, [], none⟩,
  ⟨(some 56), .icall 19 [(.t 55)], none, none, [], none⟩,
  ⟨(some 9), .mv (.t 56), none, none, [], none⟩]
def ac_law17_ModelApart_27 : AC := .reg l_law17_ModelApart_27
def l_law17_ModelApart_28 : List AOp := [⟨(some 57), .mv (.t 7), none, none, [], none⟩,
  ⟨(some 58), .load (some 5) (.t 5), none, none, [], none⟩,
  ⟨(some 59), .icall 12 [(.t 57), (.t 58)], none, none, [], none⟩]
def ac_law17_ModelApart_28 : AC := .reg l_law17_ModelApart_28
def l_law17_ModelApart_29 : List AOp := [⟨(some 60), .mv (.t 9), none, none, [], none⟩,
  ⟨(some 61), .icall 20 [(.t 60)], none, none, [], none⟩,
  ⟨(some 10), .mv (.t 61), none, none, [], none⟩]
def ac_law17_ModelApart_29 : AC := .reg l_law17_ModelApart_29
def l_law17_ModelApart_30 : List AOp := [⟨(some 11), .mv (.k (.int .i64 0)), none, none, [], none⟩]
def ac_law17_ModelApart_30 : AC := .reg l_law17_ModelApart_30
def l_law17_ModelApart_31 : List AOp := [⟨(some 62), .mv (.t 11), none, none, [], none⟩,
  ⟨(some 63), .mv (.t 10), none, none, [], none⟩,
  ⟨(some 64), .len (.t 63), none, none, [], none⟩,
  ⟨(some 65), .bin .lss (.t 62) (.t 64), none, none, [], none⟩]
def ac_law17_ModelApart_31 : AC := .reg l_law17_ModelApart_31
def ac_law17_ModelApart_32 : AC := .cond (.t 65) .skip (.exit 2)
def ac_law17_ModelApart_33 : AC := .seq ac_law17_ModelApart_31 ac_law17_ModelApart_32
def l_law17_ModelApart_34 : List AOp := [⟨(some 68), .mv (.t 10), none, none, [], none⟩,
  ⟨(some 69), .mv (.t 11), none, none, [], none⟩,
  ⟨(some 70), .isl 1 (.t 68) (.t 69), none, none, [], none⟩,
  ⟨(some 71), .load none (.t 70), none, none, [], none⟩,
  ⟨(some 72), .faddr 1 (.t 5), none, none, [], none⟩,
  ⟨(some 73), .load none (.t 72), none, none, [], none⟩,
  ⟨(some 74), .bin .eql (.t 71) (.t 73), none, none, [], none⟩]
def ac_law17_ModelApart_34 : AC := .dreg 0 l_law17_ModelApart_34
def ac_law17_ModelApart_35 : AC := .cond (.t 74) (.exit 3) .skip
def ac_law17_ModelApart_36 : AC := .seq ac_law17_ModelApart_34 ac_law17_ModelApart_35
def l_law17_ModelApart_37t0 : List AOp := [⟨(some 76), .mv (.t 10), none, none, [], none⟩,
  ⟨(some 77), .mv (.t 11), none, none, [], none⟩,
  ⟨(some 78), .isl 1 (.t 76) (.t 77), none, none, [], none⟩,
  ⟨(some 79), .load none (.t 78), none, none, [], none⟩]
def l_law17_ModelApart_37t1 : List AOp := [⟨(some 75), .mv (.t 9), none, none, [], none⟩,
  ⟨(some 80), .icall 21 [(.t 75), (.t 79)], none, none, [], none⟩,
  ⟨(some 82), .mv (.t 10), none, none, [], none⟩,
  ⟨(some 83), .mv (.t 11), none, none, [], none⟩,
  ⟨(some 84), .isl 1 (.t 82) (.t 83), none, none, [], none⟩,
  ⟨(some 85), .load none (.t 84), none, none, [], none⟩,
  ⟨(some 81), .mv (.t 7), none, none, [], none⟩,
  ⟨(some 86), .icall 21 [(.t 81), (.t 85)], none, none, [], none⟩,
  ⟨(some 12), .mv (.t 80), none, none, [], none⟩,
  ⟨(some 13), .mv (.t 86), none, none, [], none⟩]
def l_law17_ModelApart_37t2 : List AOp := [⟨(some 82), .mv (.t 10), none, none, [], none⟩,
  ⟨(some 83), .mv (.t 11), none, none, [], none⟩,
  ⟨(some 84), .isl 1 (.t 82) (.t 83), none, none, [], none⟩]
def l_law17_ModelApart_37t3 : List AOp := [⟨(some 75), .mv (.t 9), none, none, [], none⟩,
  ⟨(some 80), .icall 21 [(.t 75), (.t 79)], none, none, [], none⟩,
  ⟨(some 85), .load none (.t 84), none, none, [], none⟩,
  ⟨(some 81), .mv (.t 7), none, none, [], none⟩,
  ⟨(some 86), .icall 21 [(.t 81), (.t 85)], none, none, [], none⟩,
  ⟨(some 12), .mv (.t 80), none, none, [], none⟩,
  ⟨(some 13), .mv (.t 86), none, none, [], none⟩]
def l_law17_ModelApart_37t4 : List AOp := [⟨(some 85), .load none (.t 84), none, none, [], none⟩,
  ⟨(some 75), .mv (.t 9), none, none, [], none⟩,
  ⟨(some 80), .icall 21 [(.t 75), (.t 79)], none, none, [], none⟩,
  ⟨(some 81), .mv (.t 7), none, none, [], none⟩,
  ⟨(some 86), .icall 21 [(.t 81), (.t 85)], none, none, [], none⟩,
  ⟨(some 12), .mv (.t 80), none, none, [], none⟩,
  ⟨(some 13), .mv (.t 86), none, none, [], none⟩]
def ac_law17_ModelApart_37 : AC := .dregs 0 (.node l_law17_ModelApart_37t0 (.leaf l_law17_ModelApart_37t1) (.node l_law17_ModelApart_37t2 (.leaf l_law17_ModelApart_37t3) (.leaf l_law17_ModelApart_37t4)))
def l_law17_ModelApart_38t0 : List AOp := [⟨(some 88), .mv (.t 10), none, none, [], none⟩,
  ⟨(some 89), .mv (.t 11), none, none, [], none⟩,
  ⟨(some 90), .isl 1 (.t 88) (.t 89), none, none, [0, 1], none⟩,
  ⟨(some 91), .load none (.t 90), none, none, [0, 1], none⟩,
  ⟨(some 95), .mv (.t 10), none, none, [], none⟩,
  ⟨(some 96), .mv (.t 11), none, none, [], none⟩,
  ⟨(some 97), .isl 1 (.t 95) (.t 96), none, none, [0, 1], none⟩,
  ⟨(some 98), .load none (.t 97), none, none, [0, 1], none⟩]
def l_law17_ModelApart_38t1 : List AOp := []
def l_law17_ModelApart_38t2 : List AOp := [⟨(some 87), .mv (.t 9), none, none, [], none⟩,
  ⟨(some 92), .build [(.int .i64 0), (.int .i64 0), (.int .i64 0), (.int .i64 0), (.str [])] [(0, 1, (.k (.int .i64 9))), (1, 1, (.t 91))], none, none, [], none⟩,
  ⟨(some 93), .rcall 12 [(.t 87), (.t 92)], none, none, [0, 1], none⟩]
def l_law17_ModelApart_38t3 : List AOp := []
def l_law17_ModelApart_38t4 : List AOp := [⟨(some 94), .mv (.t 7), none, none, [], none⟩,
  ⟨(some 99), .build [(.int .i64 0), (.int .i64 0), (.int .i64 0), (.int .i64 0), (.str [])] [(0, 1, (.k (.int .i64 9))), (1, 1, (.t 98))], none, none, [], none⟩,
  ⟨(some 100), .rcall 12 [(.t 94), (.t 99)], none, none, [0, 1], none⟩,
  ⟨(some 14), .alloc [(.int .i64 0), (.str []), (.int .i64 0), (.int .i64 0), (.slc [])], none, (some 0), [1], none⟩,
  ⟨(some 15), .alloc [(.int .i64 0), (.str []), (.int .i64 0), (.int .i64 0), (.slc [])], none, (some 1), [0], none⟩,
  ⟨none, .store 5 (.t 14) (.t 93), none, none, [], none⟩,
  ⟨none, .store 5 (.t 15) (.t 100), none, none, [], none⟩]
def l_law17_ModelApart_38t5 : List AOp := [⟨(some 14), .alloc [(.int .i64 0), (.str []), (.int .i64 0), (.int .i64 0), (.slc [])], none, (some 0), [1], none⟩]
def l_law17_ModelApart_38t6 : List AOp := [⟨(some 94), .mv (.t 7), none, none, [], none⟩,
  ⟨(some 99), .build [(.int .i64 0), (.int .i64 0), (.int .i64 0), (.int .i64 0), (.str [])] [(0, 1, (.k (.int .i64 9))), (1, 1, (.t 98))], none, none, [], none⟩,
  ⟨(some 100), .rcall 12 [(.t 94), (.t 99)], none, none, [0, 1], none⟩,
  ⟨(some 15), .alloc [(.int .i64 0), (.str []), (.int .i64 0), (.int .i64 0), (.slc [])], none, (some 1), [0], none⟩,
  ⟨none, .store 5 (.t 14) (.t 93), none, none, [], none⟩,
  ⟨none, .store 5 (.t 15) (.t 100), none, none, [], none⟩]
def l_law17_ModelApart_38t7 : List AOp := [⟨(some 15), .alloc [(.int .i64 0), (.str []), (.int .i64 0), (.int .i64 0), (.slc [])], none, (some 1), [0], none⟩,
  ⟨(some 94), .mv (.t 7), none, none, [], none⟩,
  ⟨(some 99), .build [(.int .i64 0), (.int .i64 0), (.int .i64 0), (.int .i64 0), (.str [])] [(0, 1, (.k (.int .i64 9))), (1, 1, (.t 98))], none, none, [], none⟩,
  ⟨(some 100), .rcall 12 [(.t 94), (.t 99)], none, none, [0, 1], none⟩,
  ⟨none, .store 5 (.t 14) (.t 93), none, none, [], none⟩,
  ⟨none, .store 5 (.t 15) (.t 100), none, none, [], none⟩]
def l_law17_ModelApart_38t8 : List AOp := [⟨(some 15), .alloc [(.int .i64 0), (.str []), (.int .i64 0), (.int .i64 0), (.slc [])], none, (some 1), [0], none⟩,
  ⟨(some 94), .mv (.t 7), none, none, [], none⟩,
  ⟨(some 99), .build [(.int .i64 0), (.int .i64 0), (.int .i64 0), (.int .i64 0), (.str [])] [(0, 1, (.k (.int .i64 9))), (1, 1, (.t 98))], none, none, [], none⟩,
  ⟨(some 100), .rcall 12 [(.t 94), (.t 99)], none, none, [0, 1], none⟩,
  ⟨(some 14), .alloc [(.int .i64 0), (.str []), (.int .i64 0), (.int .i64 0), (.slc [])], none, (some 0), [1], none⟩,
  ⟨none, .store 5 (.t 14) (.t 93), none, none, [], none⟩,
  ⟨none, .store 5 (.t 15) (.t 100), none, none, [], none⟩]
def l_law17_ModelApart_38t9 : List AOp := [⟨(some 14), .alloc [(.int .i64 0), (.str []), (.int .i64 0), (.int .i64 0), (.slc [])], none, (some 0), [1], none⟩]
def l_law17_ModelApart_38t10 : List AOp := [⟨(some 87), .mv (.t 9), none, none, [], none⟩,
  ⟨(some 92), .build [(.int .i64 0), (.int .i64 0), (.int .i64 0), (.int .i64 0), (.str [])] [(0, 1, (.k (.int .i64 9))), (1, 1, (.t 91))], none, none, [], none⟩,
  ⟨(some 93), .rcall 12 [(.t 87), (.t 92)], none, none, [0, 1], none⟩]
def l_law17_ModelApart_38t11 : List AOp := [⟨(some 94), .mv (.t 7), none, none, [], none⟩,
  ⟨(some 99), .build [(.int .i64 0), (.int .i64 0), (.int .i64 0), (.int .i64 0), (.str [])] [(0, 1, (.k (.int .i64 9))), (1, 1, (.t 98))], none, none, [], none⟩,
  ⟨(some 100), .rcall 12 [(.t 94), (.t 99)], none, none, [0, 1], none⟩,
  ⟨(some 15), .alloc [(.int .i64 0), (.str []), (.int .i64 0), (.int .i64 0), (.slc [])], none, (some 1), [0], none⟩,
  ⟨none, .store 5 (.t 14) (.t 93), none, none, [], none⟩,
  ⟨none, .store 5 (.t 15) (.t 100), none, none, [], none⟩]
def l_law17_ModelApart_38t12 : List AOp := [⟨(some 15), .alloc [(.int .i64 0), (.str []), (.int .i64 0), (.int .i64 0), (.slc [])], none, (some 1), [0], none⟩,
  ⟨(some 94), .mv (.t 7), none, none, [], none⟩,
  ⟨(some 99), .build [(.int .i64 0), (.int .i64 0), (.int .i64 0), (.int .i64 0), (.str [])] [(0, 1, (.k (.int .i64 9))), (1, 1, (.t 98))], none, none, [], none⟩,
  ⟨(some 100), .rcall 12 [(.t 94), (.t 99)], none, none, [0, 1], none⟩,
  ⟨none, .store 5 (.t 14) (.t 93), none, none, [], none⟩,
  ⟨none, .store 5 (.t 15) (.t 100), none, none, [], none⟩]
def l_law17_ModelApart_38t13 : List AOp := [⟨(some 15), .alloc [(.int .i64 0), (.str []), (.int .i64 0), (.int .i64 0), (.slc [])], none, (some 1), [0], none⟩,
  ⟨(some 87), .mv (.t 9), none, none, [], none⟩,
  ⟨(some 92), .build [(.int .i64 0), (.int .i64 0), (.int .i64 0), (.int .i64 0), (.str [])] [(0, 1, (.k (.int .i64 9))), (1, 1, (.t 91))], none, none, [], none⟩,
  ⟨(some 93), .rcall 12 [(.t 87), (.t 92)], none, none, [0, 1], none⟩,
  ⟨(some 94), .mv (.t 7), none, none, [], none⟩,
  ⟨(some 99), .build [(.int .i64 0), (.int .i64 0), (.int .i64 0), (.int .i64 0), (.str [])] [(0, 1, (.k (.int .i64 9))), (1, 1, (.t 98))], none, none, [], none⟩,
  ⟨(some 100), .rcall 12 [(.t 94), (.t 99)], none, none, [0, 1], none⟩,
  ⟨none, .store 5 (.t 14) (.t 93), none, none, [], none⟩,
  ⟨none, .store 5 (.t 15) (.t 100), none, none, [], none⟩]
def l_law17_ModelApart_38t14 : List AOp := [⟨(some 15), .alloc [(.int .i64 0), (.str []), (.int .i64 0), (.int .i64 0), (.slc [])], none, (some 1), [0], none⟩,
  ⟨(some 87), .mv (.t 9), none, none, [], none⟩,
  ⟨(some 92), .build [(.int .i64 0), (.int .i64 0), (.int .i64 0), (.int .i64 0), (.str [])] [(0, 1, (.k (.int .i64 9))), (1, 1, (.t 91))], none, none, [], none⟩,
  ⟨(some 93), .rcall 12 [(.t 87), (.t 92)], none, none, [0, 1], none⟩]
def l_law17_ModelApart_38t15 : List AOp := [⟨(some 94), .mv (.t 7), none, none, [], none⟩,
  ⟨(some 99), .build [(.int .i64 0), (.int .i64 0), (.int .i64 0), (.int .i64 0), (.str [])] [(0, 1, (.k (.int .i64 9))), (1, 1, (.t 98))], none, none, [], none⟩,
  ⟨(some 100), .rcall 12 [(.t 94), (.t 99)], none, none, [0, 1], none⟩,
  ⟨(some 14), .alloc [(.int .i64 0), (.str []), (.int .i64 0), (.int .i64 0), (.slc [])], none, (some 0), [1], none⟩,
  ⟨none, .store 5 (.t 14) (.t 93), none, none, [], none⟩,
  ⟨none, .store 5 (.t 15) (.t 100), none, none, [], none⟩]
def l_law17_ModelApart_38t16 : List AOp := [⟨(some 14), .alloc [(.int .i64 0), (.str []), (.int .i64 0), (.int .i64 0), (.slc [])], none, (some 0), [1], none⟩,
  ⟨(some 94), .mv (.t 7), none, none, [], none⟩,
  ⟨(some 99), .build [(.int .i64 0), (.int .i64 0), (.int .i64 0), (.int .i64 0), (.str [])] [(0, 1, (.k (.int .i64 9))), (1, 1, (.t 98))], none, none, [], none⟩,
  ⟨(some 100), .rcall 12 [(.t 94), (.t 99)], none, none, [0, 1], none⟩,
  ⟨none, .store 5 (.t 14) (.t 93), none, none, [], none⟩,
  ⟨none, .store 5 (.t 15) (.t 100), none, none, [], none⟩]
def ac_law17_ModelApart_38 : AC := .dregs 2 (.node l_law17_ModelApart_38t0 (.node l_law17_ModelApart_38t1 (.node l_law17_ModelApart_38t2 (.node l_law17_ModelApart_38t3 (.leaf l_law17_ModelApart_38t4) (.node l_law17_ModelApart_38t5 (.leaf l_law17_ModelApart_38t6) (.leaf l_law17_ModelApart_38t7))) (.leaf l_law17_ModelApart_38t8)) (.node l_law17_ModelApart_38t9 (.node l_law17_ModelApart_38t10 (.leaf l_law17_ModelApart_38t11) (.leaf l_law17_ModelApart_38t12)) (.leaf l_law17_ModelApart_38t13))) (.node l_law17_ModelApart_38t14 (.leaf l_law17_ModelApart_38t15) (.leaf l_law17_ModelApart_38t16)))
def l_law17_ModelApart_39 : List AOp := [⟨(some 101), .mv (.t 12), none, none, [], none⟩,
  ⟨(some 102), .len (.t 101), none, none, [], none⟩,
  ⟨(some 103), .mv (.t 13), none, none, [], none⟩,
  ⟨(some 104), .len (.t 103), none, none, [], none⟩,
  ⟨(some 105), .bin .neq (.t 102) (.t 104), none, none, [], none⟩,
  ⟨(some 106), .mv (.t 105), none, none, [], none⟩,
  ⟨(some 107), .faddr 2 (.t 14), (some (106, false)), none, [], none⟩,
  ⟨(some 108), .load none (.t 107), (some (106, false)), none, [], none⟩,
  ⟨(some 109), .faddr 2 (.t 15), (some (106, false)), none, [], none⟩,
  ⟨(some 110), .load none (.t 109), (some (106, false)), none, [], none⟩,
  ⟨(some 111), .bin .neq (.t 108) (.t 110), (some (106, false)), none, [], none⟩,
  ⟨(some 112), .pick (.t 106) (.k (.bool true)) (.t 111), none, none, [], none⟩,
  ⟨(some 113), .mv (.t 112), none, none, [], none⟩,
  ⟨(some 114), .faddr 3 (.t 14), (some (113, false)), none, [], none⟩,
  ⟨(some 115), .load none (.t 114), (some (113, false)), none, [], none⟩,
  ⟨(some 116), .faddr 3 (.t 15), (some (113, false)), none, [], none⟩,
  ⟨(some 117), .load none (.t 116), (some (113, false)), none, [], none⟩,
  ⟨(some 118), .bin .neq (.t 115) (.t 117), (some (113, false)), none, [], none⟩,
  ⟨(some 119), .pick (.t 113) (.k (.bool true)) (.t 118), none, none, [], none⟩,
  ⟨(some 120), .mv (.t 119), none, none, [], none⟩,
  ⟨(some 121), .faddr 0 (.t 15), (some (120, false)), none, [], none⟩,
  ⟨(some 122), .load none (.t 121), (some (120, false)), none, [], none⟩,
  ⟨(some 123), .bin .neq (.t 122) (.k (.int .i64 0)), (some (120, false)), none, [], none⟩,
  ⟨(some 124), .pick (.t 120) (.k (.bool true)) (.t 123), none, none, [], none⟩]
def ac_law17_ModelApart_39 : AC := .reg l_law17_ModelApart_39
def l_law17_ModelApart_40 : List AOp := [⟨(some 6), .mv (.k (.bool false)), none, none, [], none⟩]
def ac_law17_ModelApart_40 : AC := .reg l_law17_ModelApart_40
def ac_law17_ModelApart_41 : AC := .seq ac_law17_ModelApart_40 .ret
def ac_law17_ModelApart_42 : AC := .cond (.t 124) ac_law17_ModelApart_41 .skip
def ac_law17_ModelApart_43 : AC := .seq ac_law17_ModelApart_39 ac_law17_ModelApart_42
def l_law17_ModelApart_44 : List AOp := [⟨(some 16), .mv (.k (.int .i64 0)), none, none, [], none⟩]
def ac_law17_ModelApart_44 : AC := .reg l_law17_ModelApart_44
def l_law17_ModelApart_45 : List AOp := [⟨(some 125), .mv (.t 16), none, none, [], none⟩,
  ⟨(some 126), .mv (.t 12), none, none, [], none⟩,
  ⟨(some 127), .len (.t 126), none, none, [], none⟩,
  ⟨(some 128), .bin .lss (.t 125) (.t 127), none, none, [], none⟩]
def ac_law17_ModelApart_45 : AC := .reg l_law17_ModelApart_45
def ac_law17_ModelApart_46 : AC := .cond (.t 128) .skip (.exit 4)
def ac_law17_ModelApart_47 : AC := .seq ac_law17_ModelApart_45 ac_law17_ModelApart_46
def l_law17_ModelApart_48 : List AOp := [⟨(some 131), .mv (.t 10), none, none, [], none⟩,
  ⟨(some 132), .mv (.t 11), none, none, [], none⟩,
  ⟨(some 133), .isl 1 (.t 131) (.t 132), none, none, [0], none⟩,
  ⟨(some 134), .load none (.t 133), none, none, [0], none⟩,
  ⟨(some 135), .mv (.t 12), none, none, [], none⟩,
  ⟨(some 136), .mv (.t 16), none, none, [], none⟩,
  ⟨(some 137), .isl 1 (.t 135) (.t 136), none, none, [0], none⟩,
  ⟨(some 138), .load none (.t 137), none, none, [0], none⟩,
  ⟨(some 139), .build [(.int .i64 0), (.int .i64 0), (.int .i64 0), (.int .i64 0), (.str [])] [(0, 1, (.k (.int .i64 7))), (1, 1, (.t 134)), (2, 1, (.t 138)), (3, 1, (.k (.int .i64 1)))], none, none, [], none⟩,
  ⟨(some 17), .alloc [(.int .i64 0), (.int .i64 0), (.int .i64 0), (.int .i64 0), (.str [])], none, (some 0), [], none⟩,
  ⟨none, .store 5 (.t 17) (.t 139), none, none, [], none⟩]
def ac_law17_ModelApart_48 : AC := .dreg 1 l_law17_ModelApart_48
def l_law17_ModelApart_49 : List AOp := [⟨(some 140), .mv (.t 12), none, none, [], none⟩,
  ⟨(some 141), .mv (.t 16), none, none, [], none⟩,
  ⟨(some 142), .isl 1 (.t 140) (.t 141), none, none, [], none⟩,
  ⟨(some 143), .load none (.t 142), none, none, [], none⟩,
  ⟨(some 144), .mv (.t 13), none, none, [], none⟩,
  ⟨(some 145), .mv (.t 16), none, none, [], none⟩,
  ⟨(some 146), .isl 1 (.t 144) (.t 145), none, none, [], none⟩,
  ⟨(some 147), .load none (.t 146), none, none, [], none⟩,
  ⟨(some 148), .bin .neq (.t 143) (.t 147), none, none, [], none⟩,
  ⟨(some 149), .mv (.t 148), none, none, [], none⟩,
  ⟨(some 150), .mv (.t 9), (some (149, false)), none, [], none⟩,
  ⟨(some 151), .load (some 5) (.t 17), (some (149, false)), none, [], none⟩,
  ⟨(some 152), .rcall 12 [(.t 150), (.t 151)], (some (149, false)), none, [], none⟩,
  ⟨(some 153), .fld none 1 (.t 152), (some (149, false)), none, [], none⟩,
  ⟨(some 154), .mv (.t 7), (some (149, false)), none, [], none⟩,
  ⟨(some 155), .load (some 5) (.t 17), (some (149, false)), none, [], none⟩,
  ⟨(some 156), .rcall 12 [(.t 154), (.t 155)], (some (149, false)), none, [], none⟩,
  ⟨(some 157), .fld none 1 (.t 156), (some (149, false)), none, [], none⟩,
  ⟨(some 158), .bin .neq (.t 153) (.t 157), (some (149, false)), none, [], none⟩,
  ⟨(some 159), .pick (.t 149) (.k (.bool true)) (.t 158), none, none, [], none⟩]
def ac_law17_ModelApart_49 : AC := .dreg 0 l_law17_ModelApart_49
def l_law17_ModelApart_50 : List AOp := [⟨(some 6), .mv (.k (.bool false)), none, none, [], none⟩]
def ac_law17_ModelApart_50 : AC := .reg l_law17_ModelApart_50
def ac_law17_ModelApart_51 : AC := .seq ac_law17_ModelApart_50 .ret
def ac_law17_ModelApart_52 : AC := .cond (.t 159) ac_law17_ModelApart_51 .skip
def ac_law17_ModelApart_53 : AC := .seq ac_law17_ModelApart_49 ac_law17_ModelApart_52
def ac_law17_ModelApart_54 : AC := .seq ac_law17_ModelApart_48 ac_law17_ModelApart_53
def ac_law17_ModelApart_55 : AC := .block 5 ac_law17_ModelApart_54
def l_law17_ModelApart_56 : List AOp := [⟨(some 129), .mv (.t 16), none, none, [], none⟩,
  ⟨(some 130), .bin .add (.t 129) (.k (.int .i64 1)), none, none, [], none⟩,
  ⟨(some 16), .mv (.t 130), none, none, [], none⟩]
def ac_law17_ModelApart_56 : AC := .reg l_law17_ModelApart_56
def ac_law17_ModelApart_57 : AC := .seq ac_law17_ModelApart_55 ac_law17_ModelApart_56
def ac_law17_ModelApart_58 : AC := .seq ac_law17_ModelApart_47 ac_law17_ModelApart_57
def ac_law17_ModelApart_59 : AC := .loop [5, 7, 9, 10, 11, 12, 13, 16] 1000000000 ac_law17_ModelApart_58
def ac_law17_ModelApart_60 : AC := .block 4 ac_law17_ModelApart_59
def ac_law17_ModelApart_61 : AC := .seq ac_law17_ModelApart_44 ac_law17_ModelApart_60
def ac_law17_ModelApart_62 : AC := .seq ac_law17_ModelApart_43 ac_law17_ModelApart_61
def ac_law17_ModelApart_63 : AC := .seq ac_law17_ModelApart_38 ac_law17_ModelApart_62
def ac_law17_ModelApart_64 : AC := .seq ac_law17_ModelApart_37 ac_law17_ModelApart_63
def ac_law17_ModelApart_65 : AC := .seq ac_law17_ModelApart_36 ac_law17_ModelApart_64
def ac_law17_ModelApart_66 : AC := .block 3 ac_law17_ModelApart_65
def l_law17_ModelApart_67 : List AOp := [⟨(some 66), .mv (.t 11), none, none, [], none⟩,
  ⟨(some 67), .bin .add (.t 66) (.k (.int .i64 1)), none, none, [], none⟩,
  ⟨(some 11), .mv (.t 67), none, none, [], none⟩]
def ac_law17_ModelApart_67 : AC := .reg l_law17_ModelApart_67
def ac_law17_ModelApart_68 : AC := .seq ac_law17_ModelApart_66 ac_law17_ModelApart_67
def ac_law17_ModelApart_69 : AC := .seq ac_law17_ModelApart_33 ac_law17_ModelApart_68
def ac_law17_ModelApart_70 : AC := .loop [5, 7, 9, 10, 11] 1000000000 ac_law17_ModelApart_69
def ac_law17_ModelApart_71 : AC := .block 2 ac_law17_ModelApart_70
def ac_law17_ModelApart_72 : AC := .seq ac_law17_ModelApart_30 ac_law17_ModelApart_71
def l_law17_ModelApart_73 : List AOp := [⟨(some 6), .mv (.k (.bool true)), none, none, [], none⟩]
def ac_law17_ModelApart_73 : AC := .reg l_law17_ModelApart_73
def ac_law17_ModelApart_74 : AC := .seq ac_law17_ModelApart_73 .ret
def ac_law17_ModelApart_75 : AC := .seq ac_law17_ModelApart_72 ac_law17_ModelApart_74
def ac_law17_ModelApart_76 : AC := .seq ac_law17_ModelApart_29 ac_law17_ModelApart_75
def ac_law17_ModelApart_77 : AC := .seq ac_law17_ModelApart_28 ac_law17_ModelApart_76
def ac_law17_ModelApart_78 : AC := .seq ac_law17_ModelApart_27 ac_law17_ModelApart_77
def ac_law17_ModelApart_79 : AC := .seq ac_law17_ModelApart_26 ac_law17_ModelApart_78
def ac_law17_ModelApart_80 : AC := .seq ac_law17_ModelApart_11 ac_law17_ModelApart_79
def ac_law17_ModelApart_81 : AC := .seq ac_law17_ModelApart_6 ac_law17_ModelApart_80
def ac_law17_ModelApart_82 : AC := .seq ac_law17_ModelApart_5 ac_law17_ModelApart_81
def ac_law17_ModelApart_83 : AC := .seq ac_law17_ModelApart_0 ac_law17_ModelApart_82
def ac_law17_ModelApart : AC := ac_law17_ModelApart_83
theorem comp_law17_ModelApart : compF Try.prog [5000012, 1000010, 1000012, 1000019, 1000020, 1000021] (drawR Try.prog [5000012, 1000010, 1000012, 1000019, 1000020, 1000021] Try.f6.ntmps) [([1, 5, 7, 8], 1000000000), ([5, 7, 9, 10, 11], 1000000000), ([5, 7, 9, 10, 11, 12, 13, 16], 1000000000)] 3 Try.f6 = some (ac_law17_ModelApart, [.t 6]) := by kernel_rfl
def U_law17_ModelApart := (And.intro (And.intro (And.intro (And.intro (And.intro (And.intro (And.intro (And.intro @ac_law17_ModelApart.eq_1 (@mR _ _ ac_law17_ModelApart_0.eq_1)) (@mR _ _ ac_law17_ModelApart_1.eq_1)) (And.intro (@mR _ _ ac_law17_ModelApart_2.eq_1) (@mU _ _ ac_law17_ModelApart_3.eq_1))) (And.intro (And.intro (@mU _ _ ac_law17_ModelApart_4.eq_1) (@mU _ _ ac_law17_ModelApart_5.eq_1)) (And.intro (@mR _ _ ac_law17_ModelApart_6.eq_1) (@mR _ _ ac_law17_ModelApart_7.eq_1)))) (And.intro (And.intro (And.intro (@mR _ _ ac_law17_ModelApart_8.eq_1) (@mU _ _ ac_law17_ModelApart_9.eq_1)) (And.intro (@mU _ _ ac_law17_ModelApart_10.eq_1) (@mU _ _ ac_law17_ModelApart_11.eq_1))) (And.intro (And.intro (@mR _ _ ac_law17_ModelApart_12.eq_1) (@mR _ _ ac_law17_ModelApart_13.eq_1)) (And.intro (@mU _ _ ac_law17_ModelApart_14.eq_1) (@mU _ _ ac_law17_ModelApart_15.eq_1))))) (And.intro (And.intro (And.intro (And.intro (And.intro (@mR _ _ ac_law17_ModelApart_16.eq_1) (@mR _ _ ac_law17_ModelApart_17.eq_1)) (@mU _ _ ac_law17_ModelApart_18.eq_1)) (And.intro (@mU _ _ ac_law17_ModelApart_19.eq_1) (@mU _ _ ac_law17_ModelApart_20.eq_1))) (And.intro (And.intro (@mR _ _ ac_law17_ModelApart_21.eq_1) (@mU _ _ ac_law17_ModelApart_22.eq_1)) (And.intro (@mU _ _ ac_law17_ModelApart_23.eq_1) (@mU _ _ ac_law17_ModelApart_24.eq_1)))) (And.intro (And.intro (And.intro (@mU _ _ ac_law17_ModelApart_25.eq_1) (@mU _ _ ac_law17_ModelApart_26.eq_1)) (And.intro (@mR _ _ ac_law17_ModelApart_27.eq_1) (@mR _ _ ac_law17_ModelApart_28.eq_1))) (And.intro (And.intro (@mR _ _ ac_law17_ModelApart_29.eq_1) (@mR _ _ ac_law17_ModelApart_30.eq_1)) (And.intro (@mR _ _ ac_law17_ModelApart_31.eq_1) (@mU _ _ ac_law17_ModelApart_32.eq_1)))))) (And.intro (And.intro (And.intro (And.intro (And.intro (And.intro (@mU _ _ ac_law17_ModelApart_33.eq_1) (@mD _ _ _ ac_law17_ModelApart_34.eq_1)) (@mU _ _ ac_law17_ModelApart_35.eq_1)) (And.intro (@mU _ _ ac_law17_ModelApart_36.eq_1) (@mDN _ _ _ ac_law17_ModelApart_37.eq_1))) (And.intro (And.intro (@mDN _ _ _ ac_law17_ModelApart_38.eq_1) (@mR _ _ ac_law17_ModelApart_39.eq_1)) (And.intro (@mR _ _ ac_law17_ModelApart_40.eq_1) (@mU _ _ ac_law17_ModelApart_41.eq_1)))) (And.intro (And.intro (And.intro (@mU _ _ ac_law17_ModelApart_42.eq_1) (@mU _ _ ac_law17_ModelApart_43.eq_1)) (And.intro (@mR _ _ ac_law17_ModelApart_44.eq_1) (@mR _ _ ac_law17_ModelApart_45.eq_1))) (And.intro (And.intro (@mU _ _ ac_law17_ModelApart_46.eq_1) (@mU _ _ ac_law17_ModelApart_47.eq_1)) (And.intro (@mD _ _ _ ac_law17_ModelApart_48.eq_1) (@mD _ _ _ ac_law17_ModelApart_49.eq_1))))) (And.intro (And.intro (And.intro (And.intro (@mR _ _ ac_law17_ModelApart_50.eq_1) (@mU _ _ ac_law17_ModelApart_51.eq_1)) (And.intro (@mU _ _ ac_law17_ModelApart_52.eq_1) (@mU _ _ ac_law17_ModelApart_53.eq_1))) (And.intro (And.intro (@mU _ _ ac_law17_ModelApart_54.eq_1) (@mU _ _ ac_law17_ModelApart_55.eq_1)) (And.intro (@mR _ _ ac_law17_ModelApart_56.eq_1) (@mU _ _ ac_law17_ModelApart_57.eq_1)))) (And.intro (And.intro (And.intro (@mU _ _ ac_law17_ModelApart_58.eq_1) (@mU _ _ ac_law17_ModelApart_59.eq_1)) (And.intro (@mU _ _ ac_law17_ModelApart_60.eq_1) (@mU _ _ ac_law17_ModelApart_61.eq_1))) (And.intro (And.intro (@mU _ _ ac_law17_ModelApart_62.eq_1) (@mU _ _ ac_law17_ModelApart_63.eq_1)) (And.intro (@mU _ _ ac_law17_ModelApart_64.eq_1) (@mU _ _ ac_law17_ModelApart_65.eq_1))))))) (And.intro (And.intro (And.intro (And.intro (And.intro (And.intro (And.intro (@mU _ _ ac_law17_ModelApart_66.eq_1) (@mR _ _ ac_law17_ModelApart_67.eq_1)) (@mU _ _ ac_law17_ModelApart_68.eq_1)) (And.intro (@mU _ _ ac_law17_ModelApart_69.eq_1) (@mU _ _ ac_law17_ModelApart_70.eq_1))) (And.intro (And.intro (@mU _ _ ac_law17_ModelApart_71.eq_1) (@mU _ _ ac_law17_ModelApart_72.eq_1)) (And.intro (@mR _ _ ac_law17_ModelApart_73.eq_1) (@mU _ _ ac_law17_ModelApart_74.eq_1)))) (And.intro (And.intro (And.intro (@mU _ _ ac_law17_ModelApart_75.eq_1) (@mU _ _ ac_law17_ModelApart_76.eq_1)) (And.intro (@mU _ _ ac_law17_ModelApart_77.eq_1) (@mU _ _ ac_law17_ModelApart_78.eq_1))) (And.intro (And.intro (@mU _ _ ac_law17_ModelApart_79.eq_1) (@mU _ _ ac_law17_ModelApart_80.eq_1)) (And.intro (@mU _ _ ac_law17_ModelApart_81.eq_1) (@mU _ _ ac_law17_ModelApart_82.eq_1))))) (And.intro (And.intro (And.intro (And.intro (And.intro (@mU _ _ ac_law17_ModelApart_83.eq_1) @l_law17_ModelApart_0.eq_1) @l_law17_ModelApart_1.eq_1) (And.intro @l_law17_ModelApart_2.eq_1 @l_law17_ModelApart_6.eq_1)) (And.intro (And.intro @l_law17_ModelApart_7.eq_1 @l_law17_ModelApart_8.eq_1) (And.intro @l_law17_ModelApart_12.eq_1 @l_law17_ModelApart_13.eq_1))) (And.intro (And.intro (And.intro @l_law17_ModelApart_16.eq_1 @l_law17_ModelApart_17.eq_1) (And.intro @l_law17_ModelApart_21.eq_1 @l_law17_ModelApart_27.eq_1)) (And.intro (And.intro @l_law17_ModelApart_28.eq_1 @l_law17_ModelApart_29.eq_1) (And.intro @l_law17_ModelApart_30.eq_1 @l_law17_ModelApart_31.eq_1))))) (And.intro (And.intro (And.intro (And.intro (And.intro (And.intro @l_law17_ModelApart_34.eq_1 @l_law17_ModelApart_39.eq_1) @l_law17_ModelApart_40.eq_1) (And.intro @l_law17_ModelApart_44.eq_1 @l_law17_ModelApart_45.eq_1)) (And.intro (And.intro @l_law17_ModelApart_48.eq_1 @l_law17_ModelApart_49.eq_1) (And.intro @l_law17_ModelApart_50.eq_1 @l_law17_ModelApart_56.eq_1))) (And.intro (And.intro (And.intro @l_law17_ModelApart_67.eq_1 @l_law17_ModelApart_73.eq_1) (And.intro @l_law17_ModelApart_37t0.eq_1 @l_law17_ModelApart_37t1.eq_1)) (And.intro (And.intro @l_law17_ModelApart_37t2.eq_1 @l_law17_ModelApart_37t3.eq_1) (And.intro @l_law17_ModelApart_37t4.eq_1 @l_law17_ModelApart_38t0.eq_1)))) (And.intro (And.intro (And.intro (And.intro @l_law17_ModelApart_38t1.eq_1 @l_law17_ModelApart_38t2.eq_1) (And.intro @l_law17_ModelApart_38t3.eq_1 @l_law17_ModelApart_38t4.eq_1)) (And.intro (And.intro @l_law17_ModelApart_38t5.eq_1 @l_law17_ModelApart_38t6.eq_1) (And.intro @l_law17_ModelApart_38t7.eq_1 @l_law17_ModelApart_38t8.eq_1))) (And.intro (And.intro (And.intro @l_law17_ModelApart_38t9.eq_1 @l_law17_ModelApart_38t10.eq_1) (And.intro @l_law17_ModelApart_38t11.eq_1 @l_law17_ModelApart_38t12.eq_1)) (And.intro (And.intro @l_law17_ModelApart_38t13.eq_1 @l_law17_ModelApart_38t14.eq_1) (And.intro @l_law17_ModelApart_38t15.eq_1 @l_law17_ModelApart_38t16.eq_1)))))))

/- scoria/scorialaw17.ModelTwice -/
def l_law17_ModelTwice_0 : List AOp := [⟨(some 5), .box (.t 2), none, none, [], none⟩,
  ⟨(some 6), .mv (.k (.bool false)), none, none, [], none⟩]
def ac_law17_ModelTwice_0 : AC := .reg l_law17_ModelTwice_0
def l_law17_ModelTwice_1 : List AOp := [⟨(some 12), .mv (.t 0), none, none, [], none⟩,
  ⟨(some 13), .bin .gtr (.t 12) (.k (.int .i64 200)), none, none, [], none⟩,
  ⟨(some 14), .mv (.t 13), none, none, [], none⟩,
  ⟨(some 15), .load (some 5) (.t 5), (some (14, false)), none, [], none⟩,
  ⟨(some 16), .call false 13 [(.t 15)], (some (14, false)), none, [], none⟩,
  ⟨(some 17), .un .not (.t 16), (some (14, false)), none, [], none⟩,
  ⟨(some 18), .pick (.t 14) (.k (.bool true)) (.t 17), none, none, [], none⟩]
def ac_law17_ModelTwice_1 : AC := .reg l_law17_ModelTwice_1
def l_law17_ModelTwice_2 : List AOp := [⟨(some 19), .call false 11 [], none, none, [], none⟩,
  ⟨(some 6), .mv (.t 19), none, none, [], none⟩]
def ac_law17_ModelTwice_2 : AC := .reg l_law17_ModelTwice_2
def ac_law17_ModelTwice_3 : AC := .seq ac_law17_ModelTwice_2 .ret
def ac_law17_ModelTwice_4 : AC := .cond (.t 18) ac_law17_ModelTwice_3 .skip
def ac_law17_ModelTwice_5 : AC := .seq ac_law17_ModelTwice_1 ac_law17_ModelTwice_4
def l_law17_ModelTwice_6 : List AOp := [⟨(some 20), .mv (.t 0), none, none, [], none⟩,
  ⟨(some 21), .icall 10 [(.t 20)], none, none, [], none⟩,
  ⟨(some 7), .mv (.t 21), none, none, [], none⟩]
def ac_law17_ModelTwice_6 : AC := .reg l_law17_ModelTwice_6
def l_law17_ModelTwice_7 : List AOp := [⟨(some 22), .call false 11 [], none, none, [], none⟩,
  ⟨(some 23), .un .not (.t 22), none, none, [], none⟩,
  ⟨(some 24), .mv (.t 23), none, none, [], none⟩,
  ⟨(some 25), .mv (.t 7), (some (24, false)), none, [], none⟩,
  ⟨(some 26), .isn .p false (.t 25), (some (24, false)), none, [], none⟩,
  ⟨(some 27), .pick (.t 24) (.k (.bool true)) (.t 26), none, none, [], none⟩]
def ac_law17_ModelTwice_7 : AC := .reg l_law17_ModelTwice_7
def l_law17_ModelTwice_8 : List AOp := [⟨(some 6), .mv (.k (.bool false)), none, none, [], none⟩]
def ac_law17_ModelTwice_8 : AC := .reg l_law17_ModelTwice_8
def ac_law17_ModelTwice_9 : AC := .seq ac_law17_ModelTwice_8 .ret
def ac_law17_ModelTwice_10 : AC := .cond (.t 27) ac_law17_ModelTwice_9 .skip
def ac_law17_ModelTwice_11 : AC := .seq ac_law17_ModelTwice_7 ac_law17_ModelTwice_10
def l_law17_ModelTwice_12 : List AOp := [⟨(some 8), .mv (.k (.int .i64 0)), none, none, [], none⟩]
def ac_law17_ModelTwice_12 : AC := .reg l_law17_ModelTwice_12
def l_law17_ModelTwice_13 : List AOp := [⟨(some 28), .mv (.t 8), none, none, [], none⟩,
  ⟨(some 29), .mv (.t 1), none, none, [], none⟩,
  ⟨(some 30), .len (.t 29), none, none, [], none⟩,
  ⟨(some 31), .bin .lss (.t 28) (.t 30), none, none, [], none⟩,
  ⟨(some 32), .mv (.t 31), none, none, [], none⟩,
  ⟨(some 33), .mv (.t 8), (some (32, true)), none, [], none⟩,
  ⟨(some 34), .bin .lss (.t 33) (.k (.int .i64 40)), (some (32, true)), none, [], none⟩,
  ⟨(some 35), .pick (.t 32) (.t 34) (.k (.bool false)), none, none, [], none⟩]
def ac_law17_ModelTwice_13 : AC := .reg l_law17_ModelTwice_13
def ac_law17_ModelTwice_14 : AC := .cond (.t 35) .skip (.exit 0)
def ac_law17_ModelTwice_15 : AC := .seq ac_law17_ModelTwice_13 ac_law17_ModelTwice_14
def l_law17_ModelTwice_16 : List AOp := [⟨(some 38), .mv (.t 1), none, none, [], none⟩,
  ⟨(some 39), .mv (.t 8), none, none, [], none⟩,
  ⟨(some 40), .isl 5 (.t 38) (.t 39), none, none, [], none⟩,
  ⟨(some 41), .load (some 5) (.t 40), none, none, [], none⟩,
  ⟨(some 42), .call false 13 [(.t 41)], none, none, [], none⟩]
def ac_law17_ModelTwice_16 : AC := .reg l_law17_ModelTwice_16
def l_law17_ModelTwice_17 : List AOp := [⟨(some 43), .mv (.t 7), none, none, [], none⟩,
  ⟨(some 44), .mv (.t 1), none, none, [], none⟩,
  ⟨(some 45), .mv (.t 8), none, none, [], none⟩,
  ⟨(some 46), .isl 5 (.t 44) (.t 45), none, none, [], none⟩,
  ⟨(some 47), .load (some 5) (.t 46), none, none, [], none⟩,
  ⟨(some 48), .icall 12 [(.t 43), (.t 47)], none, none, [], none⟩]
def ac_law17_ModelTwice_17 : AC := .reg l_law17_ModelTwice_17
def ac_law17_ModelTwice_18 : AC := .cond (.t 42) ac_law17_ModelTwice_17 .skip
def ac_law17_ModelTwice_19 : AC := .seq ac_law17_ModelTwice_16 ac_law17_ModelTwice_18
def ac_law17_ModelTwice_20 : AC := .block 1 ac_law17_ModelTwice_19
def l_law17_ModelTwice_21 : List AOp := [⟨(some 36), .mv (.t 8), none, none, [], none⟩,
  ⟨(some 37), .bin .add (.t 36) (.k (.int .i64 1)), none, none, [], none⟩,
  ⟨(some 8), .mv (.t 37), none, none, [], none⟩]
def ac_law17_ModelTwice_21 : AC := .reg l_law17_ModelTwice_21
def ac_law17_ModelTwice_22 : AC := .seq ac_law17_ModelTwice_20 ac_law17_ModelTwice_21
def ac_law17_ModelTwice_23 : AC := .seq ac_law17_ModelTwice_15 ac_law17_ModelTwice_22
def ac_law17_ModelTwice_24 : AC := .loop [1, 5, 7, 8] 1000000000 ac_law17_ModelTwice_23
def ac_law17_ModelTwice_25 : AC := .block 0 ac_law17_ModelTwice_24
def ac_law17_ModelTwice_26 : AC := .seq ac_law17_ModelTwice_12 ac_law17_ModelTwice_25
def l_law17_ModelTwice_27 : List AOp := [⟨(some 49), .mv (.t 7), none, none, [], none⟩,
  ⟨(some 50), .load (some 5) (.t 5), none, none, [], none⟩,
  ⟨(some 51), .icall 12 [(.t 49), (.t 50)], none, none, [], none⟩,
  ⟨(some 9), .alloc [(.int .i64 0), (.str []), (.int .i64 0), (.int .i64 0), (.slc [])], none, none, [], none⟩,
  ⟨none, .store 5 (.t 9) (.t 51), none, none, [], none⟩]
def ac_law17_ModelTwice_27 : AC := .reg l_law17_ModelTwice_27
def l_law17_ModelTwice_28 : List AOp := [⟨(some 52), .mv (.t 7), none, none, [], none⟩,
  ⟨(some 53), .icall 19 [(.t 52)], none, none, [], none⟩,
  ⟨(some 10), .mv (.t 53), none, none, [], none⟩]
def ac_law17_ModelTwice_28 : AC := .reg l_law17_ModelTwice_28
def l_law17_ModelTwice_29 : List AOp := [⟨(some 54), .mv (.t 7), none, none, [], none⟩,
  ⟨(some 55), .load (some 5) (.t 5), none, none, [], none⟩,
  ⟨(some 56), .icall 12 [(.t 54), (.t 55)], none, none, [], none⟩,
  ⟨(some 11), .alloc [(.int .i64 0), (.str []), (.int .i64 0), (.int .i64 0), (.slc [])], none, none, [], none⟩,
  ⟨none, .store 5 (.t 11) (.t 56), none, none, [], none⟩]
def ac_law17_ModelTwice_29 : AC := .reg l_law17_ModelTwice_29
def l_law17_ModelTwice_30 : List AOp := [⟨(some 57), .faddr 0 (.t 5), none, none, [], none⟩,
  ⟨(some 58), .load none (.t 57), none, none, [], none⟩,
  ⟨(some 59), .bin .eql (.t 58) (.k (.int .i64 1)), none, none, [], none⟩,
  ⟨(some 60), .mv (.t 59), none, none, [], none⟩,
  ⟨(some 61), .faddr 0 (.t 5), (some (60, false)), none, [], none⟩,
  ⟨(some 62), .load none (.t 61), (some (60, false)), none, [], none⟩,
  ⟨(some 63), .bin .eql (.t 62) (.k (.int .i64 3)), (some (60, false)), none, [], none⟩,
  ⟨(some 64), .pick (.t 60) (.k (.bool true)) (.t 63), none, none, [], none⟩]
def ac_law17_ModelTwice_30 : AC := .reg l_law17_ModelTwice_30
def l_law17_ModelTwice_31 : List AOp := [⟨(some 65), .faddr 0 (.t 9), none, none, [], none⟩,
  ⟨(some 66), .load none (.t 65), none, none, [], none⟩,
  ⟨(some 67), .bin .neq (.t 66) (.k (.int .i64 0)), none, none, [], none⟩,
  ⟨(some 68), .mv (.t 67), none, none, [], none⟩,
  ⟨(some 69), .faddr 0 (.t 11), (some (68, false)), none, [], none⟩,
  ⟨(some 70), .load none (.t 69), (some (68, false)), none, [], none⟩,
  ⟨(some 71), .bin .neq (.t 70) (.k (.int .i64 0)), (some (68, false)), none, [], none⟩,
  ⟨(some 72), .pick (.t 68) (.k (.bool true)) (.t 71), none, none, [], none⟩,
  ⟨(some 6), .mv (.t 72), none, none, [], none⟩]
def ac_law17_ModelTwice_31 : AC := .reg l_law17_ModelTwice_31
def ac_law17_ModelTwice_32 : AC := .seq ac_law17_ModelTwice_31 .ret
def ac_law17_ModelTwice_33 : AC := .cond (.t 64) ac_law17_ModelTwice_32 .skip
def ac_law17_ModelTwice_34 : AC := .seq ac_law17_ModelTwice_30 ac_law17_ModelTwice_33
def l_law17_ModelTwice_35 : List AOp := [⟨(some 73), .faddr 0 (.t 9), none, none, [], none⟩,
  ⟨(some 74), .load none (.t 73), none, none, [], none⟩,
  ⟨(some 75), .faddr 0 (.t 11), none, none, [], none⟩,
  ⟨(some 76), .load none (.t 75), none, none, [], none⟩,
  ⟨(some 77), .bin .eql (.t 74) (.t 76), none, none, [], none⟩,
  ⟨(some 78), .mv (.t 77), none, none, [], none⟩,
  ⟨(some 79), .faddr 1 (.t 9), (some (78, true)), none, [], none⟩,
  ⟨(some 80), .load none (.t 79), (some (78, true)), none, [], none⟩,
  ⟨(some 81), .faddr 1 (.t 11), (some (78, true)), none, [], none⟩,
  ⟨(some 82), .load none (.t 81), (some (78, true)), none, [], none⟩,
  ⟨(some 83), .bin .eql (.t 80) (.t 82), (some (78, true)), none, [], none⟩,
  ⟨(some 84), .pick (.t 78) (.t 83) (.k (.bool false)), none, none, [], none⟩,
  ⟨(some 85), .mv (.t 84), none, none, [], none⟩,
  ⟨(some 86), .mv (.t 7), (some (85, true)), none, [], none⟩,
  ⟨(some 87), .mv (.t 10), (some (85, true)), none, [], none⟩,
  ⟨(some 88), .rcall 22 [(.t 86), (.t 87)], (some (85, true)), none, [], none⟩,
  ⟨(some 89), .pick (.t 85) (.t 88) (.k (.bool false)), none, none, [], none⟩,
  ⟨(some 6), .mv (.t 89), none, none, [], none⟩]
def ac_law17_ModelTwice_35 : AC := .reg l_law17_ModelTwice_35
def ac_law17_ModelTwice_36 : AC := .seq ac_law17_ModelTwice_35 .ret
def ac_law17_ModelTwice_37 : AC := .seq ac_law17_ModelTwice_34 ac_law17_ModelTwice_36
def ac_law17_ModelTwice_38 : AC := .seq ac_law17_ModelTwice_29 ac_law17_ModelTwice_37
def ac_law17_ModelTwice_39 : AC := .seq ac_law17_ModelTwice_28 ac_law17_ModelTwice_38
def ac_law17_ModelTwice_40 : AC := .seq ac_law17_ModelTwice_27 ac_law17_ModelTwice_39
def ac_law17_ModelTwice_41 : AC := .seq ac_law17_ModelTwice_26 ac_law17_ModelTwice_40
def ac_law17_ModelTwice_42 : AC := .seq ac_law17_ModelTwice_11 ac_law17_ModelTwice_41
def ac_law17_ModelTwice_43 : AC := .seq ac_law17_ModelTwice_6 ac_law17_ModelTwice_42
def ac_law17_ModelTwice_44 : AC := .seq ac_law17_ModelTwice_5 ac_law17_ModelTwice_43
def ac_law17_ModelTwice_45 : AC := .seq ac_law17_ModelTwice_0 ac_law17_ModelTwice_44
def ac_law17_ModelTwice : AC := ac_law17_ModelTwice_45
theorem comp_law17_ModelTwice : compF Try.prog [1000010, 1000012, 1000019, 4000022] (drawR Try.prog [1000010, 1000012, 1000019, 4000022] Try.f7.ntmps) [([1, 5, 7, 8], 1000000000)] 3 Try.f7 = some (ac_law17_ModelTwice, [.t 6]) := by kernel_rfl
def U_law17_ModelTwice := (And.intro (And.intro (And.intro (And.intro (And.intro (And.intro @ac_law17_ModelTwice.eq_1 (@mR _ _ ac_law17_ModelTwice_0.eq_1)) (And.intro (@mR _ _ ac_law17_ModelTwice_1.eq_1) (@mR _ _ ac_law17_ModelTwice_2.eq_1))) (And.intro (And.intro (@mU _ _ ac_law17_ModelTwice_3.eq_1) (@mU _ _ ac_law17_ModelTwice_4.eq_1)) (And.intro (@mU _ _ ac_law17_ModelTwice_5.eq_1) (@mR _ _ ac_law17_ModelTwice_6.eq_1)))) (And.intro (And.intro (And.intro (@mR _ _ ac_law17_ModelTwice_7.eq_1) (@mR _ _ ac_law17_ModelTwice_8.eq_1)) (And.intro (@mU _ _ ac_law17_ModelTwice_9.eq_1) (@mU _ _ ac_law17_ModelTwice_10.eq_1))) (And.intro (And.intro (@mU _ _ ac_law17_ModelTwice_11.eq_1) (@mR _ _ ac_law17_ModelTwice_12.eq_1)) (And.intro (@mR _ _ ac_law17_ModelTwice_13.eq_1) (@mU _ _ ac_law17_ModelTwice_14.eq_1))))) (And.intro (And.intro (And.intro (And.intro (@mU _ _ ac_law17_ModelTwice_15.eq_1) (@mR _ _ ac_law17_ModelTwice_16.eq_1)) (And.intro (@mR _ _ ac_law17_ModelTwice_17.eq_1) (@mU _ _ ac_law17_ModelTwice_18.eq_1))) (And.intro (And.intro (@mU _ _ ac_law17_ModelTwice_19.eq_1) (@mU _ _ ac_law17_ModelTwice_20.eq_1)) (And.intro (@mR _ _ ac_law17_ModelTwice_21.eq_1) (@mU _ _ ac_law17_ModelTwice_22.eq_1)))) (And.intro (And.intro (And.intro (@mU _ _ ac_law17_ModelTwice_23.eq_1) (@mU _ _ ac_law17_ModelTwice_24.eq_1)) (And.intro (@mU _ _ ac_law17_ModelTwice_25.eq_1) (@mU _ _ ac_law17_ModelTwice_26.eq_1))) (And.intro (And.intro (@mR _ _ ac_law17_ModelTwice_27.eq_1) (@mR _ _ ac_law17_ModelTwice_28.eq_1)) (And.intro (@mR _ _ ac_law17_ModelTwice_29.eq_1) (@mR _ _ ac_law17_ModelTwice_30.eq_1)))))) (And.intro (And.intro (And.intro (And.intro (And.intro (@mR _ _ ac_law17_ModelTwice_31.eq_1) (@mU _ _ ac_law17_ModelTwice_32.eq_1)) (And.intro (@mU _ _ ac_law17_ModelTwice_33.eq_1) (@mU _ _ ac_law17_ModelTwice_34.eq_1))) (And.intro (And.intro (@mR _ _ ac_law17_ModelTwice_35.eq_1) (@mU _ _ ac_law17_ModelTwice_36.eq_1)) (And.intro (@mU _ _ ac_law17_ModelTwice_37.eq_1) (@mU _ _ ac_law17_ModelTwice_38.eq_1)))) (And.intro (And.intro (And.intro (@mU _ _ ac_law17_ModelTwice_39.eq_1) (@mU _ _ ac_law17_ModelTwice_40.eq_1)) (And.intro (@mU _ _ ac_law17_ModelTwice_41.eq_1) (@mU _ _ ac_law17_ModelTwice_42.eq_1))) (And.intro (And.intro (@mU _ _ ac_law17_ModelTwice_43.eq_1) (@mU _ _ ac_law17_ModelTwice_44.eq_1)) (And.intro (@mU _ _ ac_law17_ModelTwice_45.eq_1) @l_law17_ModelTwice_0.eq_1)))) (And.intro (And.intro (And.intro (And.intro @l_law17_ModelTwice_1.eq_1 @l_law17_ModelTwice_2.eq_1) (And.intro @l_law17_ModelTwice_6.eq_1 @l_law17_ModelTwice_7.eq_1)) (And.intro (And.intro @l_law17_ModelTwice_8.eq_1 @l_law17_ModelTwice_12.eq_1) (And.intro @l_law17_ModelTwice_13.eq_1 @l_law17_ModelTwice_16.eq_1))) (And.intro (And.intro (And.intro @l_law17_ModelTwice_17.eq_1 @l_law17_ModelTwice_21.eq_1) (And.intro @l_law17_ModelTwice_27.eq_1 @l_law17_ModelTwice_28.eq_1)) (And.intro (And.intro @l_law17_ModelTwice_29.eq_1 @l_law17_ModelTwice_30.eq_1) (And.intro @l_law17_ModelTwice_31.eq_1 @l_law17_ModelTwice_35.eq_1))))))

end Go.Proofs.Ythjnfjgejdlbfaa.Aw
