/-
  The functions of the seat, translated to abstract code. Written by a program (wip/Gen2.lean).
-/
import Derived.Test.YtdgpiobmncohjaaDoorAwBun
import Derived.Test.YtdgpiobmncohjaaDoorProg
set_option maxRecDepth 100000
set_option linter.all false
namespace Go.Proofs.YtdgpiobmncohjaaDoor.Aw
open Go.RowKit
/- scoria/page.Write -/
def l_page_Write_0 : List AOp := [⟨(some 1), .box (.t 0), none, none, [], none⟩,
  ⟨(some 2), .mv (.k (.str [])), none, none, [], none⟩,
  ⟨(some 3), .mv (.k (.int .i64 0)), none, none, [], none⟩]
def ac_page_Write_0 : AC := .reg l_page_Write_0
def l_page_Write_1 : List AOp := [⟨(some 6), .load (some 5) (.t 1), none, none, [], none⟩,
  ⟨(some 7), .call false 17 [(.t 6)], none, none, [], none⟩,
  ⟨(some 8), .un .not (.t 7), none, none, [], none⟩]
def ac_page_Write_1 : AC := .reg l_page_Write_1
def l_page_Write_2 : List AOp := [⟨(some 2), .mv (.k (.str [])), none, none, [], none⟩,
  ⟨(some 3), .mv (.k (.int .i64 1)), none, none, [], none⟩]
def ac_page_Write_2 : AC := .reg l_page_Write_2
def ac_page_Write_3 : AC := .seq ac_page_Write_2 .ret
def ac_page_Write_4 : AC := .cond (.t 8) ac_page_Write_3 .skip
def ac_page_Write_5 : AC := .seq ac_page_Write_1 ac_page_Write_4
def l_page_Write_6 : List AOp := [⟨(some 10), .faddr 0 (.t 1), none, none, [], none⟩,
  ⟨(some 11), .load none (.t 10), none, none, [], none⟩,
  ⟨(some 12), .conv .u64 (.t 11), none, none, [], none⟩,
  ⟨(some 13), .faddr 1 (.t 1), none, none, [], none⟩,
  ⟨(some 14), .load none (.t 13), none, none, [], none⟩,
  ⟨(some 15), .conv .u64 (.t 14), none, none, [], none⟩,
  ⟨(some 16), .faddr 2 (.t 1), none, none, [], none⟩,
  ⟨(some 17), .load none (.t 16), none, none, [], none⟩,
  ⟨(some 18), .conv .u64 (.t 17), none, none, [], none⟩,
  ⟨(some 19), .faddr 3 (.t 1), none, none, [], none⟩,
  ⟨(some 20), .load none (.t 19), none, none, [], none⟩,
  ⟨(some 21), .conv .u64 (.t 20), none, none, [], none⟩,
  ⟨(some 22), .faddr 4 (.t 1), none, none, [], none⟩,
  ⟨(some 23), .load none (.t 22), none, none, [], none⟩,
  ⟨(some 24), .lens (.t 23), none, none, [], none⟩,
  ⟨(some 25), .conv .u64 (.t 24), none, none, [], none⟩,
  ⟨(some 26), .blds false [(.int .u64 0)] 5 [(0, (.t 12)), (1, (.t 15)), (2, (.t 18)), (3, (.t 21)), (4, (.t 25))], none, none, [], none⟩,
  ⟨(some 27), .call false 19 [], none, none, [], none⟩,
  ⟨(some 28), .call false 18 [(.t 26), (.t 27)], none, none, [], none⟩,
  ⟨(some 9), .mv (.t 28), none, none, [], none⟩,
  ⟨(some 29), .ext 0 (.t 9), none, none, [], none⟩,
  ⟨(some 30), .ext 1 (.t 9), none, none, [], none⟩,
  ⟨(some 4), .mv (.t 29), none, none, [], none⟩,
  ⟨(some 5), .mv (.t 30), none, none, [], none⟩]
def ac_page_Write_6 : AC := .dreg 0 l_page_Write_6
def l_page_Write_7 : List AOp := [⟨(some 31), .mv (.t 5), none, none, [], none⟩,
  ⟨(some 32), .bin .neq (.t 31) (.k (.int .i64 0)), none, none, [], none⟩]
def ac_page_Write_7 : AC := .reg l_page_Write_7
def l_page_Write_8 : List AOp := [⟨(some 33), .mv (.t 5), none, none, [], none⟩,
  ⟨(some 2), .mv (.k (.str [])), none, none, [], none⟩,
  ⟨(some 3), .mv (.t 33), none, none, [], none⟩]
def ac_page_Write_8 : AC := .reg l_page_Write_8
def ac_page_Write_9 : AC := .seq ac_page_Write_8 .ret
def ac_page_Write_10 : AC := .cond (.t 32) ac_page_Write_9 .skip
def ac_page_Write_11 : AC := .seq ac_page_Write_7 ac_page_Write_10
def l_page_Write_12 : List AOp := [⟨(some 34), .mv (.t 4), none, none, [], none⟩,
  ⟨(some 35), .bin .add (.k (.str [83, 99])) (.t 34), none, none, [], none⟩,
  ⟨(some 36), .faddr 4 (.t 1), none, none, [], none⟩,
  ⟨(some 37), .load none (.t 36), none, none, [], none⟩,
  ⟨(some 38), .bin .add (.t 35) (.t 37), none, none, [], none⟩,
  ⟨(some 39), .call false 20 [(.t 38)], none, none, [], none⟩,
  ⟨(some 2), .mv (.t 39), none, none, [], none⟩,
  ⟨(some 3), .mv (.k (.int .i64 0)), none, none, [], none⟩]
def ac_page_Write_12 : AC := .reg l_page_Write_12
def ac_page_Write_13 : AC := .seq ac_page_Write_12 .ret
def ac_page_Write_14 : AC := .seq ac_page_Write_11 ac_page_Write_13
def ac_page_Write_15 : AC := .seq ac_page_Write_6 ac_page_Write_14
def ac_page_Write_16 : AC := .seq ac_page_Write_5 ac_page_Write_15
def ac_page_Write_17 : AC := .seq ac_page_Write_0 ac_page_Write_16
def ac_page_Write : AC := ac_page_Write_17
theorem comp_page_Write : compF Tryd.prog [] (drawR Tryd.prog [] Tryd.f5.ntmps) [] 1 Tryd.f5 = some (ac_page_Write, [.t 2, .t 3]) := by kernel_rfl
def U_page_Write := (And.intro (And.intro (And.intro (And.intro (And.intro @ac_page_Write.eq_1 (@mR _ _ ac_page_Write_0.eq_1)) (And.intro (@mR _ _ ac_page_Write_1.eq_1) (@mR _ _ ac_page_Write_2.eq_1))) (And.intro (And.intro (@mU _ _ ac_page_Write_3.eq_1) (@mU _ _ ac_page_Write_4.eq_1)) (@mU _ _ ac_page_Write_5.eq_1))) (And.intro (And.intro (And.intro (@mD _ _ _ ac_page_Write_6.eq_1) (@mR _ _ ac_page_Write_7.eq_1)) (@mR _ _ ac_page_Write_8.eq_1)) (And.intro (And.intro (@mU _ _ ac_page_Write_9.eq_1) (@mU _ _ ac_page_Write_10.eq_1)) (@mU _ _ ac_page_Write_11.eq_1)))) (And.intro (And.intro (And.intro (And.intro (@mR _ _ ac_page_Write_12.eq_1) (@mU _ _ ac_page_Write_13.eq_1)) (And.intro (@mU _ _ ac_page_Write_14.eq_1) (@mU _ _ ac_page_Write_15.eq_1))) (And.intro (And.intro (@mU _ _ ac_page_Write_16.eq_1) (@mU _ _ ac_page_Write_17.eq_1)) @l_page_Write_0.eq_1)) (And.intro (And.intro (And.intro @l_page_Write_1.eq_1 @l_page_Write_2.eq_1) @l_page_Write_6.eq_1) (And.intro (And.intro @l_page_Write_7.eq_1 @l_page_Write_8.eq_1) @l_page_Write_12.eq_1))))

/- scoria/page.Read -/
def l_page_Read_0 : List AOp := [⟨(some 2), .alloc [(.int .i64 0), (.int .i64 0), (.int .i64 0), (.int .i64 0), (.str [])], none, none, [], none⟩,
  ⟨(some 3), .mv (.k (.int .i64 0)), none, none, [], none⟩]
def ac_page_Read_0 : AC := .reg l_page_Read_0
def l_page_Read_1 : List AOp := [⟨(some 10), .mv (.t 0), none, none, [], none⟩,
  ⟨(some 11), .call false 26 [(.t 10)], none, none, [], none⟩,
  ⟨(some 9), .mv (.t 11), none, none, [], none⟩,
  ⟨(some 12), .ext 0 (.t 9), none, none, [], none⟩,
  ⟨(some 13), .ext 1 (.t 9), none, none, [], none⟩,
  ⟨(some 4), .mv (.t 12), none, none, [], none⟩,
  ⟨(some 5), .mv (.t 13), none, none, [], none⟩]
def ac_page_Read_1 : AC := .reg l_page_Read_1
def l_page_Read_2 : List AOp := [⟨(some 14), .mv (.t 5), none, none, [], none⟩,
  ⟨(some 15), .bin .neq (.t 14) (.k (.int .i64 0)), none, none, [], none⟩]
def ac_page_Read_2 : AC := .reg l_page_Read_2
def l_page_Read_3 : List AOp := [⟨(some 16), .build [(.int .i64 0), (.int .i64 0), (.int .i64 0), (.int .i64 0), (.str [])] [], none, none, [], none⟩,
  ⟨(some 17), .mv (.t 5), none, none, [], none⟩,
  ⟨none, .store 5 (.t 2) (.t 16), none, none, [], none⟩,
  ⟨(some 3), .mv (.t 17), none, none, [], none⟩]
def ac_page_Read_3 : AC := .reg l_page_Read_3
def ac_page_Read_4 : AC := .seq ac_page_Read_3 .ret
def ac_page_Read_5 : AC := .cond (.t 15) ac_page_Read_4 .skip
def ac_page_Read_6 : AC := .seq ac_page_Read_2 ac_page_Read_5
def l_page_Read_7 : List AOp := [⟨(some 18), .mv (.t 4), none, none, [], none⟩,
  ⟨(some 19), .lens (.t 18), none, none, [], none⟩,
  ⟨(some 20), .bin .lss (.t 19) (.k (.int .i64 16)), none, none, [], none⟩,
  ⟨(some 21), .mv (.t 20), none, none, [], none⟩,
  ⟨(some 22), .mv (.t 4), (some (21, false)), none, [], none⟩,
  ⟨(some 23), .sstr (.t 22) none (some (.k (.int .i64 2))), (some (21, false)), none, [], none⟩,
  ⟨(some 24), .bin .neq (.t 23) (.k (.str [83, 99])), (some (21, false)), none, [], none⟩,
  ⟨(some 25), .pick (.t 21) (.k (.bool true)) (.t 24), none, none, [], none⟩]
def ac_page_Read_7 : AC := .reg l_page_Read_7
def l_page_Read_8 : List AOp := [⟨(some 26), .build [(.int .i64 0), (.int .i64 0), (.int .i64 0), (.int .i64 0), (.str [])] [], none, none, [], none⟩,
  ⟨none, .store 5 (.t 2) (.t 26), none, none, [], none⟩,
  ⟨(some 3), .mv (.k (.int .i64 3)), none, none, [], none⟩]
def ac_page_Read_8 : AC := .reg l_page_Read_8
def ac_page_Read_9 : AC := .seq ac_page_Read_8 .ret
def ac_page_Read_10 : AC := .cond (.t 25) ac_page_Read_9 .skip
def ac_page_Read_11 : AC := .seq ac_page_Read_7 ac_page_Read_10
def l_page_Read_12 : List AOp := [⟨(some 28), .mv (.t 4), none, none, [], none⟩,
  ⟨(some 29), .sstr (.t 28) (some (.k (.int .i64 2))) none, none, none, [], none⟩,
  ⟨(some 30), .call false 19 [], none, none, [], none⟩,
  ⟨(some 31), .call false 27 [(.t 29), (.t 30)], none, none, [], none⟩,
  ⟨(some 27), .mv (.t 31), none, none, [], none⟩,
  ⟨(some 32), .ext 0 (.t 27), none, none, [], none⟩,
  ⟨(some 33), .ext 1 (.t 27), none, none, [], none⟩,
  ⟨(some 34), .ext 2 (.t 27), none, none, [], none⟩,
  ⟨(some 6), .mv (.t 32), none, none, [], none⟩,
  ⟨(some 7), .mv (.t 33), none, none, [], none⟩,
  ⟨(some 5), .mv (.t 34), none, none, [], none⟩]
def ac_page_Read_12 : AC := .dreg 0 l_page_Read_12
def l_page_Read_13 : List AOp := [⟨(some 35), .mv (.t 5), none, none, [], none⟩,
  ⟨(some 36), .bin .neq (.t 35) (.k (.int .i64 0)), none, none, [], none⟩,
  ⟨(some 37), .mv (.t 36), none, none, [], none⟩,
  ⟨(some 38), .mv (.t 7), (some (37, false)), none, [], none⟩,
  ⟨(some 39), .lens (.t 38), (some (37, false)), none, [], none⟩,
  ⟨(some 40), .conv .u64 (.t 39), (some (37, false)), none, [], none⟩,
  ⟨(some 41), .mv (.t 6), (some (37, false)), none, [], none⟩,
  ⟨(some 42), .isl 1 (.t 41) (.k (.int .i64 4)), (some (37, false)), none, [], none⟩,
  ⟨(some 43), .load none (.t 42), (some (37, false)), none, [], none⟩,
  ⟨(some 44), .bin .neq (.t 40) (.t 43), (some (37, false)), none, [], none⟩,
  ⟨(some 45), .pick (.t 37) (.k (.bool true)) (.t 44), none, none, [], none⟩]
def ac_page_Read_13 : AC := .reg l_page_Read_13
def l_page_Read_14 : List AOp := [⟨(some 46), .build [(.int .i64 0), (.int .i64 0), (.int .i64 0), (.int .i64 0), (.str [])] [], none, none, [], none⟩,
  ⟨none, .store 5 (.t 2) (.t 46), none, none, [], none⟩,
  ⟨(some 3), .mv (.k (.int .i64 3)), none, none, [], none⟩]
def ac_page_Read_14 : AC := .reg l_page_Read_14
def ac_page_Read_15 : AC := .seq ac_page_Read_14 .ret
def ac_page_Read_16 : AC := .cond (.t 45) ac_page_Read_15 .skip
def ac_page_Read_17 : AC := .seq ac_page_Read_13 ac_page_Read_16
def l_page_Read_18 : List AOp := [⟨(some 47), .mv (.t 6), none, none, [], none⟩,
  ⟨(some 48), .isl 1 (.t 47) (.k (.int .i64 0)), none, none, [0], none⟩,
  ⟨(some 49), .load none (.t 48), none, none, [0], none⟩,
  ⟨(some 50), .conv .i64 (.t 49), none, none, [], none⟩,
  ⟨(some 51), .mv (.t 6), none, none, [], none⟩,
  ⟨(some 52), .isl 1 (.t 51) (.k (.int .i64 1)), none, none, [0], none⟩,
  ⟨(some 53), .load none (.t 52), none, none, [0], none⟩,
  ⟨(some 54), .conv .i64 (.t 53), none, none, [], none⟩,
  ⟨(some 55), .mv (.t 6), none, none, [], none⟩,
  ⟨(some 56), .isl 1 (.t 55) (.k (.int .i64 2)), none, none, [0], none⟩,
  ⟨(some 57), .load none (.t 56), none, none, [0], none⟩,
  ⟨(some 58), .conv .i64 (.t 57), none, none, [], none⟩,
  ⟨(some 59), .mv (.t 6), none, none, [], none⟩,
  ⟨(some 60), .isl 1 (.t 59) (.k (.int .i64 3)), none, none, [0], none⟩,
  ⟨(some 61), .load none (.t 60), none, none, [0], none⟩,
  ⟨(some 62), .conv .i64 (.t 61), none, none, [], none⟩,
  ⟨(some 63), .mv (.t 7), none, none, [], none⟩,
  ⟨(some 64), .build [(.int .i64 0), (.int .i64 0), (.int .i64 0), (.int .i64 0), (.str [])] [(0, 1, (.t 50)), (1, 1, (.t 54)), (2, 1, (.t 58)), (3, 1, (.t 62)), (4, 1, (.t 63))], none, none, [], none⟩,
  ⟨(some 8), .alloc [(.int .i64 0), (.int .i64 0), (.int .i64 0), (.int .i64 0), (.str [])], none, (some 0), [], none⟩,
  ⟨none, .store 5 (.t 8) (.t 64), none, none, [], none⟩]
def ac_page_Read_18 : AC := .dreg 1 l_page_Read_18
def l_page_Read_19 : List AOp := [⟨(some 65), .load (some 5) (.t 8), none, none, [], none⟩,
  ⟨(some 66), .call false 17 [(.t 65)], none, none, [], none⟩,
  ⟨(some 67), .un .not (.t 66), none, none, [], none⟩]
def ac_page_Read_19 : AC := .reg l_page_Read_19
def l_page_Read_20 : List AOp := [⟨(some 68), .build [(.int .i64 0), (.int .i64 0), (.int .i64 0), (.int .i64 0), (.str [])] [], none, none, [], none⟩,
  ⟨none, .store 5 (.t 2) (.t 68), none, none, [], none⟩,
  ⟨(some 3), .mv (.k (.int .i64 3)), none, none, [], none⟩]
def ac_page_Read_20 : AC := .reg l_page_Read_20
def ac_page_Read_21 : AC := .seq ac_page_Read_20 .ret
def ac_page_Read_22 : AC := .cond (.t 67) ac_page_Read_21 .skip
def ac_page_Read_23 : AC := .seq ac_page_Read_19 ac_page_Read_22
def l_page_Read_24 : List AOp := [⟨(some 69), .load (some 5) (.t 8), none, none, [], none⟩,
  ⟨none, .store 5 (.t 2) (.t 69), none, none, [], none⟩,
  ⟨(some 3), .mv (.k (.int .i64 0)), none, none, [], none⟩]
def ac_page_Read_24 : AC := .reg l_page_Read_24
def ac_page_Read_25 : AC := .seq ac_page_Read_24 .ret
def ac_page_Read_26 : AC := .seq ac_page_Read_23 ac_page_Read_25
def ac_page_Read_27 : AC := .seq ac_page_Read_18 ac_page_Read_26
def ac_page_Read_28 : AC := .seq ac_page_Read_17 ac_page_Read_27
def ac_page_Read_29 : AC := .seq ac_page_Read_12 ac_page_Read_28
def ac_page_Read_30 : AC := .seq ac_page_Read_11 ac_page_Read_29
def ac_page_Read_31 : AC := .seq ac_page_Read_6 ac_page_Read_30
def ac_page_Read_32 : AC := .seq ac_page_Read_1 ac_page_Read_31
def ac_page_Read_33 : AC := .seq ac_page_Read_0 ac_page_Read_32
def ac_page_Read : AC := ac_page_Read_33
theorem comp_page_Read : compF Tryd.prog [] (drawR Tryd.prog [] Tryd.f14.ntmps) [] 1 Tryd.f14 = some (ac_page_Read, [.c 2 (some 5), .t 3]) := by kernel_rfl
def U_page_Read := (And.intro (And.intro (And.intro (And.intro (And.intro (And.intro @ac_page_Read.eq_1 (@mR _ _ ac_page_Read_0.eq_1)) (@mR _ _ ac_page_Read_1.eq_1)) (And.intro (And.intro (@mR _ _ ac_page_Read_2.eq_1) (@mR _ _ ac_page_Read_3.eq_1)) (@mU _ _ ac_page_Read_4.eq_1))) (And.intro (And.intro (And.intro (@mU _ _ ac_page_Read_5.eq_1) (@mU _ _ ac_page_Read_6.eq_1)) (@mR _ _ ac_page_Read_7.eq_1)) (And.intro (And.intro (@mR _ _ ac_page_Read_8.eq_1) (@mU _ _ ac_page_Read_9.eq_1)) (@mU _ _ ac_page_Read_10.eq_1)))) (And.intro (And.intro (And.intro (And.intro (@mU _ _ ac_page_Read_11.eq_1) (@mD _ _ _ ac_page_Read_12.eq_1)) (@mR _ _ ac_page_Read_13.eq_1)) (And.intro (And.intro (@mR _ _ ac_page_Read_14.eq_1) (@mU _ _ ac_page_Read_15.eq_1)) (@mU _ _ ac_page_Read_16.eq_1))) (And.intro (And.intro (And.intro (@mU _ _ ac_page_Read_17.eq_1) (@mD _ _ _ ac_page_Read_18.eq_1)) (@mR _ _ ac_page_Read_19.eq_1)) (And.intro (And.intro (@mR _ _ ac_page_Read_20.eq_1) (@mU _ _ ac_page_Read_21.eq_1)) (@mU _ _ ac_page_Read_22.eq_1))))) (And.intro (And.intro (And.intro (And.intro (And.intro (@mU _ _ ac_page_Read_23.eq_1) (@mR _ _ ac_page_Read_24.eq_1)) (@mU _ _ ac_page_Read_25.eq_1)) (And.intro (And.intro (@mU _ _ ac_page_Read_26.eq_1) (@mU _ _ ac_page_Read_27.eq_1)) (@mU _ _ ac_page_Read_28.eq_1))) (And.intro (And.intro (And.intro (@mU _ _ ac_page_Read_29.eq_1) (@mU _ _ ac_page_Read_30.eq_1)) (@mU _ _ ac_page_Read_31.eq_1)) (And.intro (And.intro (@mU _ _ ac_page_Read_32.eq_1) (@mU _ _ ac_page_Read_33.eq_1)) @l_page_Read_0.eq_1))) (And.intro (And.intro (And.intro (And.intro @l_page_Read_1.eq_1 @l_page_Read_2.eq_1) @l_page_Read_3.eq_1) (And.intro (And.intro @l_page_Read_7.eq_1 @l_page_Read_8.eq_1) @l_page_Read_12.eq_1)) (And.intro (And.intro (And.intro @l_page_Read_13.eq_1 @l_page_Read_14.eq_1) @l_page_Read_18.eq_1) (And.intro (And.intro @l_page_Read_19.eq_1 @l_page_Read_20.eq_1) @l_page_Read_24.eq_1)))))

/- scoria/page.may -/
def l_page_may_0 : List AOp := [⟨(some 1), .box (.t 0), none, none, [], none⟩,
  ⟨(some 2), .mv (.k (.bool false)), none, none, [], none⟩]
def ac_page_may_0 : AC := .reg l_page_may_0
def l_page_may_1 : List AOp := [⟨(some 3), .faddr 0 (.t 1), none, none, [], none⟩,
  ⟨(some 4), .load none (.t 3), none, none, [], none⟩,
  ⟨(some 5), .bin .geq (.t 4) (.k (.int .i64 1)), none, none, [], none⟩,
  ⟨(some 6), .mv (.t 5), none, none, [], none⟩,
  ⟨(some 7), .faddr 0 (.t 1), (some (6, true)), none, [], none⟩,
  ⟨(some 8), .load none (.t 7), (some (6, true)), none, [], none⟩,
  ⟨(some 9), .bin .leq (.t 8) (.k (.int .i64 4)), (some (6, true)), none, [], none⟩,
  ⟨(some 10), .pick (.t 6) (.t 9) (.k (.bool false)), none, none, [], none⟩,
  ⟨(some 11), .mv (.t 10), none, none, [], none⟩,
  ⟨(some 12), .faddr 1 (.t 1), (some (11, true)), none, [], none⟩,
  ⟨(some 13), .load none (.t 12), (some (11, true)), none, [], none⟩,
  ⟨(some 14), .call false 30 [(.t 13), (.k (.int .i64 65535))], (some (11, true)), none, [], none⟩,
  ⟨(some 15), .pick (.t 11) (.t 14) (.k (.bool false)), none, none, [], none⟩,
  ⟨(some 16), .mv (.t 15), none, none, [], none⟩,
  ⟨(some 17), .faddr 2 (.t 1), (some (16, true)), none, [], none⟩,
  ⟨(some 18), .load none (.t 17), (some (16, true)), none, [], none⟩,
  ⟨(some 19), .call false 30 [(.t 18), (.k (.int .i64 4294967295))], (some (16, true)), none, [], none⟩,
  ⟨(some 20), .pick (.t 16) (.t 19) (.k (.bool false)), none, none, [], none⟩,
  ⟨(some 21), .mv (.t 20), none, none, [], none⟩,
  ⟨(some 22), .faddr 3 (.t 1), (some (21, true)), none, [], none⟩,
  ⟨(some 23), .load none (.t 22), (some (21, true)), none, [], none⟩,
  ⟨(some 24), .call false 30 [(.t 23), (.k (.int .i64 281474976710655))], (some (21, true)), none, [], none⟩,
  ⟨(some 25), .pick (.t 21) (.t 24) (.k (.bool false)), none, none, [], none⟩,
  ⟨(some 26), .mv (.t 25), none, none, [], none⟩,
  ⟨(some 27), .faddr 4 (.t 1), (some (26, true)), none, [], none⟩,
  ⟨(some 28), .load none (.t 27), (some (26, true)), none, [], none⟩,
  ⟨(some 29), .lens (.t 28), (some (26, true)), none, [], none⟩,
  ⟨(some 30), .bin .leq (.t 29) (.k (.int .i64 100)), (some (26, true)), none, [], none⟩,
  ⟨(some 31), .pick (.t 26) (.t 30) (.k (.bool false)), none, none, [], none⟩,
  ⟨(some 2), .mv (.t 31), none, none, [], none⟩]
def ac_page_may_1 : AC := .reg l_page_may_1
def ac_page_may_2 : AC := .seq ac_page_may_1 .ret
def ac_page_may_3 : AC := .seq ac_page_may_0 ac_page_may_2
def ac_page_may : AC := ac_page_may_3
theorem comp_page_may : compF Tryd.prog [] (drawR Tryd.prog [] Tryd.f17.ntmps) [] 1 Tryd.f17 = some (ac_page_may, [.t 2]) := by kernel_rfl
def U_page_may := (And.intro (And.intro (And.intro @ac_page_may.eq_1 (@mR _ _ ac_page_may_0.eq_1)) (And.intro (@mR _ _ ac_page_may_1.eq_1) (@mU _ _ ac_page_may_2.eq_1))) (And.intro (And.intro (@mU _ _ ac_page_may_3.eq_1) @l_page_may_0.eq_1) @l_page_may_1.eq_1))

/- scoria/field.Row -/
def l_field_Row_0 : List AOp := [⟨(some 4), .mv (.k (.str [])), none, none, [], none⟩,
  ⟨(some 5), .mv (.k (.int .i64 0)), none, none, [], none⟩]
def ac_field_Row_0 : AC := .reg l_field_Row_0
def l_field_Row_1 : List AOp := [⟨(some 9), .mv (.t 0), none, none, [], none⟩,
  ⟨(some 10), .len (.t 9), none, none, [], none⟩,
  ⟨(some 11), .mv (.t 1), none, none, [], none⟩,
  ⟨(some 12), .len (.t 11), none, none, [], none⟩,
  ⟨(some 13), .bin .neq (.t 10) (.t 12), none, none, [], none⟩,
  ⟨(some 14), .mv (.t 13), none, none, [], none⟩,
  ⟨(some 15), .mv (.t 1), (some (14, false)), none, [], none⟩,
  ⟨(some 16), .call false 31 [(.t 15), (.k (.fn (.func 32) [] []))], (some (14, false)), none, [], none⟩,
  ⟨(some 17), .pick (.t 14) (.k (.bool true)) (.t 16), none, none, [], none⟩]
def ac_field_Row_1 : AC := .reg l_field_Row_1
def l_field_Row_2 : List AOp := [⟨(some 4), .mv (.k (.str [])), none, none, [], none⟩,
  ⟨(some 5), .mv (.k (.int .i64 1)), none, none, [], none⟩]
def ac_field_Row_2 : AC := .reg l_field_Row_2
def ac_field_Row_3 : AC := .seq ac_field_Row_2 .ret
def ac_field_Row_4 : AC := .cond (.t 17) ac_field_Row_3 .skip
def ac_field_Row_5 : AC := .seq ac_field_Row_1 ac_field_Row_4
def l_field_Row_6 : List AOp := [⟨(some 6), .balloc 76 5, none, none, [], none⟩]
def ac_field_Row_6 : AC := .reg l_field_Row_6
def l_field_Row_7 : List AOp := [⟨(some 18), .mv (.t 0), none, none, [], none⟩,
  ⟨(some 19), .len (.t 18), none, none, [], none⟩,
  ⟨(some 20), .mv (.k (.int .i64 0)), none, none, [], none⟩]
def ac_field_Row_7 : AC := .reg l_field_Row_7
def l_field_Row_8 : List AOp := [⟨(some 21), .bin .lss (.t 20) (.t 19), none, none, [], none⟩]
def ac_field_Row_8 : AC := .reg l_field_Row_8
def ac_field_Row_9 : AC := .cond (.t 21) .skip (.exit 0)
def l_field_Row_10 : List AOp := [⟨(some 22), .mv (.t 20), none, none, [], none⟩,
  ⟨(some 23), .isl 1 (.t 18) (.t 20), none, none, [], none⟩,
  ⟨(some 24), .load none (.t 23), none, none, [], none⟩,
  ⟨(some 7), .mv (.t 22), none, none, [], none⟩,
  ⟨(some 8), .mv (.t 24), none, none, [], none⟩]
def ac_field_Row_10 : AC := .reg l_field_Row_10
def l_field_Row_11 : List AOp := [⟨(some 25), .mv (.t 8), none, none, [], none⟩,
  ⟨(some 26), .mv (.t 1), none, none, [], none⟩,
  ⟨(some 27), .mv (.t 7), none, none, [], none⟩,
  ⟨(some 28), .isl 1 (.t 26) (.t 27), none, none, [], none⟩,
  ⟨(some 29), .load none (.t 28), none, none, [], none⟩,
  ⟨(some 30), .call false 33 [(.t 25), (.t 29)], none, none, [], none⟩,
  ⟨(some 31), .un .not (.t 30), none, none, [], none⟩]
def ac_field_Row_11 : AC := .reg l_field_Row_11
def l_field_Row_12 : List AOp := [⟨(some 4), .mv (.k (.str [])), none, none, [], none⟩,
  ⟨(some 5), .mv (.k (.int .i64 2)), none, none, [], none⟩]
def ac_field_Row_12 : AC := .reg l_field_Row_12
def ac_field_Row_13 : AC := .seq ac_field_Row_12 .ret
def ac_field_Row_14 : AC := .cond (.t 31) ac_field_Row_13 .skip
def ac_field_Row_15 : AC := .seq ac_field_Row_11 ac_field_Row_14
def l_field_Row_16 : List AOp := [⟨(some 32), .mv (.t 8), none, none, [], none⟩,
  ⟨(some 33), .mv (.t 1), none, none, [], none⟩,
  ⟨(some 34), .mv (.t 7), none, none, [], none⟩,
  ⟨(some 35), .isl 1 (.t 33) (.t 34), none, none, [], none⟩,
  ⟨(some 36), .load none (.t 35), none, none, [], none⟩,
  ⟨(some 37), .call false 35 [(.t 32), (.t 36)], none, none, [], none⟩,
  ⟨(some 38), .icall 34 [(.t 6), (.t 37)], none, none, [], none⟩]
def ac_field_Row_16 : AC := .reg l_field_Row_16
def ac_field_Row_17 : AC := .seq ac_field_Row_15 ac_field_Row_16
def ac_field_Row_18 : AC := .seq ac_field_Row_10 ac_field_Row_17
def ac_field_Row_19 : AC := .block 1 ac_field_Row_18
def l_field_Row_20 : List AOp := [⟨(some 39), .bin .add (.t 20) (.k (.int .i64 1)), none, none, [], none⟩,
  ⟨(some 20), .mv (.t 39), none, none, [], none⟩]
def ac_field_Row_20 : AC := .reg l_field_Row_20
def ac_field_Row_21 : AC := .seq ac_field_Row_19 ac_field_Row_20
def ac_field_Row_22 : AC := .seq ac_field_Row_9 ac_field_Row_21
def ac_field_Row_23 : AC := .seq ac_field_Row_8 ac_field_Row_22
def ac_field_Row_24 : AC := .loop [1, 6, 18, 19, 20] 2 ac_field_Row_23
def ac_field_Row_25 : AC := .block 0 ac_field_Row_24
def ac_field_Row_26 : AC := .seq ac_field_Row_7 ac_field_Row_25
def l_field_Row_27 : List AOp := [⟨(some 40), .icall 36 [(.t 6)], none, none, [], none⟩,
  ⟨(some 4), .mv (.t 40), none, none, [], none⟩,
  ⟨(some 5), .mv (.k (.int .i64 0)), none, none, [], none⟩]
def ac_field_Row_27 : AC := .reg l_field_Row_27
def ac_field_Row_28 : AC := .seq ac_field_Row_27 .ret
def ac_field_Row_29 : AC := .seq ac_field_Row_26 ac_field_Row_28
def ac_field_Row_30 : AC := .seq ac_field_Row_6 ac_field_Row_29
def ac_field_Row_31 : AC := .seq ac_field_Row_5 ac_field_Row_30
def ac_field_Row_32 : AC := .seq ac_field_Row_0 ac_field_Row_31
def ac_field_Row : AC := ac_field_Row_32
theorem comp_field_Row : compF Tryd.prog [6, 1000034, 1000036] (drawR Tryd.prog [6, 1000034, 1000036] Tryd.f18.ntmps) [([1, 6, 18, 19, 20], 2)] 2 Tryd.f18 = some (ac_field_Row, [.t 4, .t 5]) := by kernel_rfl
def U_field_Row := (And.intro (And.intro (And.intro (And.intro (And.intro (And.intro @ac_field_Row.eq_1 (@mR _ _ ac_field_Row_0.eq_1)) (@mR _ _ ac_field_Row_1.eq_1)) (And.intro (And.intro (@mR _ _ ac_field_Row_2.eq_1) (@mU _ _ ac_field_Row_3.eq_1)) (@mU _ _ ac_field_Row_4.eq_1))) (And.intro (And.intro (And.intro (@mU _ _ ac_field_Row_5.eq_1) (@mR _ _ ac_field_Row_6.eq_1)) (@mR _ _ ac_field_Row_7.eq_1)) (And.intro (And.intro (@mR _ _ ac_field_Row_8.eq_1) (@mU _ _ ac_field_Row_9.eq_1)) (@mR _ _ ac_field_Row_10.eq_1)))) (And.intro (And.intro (And.intro (And.intro (@mR _ _ ac_field_Row_11.eq_1) (@mR _ _ ac_field_Row_12.eq_1)) (@mU _ _ ac_field_Row_13.eq_1)) (And.intro (And.intro (@mU _ _ ac_field_Row_14.eq_1) (@mU _ _ ac_field_Row_15.eq_1)) (@mR _ _ ac_field_Row_16.eq_1))) (And.intro (And.intro (And.intro (@mU _ _ ac_field_Row_17.eq_1) (@mU _ _ ac_field_Row_18.eq_1)) (@mU _ _ ac_field_Row_19.eq_1)) (And.intro (@mR _ _ ac_field_Row_20.eq_1) (@mU _ _ ac_field_Row_21.eq_1))))) (And.intro (And.intro (And.intro (And.intro (And.intro (@mU _ _ ac_field_Row_22.eq_1) (@mU _ _ ac_field_Row_23.eq_1)) (@mU _ _ ac_field_Row_24.eq_1)) (And.intro (And.intro (@mU _ _ ac_field_Row_25.eq_1) (@mU _ _ ac_field_Row_26.eq_1)) (@mR _ _ ac_field_Row_27.eq_1))) (And.intro (And.intro (And.intro (@mU _ _ ac_field_Row_28.eq_1) (@mU _ _ ac_field_Row_29.eq_1)) (@mU _ _ ac_field_Row_30.eq_1)) (And.intro (And.intro (@mU _ _ ac_field_Row_31.eq_1) (@mU _ _ ac_field_Row_32.eq_1)) @l_field_Row_0.eq_1))) (And.intro (And.intro (And.intro (And.intro @l_field_Row_1.eq_1 @l_field_Row_2.eq_1) @l_field_Row_6.eq_1) (And.intro (And.intro @l_field_Row_7.eq_1 @l_field_Row_8.eq_1) @l_field_Row_10.eq_1)) (And.intro (And.intro (And.intro @l_field_Row_11.eq_1 @l_field_Row_12.eq_1) @l_field_Row_16.eq_1) (And.intro @l_field_Row_20.eq_1 @l_field_Row_27.eq_1)))))

/- scoria/page.widths -/
def l_page_widths_0 : List AOp := [⟨(some 0), .mv (.k (.slc [])), none, none, [], none⟩]
def ac_page_widths_0 : AC := .reg l_page_widths_0
def l_page_widths_1 : List AOp := [⟨(some 1), .blds false [(.int .i64 0)] 5 [(0, (.k (.int .i64 1))), (1, (.k (.int .i64 2))), (2, (.k (.int .i64 4))), (3, (.k (.int .i64 6))), (4, (.k (.int .i64 1)))], none, none, [], none⟩,
  ⟨(some 0), .mv (.t 1), none, none, [], none⟩]
def ac_page_widths_1 : AC := .reg l_page_widths_1
def ac_page_widths_2 : AC := .seq ac_page_widths_1 .ret
def ac_page_widths_3 : AC := .seq ac_page_widths_0 ac_page_widths_2
def ac_page_widths : AC := ac_page_widths_3
theorem comp_page_widths : compF Tryd.prog [] (drawR Tryd.prog [] Tryd.f19.ntmps) [] 0 Tryd.f19 = some (ac_page_widths, [.t 0]) := by kernel_rfl
def U_page_widths := (And.intro (And.intro (And.intro @ac_page_widths.eq_1 (@mR _ _ ac_page_widths_0.eq_1)) (And.intro (@mR _ _ ac_page_widths_1.eq_1) (@mU _ _ ac_page_widths_2.eq_1))) (And.intro (And.intro (@mU _ _ ac_page_widths_3.eq_1) @l_page_widths_0.eq_1) @l_page_widths_1.eq_1))

/- scoria/check.Seal -/
def l_check_Seal_0 : List AOp := [⟨(some 2), .mv (.k (.str [])), none, none, [], none⟩]
def ac_check_Seal_0 : AC := .reg l_check_Seal_0
def l_check_Seal_1 : List AOp := [⟨(some 4), .mv (.t 0), none, none, [], none⟩,
  ⟨(some 5), .call false 37 [(.t 4)], none, none, [], none⟩,
  ⟨(some 3), .mv (.t 5), none, none, [], none⟩]
def ac_check_Seal_1 : AC := .reg l_check_Seal_1
def l_check_Seal_2 : List AOp := [⟨(some 6), .mv (.t 0), none, none, [], none⟩,
  ⟨(some 7), .mv (.t 3), none, none, [], none⟩,
  ⟨(some 8), .bin .shr (.t 7) (.k (.int .u64 24)), none, none, [], none⟩,
  ⟨(some 9), .conv .u8 (.t 8), none, none, [], none⟩,
  ⟨(some 10), .mv (.t 3), none, none, [], none⟩,
  ⟨(some 11), .bin .shr (.t 10) (.k (.int .u64 16)), none, none, [], none⟩,
  ⟨(some 12), .conv .u8 (.t 11), none, none, [], none⟩,
  ⟨(some 13), .mv (.t 3), none, none, [], none⟩,
  ⟨(some 14), .bin .shr (.t 13) (.k (.int .u64 8)), none, none, [], none⟩,
  ⟨(some 15), .conv .u8 (.t 14), none, none, [], none⟩,
  ⟨(some 16), .mv (.t 3), none, none, [], none⟩,
  ⟨(some 17), .conv .u8 (.t 16), none, none, [], none⟩,
  ⟨(some 18), .blds false [(.int .u8 0)] 4 [(0, (.t 9)), (1, (.t 12)), (2, (.t 15)), (3, (.t 17))], none, none, [], none⟩,
  ⟨(some 19), .b2s (.t 18), none, none, [], none⟩,
  ⟨(some 20), .bin .add (.t 6) (.t 19), none, none, [], none⟩,
  ⟨(some 2), .mv (.t 20), none, none, [], none⟩]
def ac_check_Seal_2 : AC := .reg l_check_Seal_2
def ac_check_Seal_3 : AC := .seq ac_check_Seal_2 .ret
def ac_check_Seal_4 : AC := .seq ac_check_Seal_1 ac_check_Seal_3
def ac_check_Seal_5 : AC := .seq ac_check_Seal_0 ac_check_Seal_4
def ac_check_Seal : AC := ac_check_Seal_5
theorem comp_check_Seal : compF Tryd.prog [] (drawR Tryd.prog [] Tryd.f20.ntmps) [] 1 Tryd.f20 = some (ac_check_Seal, [.t 2]) := by kernel_rfl
def U_check_Seal := (And.intro (And.intro (And.intro (And.intro @ac_check_Seal.eq_1 (@mR _ _ ac_check_Seal_0.eq_1)) (@mR _ _ ac_check_Seal_1.eq_1)) (And.intro (@mR _ _ ac_check_Seal_2.eq_1) (@mU _ _ ac_check_Seal_3.eq_1))) (And.intro (And.intro (And.intro (@mU _ _ ac_check_Seal_4.eq_1) (@mU _ _ ac_check_Seal_5.eq_1)) @l_check_Seal_0.eq_1) (And.intro @l_check_Seal_1.eq_1 @l_check_Seal_2.eq_1)))

/- scoria/check.Open -/
def l_check_Open_0 : List AOp := [⟨(some 2), .mv (.k (.str [])), none, none, [], none⟩,
  ⟨(some 3), .mv (.k (.int .i64 0)), none, none, [], none⟩]
def ac_check_Open_0 : AC := .reg l_check_Open_0
def l_check_Open_1 : List AOp := [⟨(some 5), .mv (.t 0), none, none, [], none⟩,
  ⟨(some 6), .lens (.t 5), none, none, [], none⟩,
  ⟨(some 7), .bin .sub (.t 6) (.k (.int .i64 4)), none, none, [], none⟩,
  ⟨(some 4), .mv (.t 7), none, none, [], none⟩]
def ac_check_Open_1 : AC := .reg l_check_Open_1
def l_check_Open_2 : List AOp := [⟨(some 9), .mv (.t 4), none, none, [], none⟩,
  ⟨(some 10), .bin .lss (.t 9) (.k (.int .i64 0)), none, none, [], none⟩,
  ⟨(some 8), .mv (.t 10), none, none, [], none⟩]
def ac_check_Open_2 : AC := .reg l_check_Open_2
def l_check_Open_3 : List AOp := [⟨(some 2), .mv (.k (.str [])), none, none, [], none⟩,
  ⟨(some 3), .mv (.k (.int .i64 5)), none, none, [], none⟩]
def ac_check_Open_3 : AC := .reg l_check_Open_3
def ac_check_Open_4 : AC := .seq ac_check_Open_3 .ret
def l_check_Open_5 : List AOp := [⟨(some 12), .mv (.t 0), none, none, [], none⟩,
  ⟨(some 13), .mv (.t 4), none, none, [], none⟩,
  ⟨(some 14), .sstr (.t 12) none (some (.t 13)), none, none, [], none⟩,
  ⟨(some 15), .call false 20 [(.t 14)], none, none, [], none⟩,
  ⟨(some 16), .mv (.t 0), none, none, [], none⟩,
  ⟨(some 17), .bin .neq (.t 15) (.t 16), none, none, [], none⟩,
  ⟨(some 11), .mv (.t 17), none, none, [], none⟩]
def ac_check_Open_5 : AC := .reg l_check_Open_5
def l_check_Open_6 : List AOp := [⟨(some 2), .mv (.k (.str [])), none, none, [], none⟩,
  ⟨(some 3), .mv (.k (.int .i64 6)), none, none, [], none⟩]
def ac_check_Open_6 : AC := .reg l_check_Open_6
def ac_check_Open_7 : AC := .seq ac_check_Open_6 .ret
def ac_check_Open_8 : AC := .cond (.t 11) ac_check_Open_7 .skip
def ac_check_Open_9 : AC := .seq ac_check_Open_5 ac_check_Open_8
def ac_check_Open_10 : AC := .cond (.t 8) ac_check_Open_4 ac_check_Open_9
def ac_check_Open_11 : AC := .seq ac_check_Open_2 ac_check_Open_10
def ac_check_Open_12 : AC := .block 0 ac_check_Open_11
def l_check_Open_13 : List AOp := [⟨(some 18), .mv (.t 0), none, none, [], none⟩,
  ⟨(some 19), .mv (.t 4), none, none, [], none⟩,
  ⟨(some 20), .sstr (.t 18) none (some (.t 19)), none, none, [], none⟩,
  ⟨(some 2), .mv (.t 20), none, none, [], none⟩,
  ⟨(some 3), .mv (.k (.int .i64 0)), none, none, [], none⟩]
def ac_check_Open_13 : AC := .reg l_check_Open_13
def ac_check_Open_14 : AC := .seq ac_check_Open_13 .ret
def ac_check_Open_15 : AC := .seq ac_check_Open_12 ac_check_Open_14
def ac_check_Open_16 : AC := .seq ac_check_Open_1 ac_check_Open_15
def ac_check_Open_17 : AC := .seq ac_check_Open_0 ac_check_Open_16
def ac_check_Open : AC := ac_check_Open_17
theorem comp_check_Open : compF Tryd.prog [] (drawR Tryd.prog [] Tryd.f26.ntmps) [] 1 Tryd.f26 = some (ac_check_Open, [.t 2, .t 3]) := by kernel_rfl
def U_check_Open := (And.intro (And.intro (And.intro (And.intro (And.intro @ac_check_Open.eq_1 (@mR _ _ ac_check_Open_0.eq_1)) (And.intro (@mR _ _ ac_check_Open_1.eq_1) (@mR _ _ ac_check_Open_2.eq_1))) (And.intro (And.intro (@mR _ _ ac_check_Open_3.eq_1) (@mU _ _ ac_check_Open_4.eq_1)) (@mR _ _ ac_check_Open_5.eq_1))) (And.intro (And.intro (And.intro (@mR _ _ ac_check_Open_6.eq_1) (@mU _ _ ac_check_Open_7.eq_1)) (@mU _ _ ac_check_Open_8.eq_1)) (And.intro (And.intro (@mU _ _ ac_check_Open_9.eq_1) (@mU _ _ ac_check_Open_10.eq_1)) (@mU _ _ ac_check_Open_11.eq_1)))) (And.intro (And.intro (And.intro (And.intro (@mU _ _ ac_check_Open_12.eq_1) (@mR _ _ ac_check_Open_13.eq_1)) (And.intro (@mU _ _ ac_check_Open_14.eq_1) (@mU _ _ ac_check_Open_15.eq_1))) (And.intro (And.intro (@mU _ _ ac_check_Open_16.eq_1) (@mU _ _ ac_check_Open_17.eq_1)) @l_check_Open_0.eq_1)) (And.intro (And.intro (And.intro @l_check_Open_1.eq_1 @l_check_Open_2.eq_1) @l_check_Open_3.eq_1) (And.intro (And.intro @l_check_Open_5.eq_1 @l_check_Open_6.eq_1) @l_check_Open_13.eq_1))))

/- scoria/field.Take -/
def l_field_Take_0 : List AOp := [⟨(some 4), .nilown 1, none, none, [], none⟩,
  ⟨(some 5), .mv (.k (.str [])), none, none, [], none⟩,
  ⟨(some 6), .mv (.k (.int .i64 0)), none, none, [], none⟩]
def ac_field_Take_0 : AC := .reg l_field_Take_0
def l_field_Take_1 : List AOp := [⟨(some 12), .mv (.t 1), none, none, [], none⟩,
  ⟨(some 13), .call false 31 [(.t 12), (.k (.fn (.func 32) [] []))], none, none, [], none⟩]
def ac_field_Take_1 : AC := .reg l_field_Take_1
def l_field_Take_2 : List AOp := [⟨(some 4), .nilown 1, none, none, [], none⟩,
  ⟨(some 5), .mv (.k (.str [])), none, none, [], none⟩,
  ⟨(some 6), .mv (.k (.int .i64 1)), none, none, [], none⟩]
def ac_field_Take_2 : AC := .reg l_field_Take_2
def ac_field_Take_3 : AC := .seq ac_field_Take_2 .ret
def ac_field_Take_4 : AC := .cond (.t 13) ac_field_Take_3 .skip
def ac_field_Take_5 : AC := .seq ac_field_Take_1 ac_field_Take_4
def l_field_Take_6 : List AOp := [⟨(some 7), .mv (.k (.int .i64 0)), none, none, [], none⟩]
def ac_field_Take_6 : AC := .reg l_field_Take_6
def l_field_Take_7 : List AOp := [⟨(some 14), .mv (.t 1), none, none, [], none⟩,
  ⟨(some 15), .len (.t 14), none, none, [], none⟩,
  ⟨(some 16), .mv (.k (.int .i64 0)), none, none, [], none⟩]
def ac_field_Take_7 : AC := .reg l_field_Take_7
def l_field_Take_8 : List AOp := [⟨(some 17), .bin .lss (.t 16) (.t 15), none, none, [], none⟩]
def ac_field_Take_8 : AC := .reg l_field_Take_8
def ac_field_Take_9 : AC := .cond (.t 17) .skip (.exit 0)
def l_field_Take_10 : List AOp := [⟨(some 18), .isl 1 (.t 14) (.t 16), none, none, [], none⟩,
  ⟨(some 19), .load none (.t 18), none, none, [], none⟩,
  ⟨(some 9), .mv (.t 19), none, none, [], none⟩]
def ac_field_Take_10 : AC := .reg l_field_Take_10
def l_field_Take_11 : List AOp := [⟨(some 21), .mv (.t 0), none, none, [], none⟩,
  ⟨(some 22), .mv (.t 7), none, none, [], none⟩,
  ⟨(some 23), .mv (.t 9), none, none, [], none⟩,
  ⟨(some 24), .call false 48 [(.t 21), (.t 22), (.t 23)], none, none, [], none⟩,
  ⟨(some 20), .mv (.t 24), none, none, [], none⟩,
  ⟨(some 25), .ext 0 (.t 20), none, none, [], none⟩,
  ⟨(some 26), .ext 1 (.t 20), none, none, [], none⟩,
  ⟨(some 10), .mv (.t 25), none, none, [], none⟩,
  ⟨(some 11), .mv (.t 26), none, none, [], none⟩]
def ac_field_Take_11 : AC := .reg l_field_Take_11
def l_field_Take_12 : List AOp := [⟨(some 27), .mv (.t 11), none, none, [], none⟩,
  ⟨(some 28), .bin .neq (.t 27) (.k (.int .i64 0)), none, none, [], none⟩]
def ac_field_Take_12 : AC := .reg l_field_Take_12
def l_field_Take_13 : List AOp := [⟨(some 29), .mv (.t 11), none, none, [], none⟩,
  ⟨(some 4), .nilown 1, none, none, [], none⟩,
  ⟨(some 5), .mv (.k (.str [])), none, none, [], none⟩,
  ⟨(some 6), .mv (.t 29), none, none, [], none⟩]
def ac_field_Take_13 : AC := .reg l_field_Take_13
def ac_field_Take_14 : AC := .seq ac_field_Take_13 .ret
def ac_field_Take_15 : AC := .cond (.t 28) ac_field_Take_14 .skip
def ac_field_Take_16 : AC := .seq ac_field_Take_12 ac_field_Take_15
def l_field_Take_17 : List AOp := [⟨(some 30), .mv (.t 4), none, none, [], none⟩,
  ⟨(some 31), .mv (.t 10), none, none, [], none⟩,
  ⟨(some 32), .blds false [(.int .u64 0)] 1 [(0, (.t 31))], none, none, [], none⟩,
  ⟨(some 33), .app 1 8 [(.int .u64 0)] (.t 30) (.t 32), none, none, [], none⟩,
  ⟨(some 4), .mv (.t 33), none, none, [], none⟩]
def ac_field_Take_17 : AC := .reg l_field_Take_17
def l_field_Take_18 : List AOp := [⟨(some 34), .mv (.t 7), none, none, [], none⟩,
  ⟨(some 35), .mv (.t 9), none, none, [], none⟩,
  ⟨(some 36), .bin .add (.t 34) (.t 35), none, none, [], none⟩,
  ⟨(some 7), .mv (.t 36), none, none, [], none⟩]
def ac_field_Take_18 : AC := .reg l_field_Take_18
def ac_field_Take_19 : AC := .seq ac_field_Take_17 ac_field_Take_18
def ac_field_Take_20 : AC := .seq ac_field_Take_16 ac_field_Take_19
def ac_field_Take_21 : AC := .seq ac_field_Take_11 ac_field_Take_20
def ac_field_Take_22 : AC := .seq ac_field_Take_10 ac_field_Take_21
def ac_field_Take_23 : AC := .block 1 ac_field_Take_22
def l_field_Take_24 : List AOp := [⟨(some 37), .bin .add (.t 16) (.k (.int .i64 1)), none, none, [], none⟩,
  ⟨(some 16), .mv (.t 37), none, none, [], none⟩]
def ac_field_Take_24 : AC := .reg l_field_Take_24
def ac_field_Take_25 : AC := .seq ac_field_Take_23 ac_field_Take_24
def ac_field_Take_26 : AC := .seq ac_field_Take_9 ac_field_Take_25
def ac_field_Take_27 : AC := .seq ac_field_Take_8 ac_field_Take_26
def ac_field_Take_28 : AC := .loop [0, 4, 7, 14, 15, 16] 1 ac_field_Take_27
def ac_field_Take_29 : AC := .block 0 ac_field_Take_28
def ac_field_Take_30 : AC := .seq ac_field_Take_7 ac_field_Take_29
def l_field_Take_31 : List AOp := [⟨(some 38), .mv (.t 4), none, none, [], none⟩,
  ⟨(some 39), .mv (.t 0), none, none, [], none⟩,
  ⟨(some 40), .mv (.t 7), none, none, [], none⟩,
  ⟨(some 41), .sstr (.t 39) (some (.t 40)) none, none, none, [], none⟩,
  ⟨(some 4), .mv (.t 38), none, none, [], none⟩,
  ⟨(some 5), .mv (.t 41), none, none, [], none⟩,
  ⟨(some 6), .mv (.k (.int .i64 0)), none, none, [], none⟩]
def ac_field_Take_31 : AC := .dreg 0 l_field_Take_31
def ac_field_Take_32 : AC := .seq ac_field_Take_31 .ret
def ac_field_Take_33 : AC := .seq ac_field_Take_30 ac_field_Take_32
def ac_field_Take_34 : AC := .seq ac_field_Take_6 ac_field_Take_33
def ac_field_Take_35 : AC := .seq ac_field_Take_5 ac_field_Take_34
def ac_field_Take_36 : AC := .seq ac_field_Take_0 ac_field_Take_35
def ac_field_Take : AC := ac_field_Take_36
theorem comp_field_Take : compF Tryd.prog [4] (drawR Tryd.prog [4] Tryd.f27.ntmps) [([0, 4, 7, 14, 15, 16], 1)] 2 Tryd.f27 = some (ac_field_Take, [.t 4, .t 5, .t 6]) := by kernel_rfl
def U_field_Take := (And.intro (And.intro (And.intro (And.intro (And.intro (And.intro @ac_field_Take.eq_1 (@mR _ _ ac_field_Take_0.eq_1)) (And.intro (@mR _ _ ac_field_Take_1.eq_1) (@mR _ _ ac_field_Take_2.eq_1))) (And.intro (And.intro (@mU _ _ ac_field_Take_3.eq_1) (@mU _ _ ac_field_Take_4.eq_1)) (@mU _ _ ac_field_Take_5.eq_1))) (And.intro (And.intro (And.intro (@mR _ _ ac_field_Take_6.eq_1) (@mR _ _ ac_field_Take_7.eq_1)) (@mR _ _ ac_field_Take_8.eq_1)) (And.intro (And.intro (@mU _ _ ac_field_Take_9.eq_1) (@mR _ _ ac_field_Take_10.eq_1)) (@mR _ _ ac_field_Take_11.eq_1)))) (And.intro (And.intro (And.intro (And.intro (@mR _ _ ac_field_Take_12.eq_1) (@mR _ _ ac_field_Take_13.eq_1)) (And.intro (@mU _ _ ac_field_Take_14.eq_1) (@mU _ _ ac_field_Take_15.eq_1))) (And.intro (And.intro (@mU _ _ ac_field_Take_16.eq_1) (@mR _ _ ac_field_Take_17.eq_1)) (@mR _ _ ac_field_Take_18.eq_1))) (And.intro (And.intro (And.intro (@mU _ _ ac_field_Take_19.eq_1) (@mU _ _ ac_field_Take_20.eq_1)) (@mU _ _ ac_field_Take_21.eq_1)) (And.intro (And.intro (@mU _ _ ac_field_Take_22.eq_1) (@mU _ _ ac_field_Take_23.eq_1)) (@mR _ _ ac_field_Take_24.eq_1))))) (And.intro (And.intro (And.intro (And.intro (And.intro (@mU _ _ ac_field_Take_25.eq_1) (@mU _ _ ac_field_Take_26.eq_1)) (And.intro (@mU _ _ ac_field_Take_27.eq_1) (@mU _ _ ac_field_Take_28.eq_1))) (And.intro (And.intro (@mU _ _ ac_field_Take_29.eq_1) (@mU _ _ ac_field_Take_30.eq_1)) (@mD _ _ _ ac_field_Take_31.eq_1))) (And.intro (And.intro (And.intro (@mU _ _ ac_field_Take_32.eq_1) (@mU _ _ ac_field_Take_33.eq_1)) (@mU _ _ ac_field_Take_34.eq_1)) (And.intro (And.intro (@mU _ _ ac_field_Take_35.eq_1) (@mU _ _ ac_field_Take_36.eq_1)) @l_field_Take_0.eq_1))) (And.intro (And.intro (And.intro (And.intro @l_field_Take_1.eq_1 @l_field_Take_2.eq_1) (And.intro @l_field_Take_6.eq_1 @l_field_Take_7.eq_1)) (And.intro (And.intro @l_field_Take_8.eq_1 @l_field_Take_10.eq_1) @l_field_Take_11.eq_1)) (And.intro (And.intro (And.intro @l_field_Take_12.eq_1 @l_field_Take_13.eq_1) @l_field_Take_17.eq_1) (And.intro (And.intro @l_field_Take_18.eq_1 @l_field_Take_24.eq_1) @l_field_Take_31.eq_1)))))

/- scoria/page.in -/
def l_page_in_0 : List AOp := [⟨(some 4), .mv (.k (.bool false)), none, none, [], none⟩]
def ac_page_in_0 : AC := .reg l_page_in_0
def l_page_in_1 : List AOp := [⟨(some 5), .mv (.t 0), none, none, [], none⟩,
  ⟨(some 6), .bin .geq (.t 5) (.k (.int .i64 0)), none, none, [], none⟩,
  ⟨(some 7), .mv (.t 6), none, none, [], none⟩,
  ⟨(some 8), .mv (.t 0), (some (7, true)), none, [], none⟩,
  ⟨(some 9), .mv (.t 1), (some (7, true)), none, [], none⟩,
  ⟨(some 10), .bin .leq (.t 8) (.t 9), (some (7, true)), none, [], none⟩,
  ⟨(some 11), .pick (.t 7) (.t 10) (.k (.bool false)), none, none, [], none⟩,
  ⟨(some 4), .mv (.t 11), none, none, [], none⟩]
def ac_page_in_1 : AC := .reg l_page_in_1
def ac_page_in_2 : AC := .seq ac_page_in_1 .ret
def ac_page_in_3 : AC := .seq ac_page_in_0 ac_page_in_2
def ac_page_in : AC := ac_page_in_3
theorem comp_page_in : compF Tryd.prog [] (drawR Tryd.prog [] Tryd.f30.ntmps) [] 2 Tryd.f30 = some (ac_page_in, [.t 4]) := by kernel_rfl
def U_page_in := (And.intro (And.intro (And.intro @ac_page_in.eq_1 (@mR _ _ ac_page_in_0.eq_1)) (And.intro (@mR _ _ ac_page_in_1.eq_1) (@mU _ _ ac_page_in_2.eq_1))) (And.intro (And.intro (@mU _ _ ac_page_in_3.eq_1) @l_page_in_0.eq_1) @l_page_in_1.eq_1))

/- slices.ContainsFunc[[]int,int] -/
def l_slices_ContainsFunc_int_0 : List AOp := [⟨(some 4), .mv (.k (.bool false)), none, none, [], none⟩]
def ac_slices_ContainsFunc_int_0 : AC := .reg l_slices_ContainsFunc_int_0
def l_slices_ContainsFunc_int_1 : List AOp := [⟨(some 5), .mv (.t 0), none, none, [], none⟩,
  ⟨(some 6), .mv (.t 1), none, none, [], none⟩,
  ⟨(some 7), .call false 51 [(.t 5), (.t 6)], none, none, [], none⟩,
  ⟨(some 8), .bin .geq (.t 7) (.k (.int .i64 0)), none, none, [], none⟩,
  ⟨(some 4), .mv (.t 8), none, none, [], none⟩]
def ac_slices_ContainsFunc_int_1 : AC := .reg l_slices_ContainsFunc_int_1
def ac_slices_ContainsFunc_int_2 : AC := .seq ac_slices_ContainsFunc_int_1 .ret
def ac_slices_ContainsFunc_int_3 : AC := .seq ac_slices_ContainsFunc_int_0 ac_slices_ContainsFunc_int_2
def ac_slices_ContainsFunc_int : AC := ac_slices_ContainsFunc_int_3
theorem comp_slices_ContainsFunc_int : compF Tryd.prog [] (drawR Tryd.prog [] Tryd.f31.ntmps) [] 2 Tryd.f31 = some (ac_slices_ContainsFunc_int, [.t 4]) := by kernel_rfl
def U_slices_ContainsFunc_int := (And.intro (And.intro (And.intro @ac_slices_ContainsFunc_int.eq_1 (@mR _ _ ac_slices_ContainsFunc_int_0.eq_1)) (And.intro (@mR _ _ ac_slices_ContainsFunc_int_1.eq_1) (@mU _ _ ac_slices_ContainsFunc_int_2.eq_1))) (And.intro (And.intro (@mU _ _ ac_slices_ContainsFunc_int_3.eq_1) @l_slices_ContainsFunc_int_0.eq_1) @l_slices_ContainsFunc_int_1.eq_1))

/- scoria/field.wrong -/
def l_field_wrong_0 : List AOp := [⟨(some 2), .mv (.k (.bool false)), none, none, [], none⟩]
def ac_field_wrong_0 : AC := .reg l_field_wrong_0
def l_field_wrong_1 : List AOp := [⟨(some 3), .mv (.t 0), none, none, [], none⟩,
  ⟨(some 4), .call false 52 [(.t 3)], none, none, [], none⟩,
  ⟨(some 5), .un .not (.t 4), none, none, [], none⟩,
  ⟨(some 2), .mv (.t 5), none, none, [], none⟩]
def ac_field_wrong_1 : AC := .reg l_field_wrong_1
def ac_field_wrong_2 : AC := .seq ac_field_wrong_1 .ret
def ac_field_wrong_3 : AC := .seq ac_field_wrong_0 ac_field_wrong_2
def ac_field_wrong : AC := ac_field_wrong_3
theorem comp_field_wrong : compF Tryd.prog [] (drawR Tryd.prog [] Tryd.f32.ntmps) [] 1 Tryd.f32 = some (ac_field_wrong, [.t 2]) := by kernel_rfl
def U_field_wrong := (And.intro (And.intro (And.intro @ac_field_wrong.eq_1 (@mR _ _ ac_field_wrong_0.eq_1)) (And.intro (@mR _ _ ac_field_wrong_1.eq_1) (@mU _ _ ac_field_wrong_2.eq_1))) (And.intro (And.intro (@mU _ _ ac_field_wrong_3.eq_1) @l_field_wrong_0.eq_1) @l_field_wrong_1.eq_1))

/- scoria/field.fits -/
def l_field_fits_0 : List AOp := [⟨(some 4), .mv (.k (.bool false)), none, none, [], none⟩]
def ac_field_fits_0 : AC := .reg l_field_fits_0
def l_field_fits_1 : List AOp := [⟨(some 5), .mv (.t 1), none, none, [], none⟩,
  ⟨(some 6), .bin .eql (.t 5) (.k (.int .i64 8)), none, none, [], none⟩,
  ⟨(some 7), .mv (.t 6), none, none, [], none⟩,
  ⟨(some 8), .mv (.t 0), (some (7, false)), none, [], none⟩,
  ⟨(some 9), .mv (.t 1), (some (7, false)), none, [], none⟩,
  ⟨(some 10), .bin .mul (.k (.int .i64 8)) (.t 9), (some (7, false)), none, [], none⟩,
  ⟨(some 11), .bin .shr (.t 8) (.t 10), (some (7, false)), none, [], none⟩,
  ⟨(some 12), .bin .eql (.t 11) (.k (.int .u64 0)), (some (7, false)), none, [], none⟩,
  ⟨(some 13), .pick (.t 7) (.k (.bool true)) (.t 12), none, none, [], none⟩,
  ⟨(some 4), .mv (.t 13), none, none, [], none⟩]
def ac_field_fits_1 : AC := .reg l_field_fits_1
def ac_field_fits_2 : AC := .seq ac_field_fits_1 .ret
def ac_field_fits_3 : AC := .seq ac_field_fits_0 ac_field_fits_2
def ac_field_fits : AC := ac_field_fits_3
theorem comp_field_fits : compF Tryd.prog [] (drawR Tryd.prog [] Tryd.f33.ntmps) [] 2 Tryd.f33 = some (ac_field_fits, [.t 4]) := by kernel_rfl
def U_field_fits := (And.intro (And.intro (And.intro @ac_field_fits.eq_1 (@mR _ _ ac_field_fits_0.eq_1)) (And.intro (@mR _ _ ac_field_fits_1.eq_1) (@mU _ _ ac_field_fits_2.eq_1))) (And.intro (And.intro (@mU _ _ ac_field_fits_3.eq_1) @l_field_fits_0.eq_1) @l_field_fits_1.eq_1))

/- (*strings.Builder).WriteString -/
def l_strings_Builder_WriteString_0 : List AOp := [⟨(some 4), .mv (.k (.int .i64 0)), none, none, [], none⟩,
  ⟨(some 5), .mv (.k .nili), none, none, [], none⟩]
def ac_strings_Builder_WriteString_0 : AC := .reg l_strings_Builder_WriteString_0
def l_strings_Builder_WriteString_1 : List AOp := [⟨(some 6), .mv (.t 0), none, none, [], none⟩,
  ⟨(some 7), .icall 53 [(.t 6)], none, none, [], none⟩]
def ac_strings_Builder_WriteString_1 : AC := .reg l_strings_Builder_WriteString_1
def l_strings_Builder_WriteString_2 : List AOp := [⟨(some 8), .mv (.t 0), none, none, [], none⟩,
  ⟨(some 9), .mv (.t 0), none, none, [], none⟩,
  ⟨(some 10), .nilck (.t 9), none, none, [], none⟩,
  ⟨(some 11), .faddr 1 (.t 10), none, none, [], none⟩,
  ⟨(some 12), .load none (.t 11), none, none, [], none⟩,
  ⟨(some 13), .mv (.t 1), none, none, [], none⟩,
  ⟨(some 14), .apps 5 (.t 12) (.t 13), none, none, [], none⟩,
  ⟨(some 15), .nilck (.t 8), none, none, [], none⟩,
  ⟨(some 16), .faddr 1 (.t 15), none, none, [], none⟩,
  ⟨none, .store 1 (.t 16) (.t 14), none, none, [], none⟩]
def ac_strings_Builder_WriteString_2 : AC := .reg l_strings_Builder_WriteString_2
def l_strings_Builder_WriteString_3 : List AOp := [⟨(some 17), .mv (.t 1), none, none, [], none⟩,
  ⟨(some 18), .lens (.t 17), none, none, [], none⟩,
  ⟨(some 4), .mv (.t 18), none, none, [], none⟩,
  ⟨(some 5), .mv (.k .nili), none, none, [], none⟩]
def ac_strings_Builder_WriteString_3 : AC := .reg l_strings_Builder_WriteString_3
def ac_strings_Builder_WriteString_4 : AC := .seq ac_strings_Builder_WriteString_3 .ret
def ac_strings_Builder_WriteString_5 : AC := .seq ac_strings_Builder_WriteString_2 ac_strings_Builder_WriteString_4
def ac_strings_Builder_WriteString_6 : AC := .seq ac_strings_Builder_WriteString_1 ac_strings_Builder_WriteString_5
def ac_strings_Builder_WriteString_7 : AC := .seq ac_strings_Builder_WriteString_0 ac_strings_Builder_WriteString_6
def ac_strings_Builder_WriteString : AC := ac_strings_Builder_WriteString_7
theorem comp_strings_Builder_WriteString : compF Tryd.prog [1000053] (drawR Tryd.prog [1000053] Tryd.f34.ntmps) [] 2 Tryd.f34 = some (ac_strings_Builder_WriteString, [.t 4, .t 5]) := by kernel_rfl
def U_strings_Builder_WriteString := (And.intro (And.intro (And.intro (And.intro @ac_strings_Builder_WriteString.eq_1 (@mR _ _ ac_strings_Builder_WriteString_0.eq_1)) (And.intro (@mR _ _ ac_strings_Builder_WriteString_1.eq_1) (@mR _ _ ac_strings_Builder_WriteString_2.eq_1))) (And.intro (And.intro (@mR _ _ ac_strings_Builder_WriteString_3.eq_1) (@mU _ _ ac_strings_Builder_WriteString_4.eq_1)) (@mU _ _ ac_strings_Builder_WriteString_5.eq_1))) (And.intro (And.intro (And.intro (@mU _ _ ac_strings_Builder_WriteString_6.eq_1) (@mU _ _ ac_strings_Builder_WriteString_7.eq_1)) @l_strings_Builder_WriteString_0.eq_1) (And.intro (And.intro @l_strings_Builder_WriteString_1.eq_1 @l_strings_Builder_WriteString_2.eq_1) @l_strings_Builder_WriteString_3.eq_1)))

/- scoria/field.laid -/
def l_field_laid_0 : List AOp := [⟨(some 4), .mv (.k (.str [])), none, none, [], none⟩]
def ac_field_laid_0 : AC := .reg l_field_laid_0
def l_field_laid_1 : List AOp := [⟨(some 5), .alloc (List.replicate 8 (.int .u8 0)), none, none, [], none⟩]
def ac_field_laid_1 : AC := .reg l_field_laid_1
def l_field_laid_2 : List AOp := [⟨(some 6), .mv (.t 1), none, none, [], none⟩]
def ac_field_laid_2 : AC := .reg l_field_laid_2
def l_field_laid_3 : List AOp := [⟨(some 8), .bin .eql (.t 6) (.k (.int .i64 8)), none, none, [], none⟩,
  ⟨(some 7), .mv (.t 8), none, none, [], none⟩]
def ac_field_laid_3 : AC := .reg l_field_laid_3
def ac_field_laid_4 : AC := .cond (.t 7) (.exit 1) .skip
def ac_field_laid_5 : AC := .seq ac_field_laid_3 ac_field_laid_4
def l_field_laid_6 : List AOp := [⟨(some 10), .bin .eql (.t 6) (.k (.int .i64 7)), none, none, [], none⟩,
  ⟨(some 9), .mv (.t 10), none, none, [], none⟩]
def ac_field_laid_6 : AC := .reg l_field_laid_6
def ac_field_laid_7 : AC := .cond (.t 9) (.exit 2) .skip
def ac_field_laid_8 : AC := .seq ac_field_laid_6 ac_field_laid_7
def l_field_laid_9 : List AOp := [⟨(some 12), .bin .eql (.t 6) (.k (.int .i64 6)), none, none, [], none⟩,
  ⟨(some 11), .mv (.t 12), none, none, [], none⟩]
def ac_field_laid_9 : AC := .reg l_field_laid_9
def ac_field_laid_10 : AC := .cond (.t 11) (.exit 3) .skip
def ac_field_laid_11 : AC := .seq ac_field_laid_9 ac_field_laid_10
def l_field_laid_12 : List AOp := [⟨(some 14), .bin .eql (.t 6) (.k (.int .i64 5)), none, none, [], none⟩,
  ⟨(some 13), .mv (.t 14), none, none, [], none⟩]
def ac_field_laid_12 : AC := .reg l_field_laid_12
def ac_field_laid_13 : AC := .cond (.t 13) (.exit 4) .skip
def ac_field_laid_14 : AC := .seq ac_field_laid_12 ac_field_laid_13
def l_field_laid_15 : List AOp := [⟨(some 16), .bin .eql (.t 6) (.k (.int .i64 4)), none, none, [], none⟩,
  ⟨(some 15), .mv (.t 16), none, none, [], none⟩]
def ac_field_laid_15 : AC := .reg l_field_laid_15
def ac_field_laid_16 : AC := .cond (.t 15) (.exit 5) .skip
def ac_field_laid_17 : AC := .seq ac_field_laid_15 ac_field_laid_16
def l_field_laid_18 : List AOp := [⟨(some 18), .bin .eql (.t 6) (.k (.int .i64 3)), none, none, [], none⟩,
  ⟨(some 17), .mv (.t 18), none, none, [], none⟩]
def ac_field_laid_18 : AC := .reg l_field_laid_18
def ac_field_laid_19 : AC := .cond (.t 17) (.exit 6) .skip
def ac_field_laid_20 : AC := .seq ac_field_laid_18 ac_field_laid_19
def l_field_laid_21 : List AOp := [⟨(some 20), .bin .eql (.t 6) (.k (.int .i64 2)), none, none, [], none⟩,
  ⟨(some 19), .mv (.t 20), none, none, [], none⟩]
def ac_field_laid_21 : AC := .reg l_field_laid_21
def ac_field_laid_22 : AC := .cond (.t 19) (.exit 7) .skip
def ac_field_laid_23 : AC := .seq ac_field_laid_21 ac_field_laid_22
def l_field_laid_24 : List AOp := [⟨(some 22), .bin .eql (.t 6) (.k (.int .i64 1)), none, none, [], none⟩,
  ⟨(some 21), .mv (.t 22), none, none, [], none⟩]
def ac_field_laid_24 : AC := .reg l_field_laid_24
def ac_field_laid_25 : AC := .cond (.t 21) (.exit 8) .skip
def ac_field_laid_26 : AC := .seq ac_field_laid_24 ac_field_laid_25
def ac_field_laid_27 : AC := .seq ac_field_laid_23 ac_field_laid_26
def ac_field_laid_28 : AC := .seq ac_field_laid_20 ac_field_laid_27
def ac_field_laid_29 : AC := .seq ac_field_laid_17 ac_field_laid_28
def ac_field_laid_30 : AC := .seq ac_field_laid_14 ac_field_laid_29
def ac_field_laid_31 : AC := .seq ac_field_laid_11 ac_field_laid_30
def ac_field_laid_32 : AC := .seq ac_field_laid_8 ac_field_laid_31
def ac_field_laid_33 : AC := .seq ac_field_laid_5 ac_field_laid_32
def ac_field_laid_34 : AC := .seq ac_field_laid_33 (.exit 0)
def ac_field_laid_35 : AC := .block 1 ac_field_laid_34
def l_field_laid_36 : List AOp := [⟨(some 23), .mv (.t 0), none, none, [], none⟩,
  ⟨(some 24), .bin .shr (.t 23) (.k (.int .u64 56)), none, none, [], none⟩,
  ⟨(some 25), .conv .u8 (.t 24), none, none, [], none⟩,
  ⟨(some 26), .iarr 1 8 (.t 5) (.k (.int .i64 7)), none, none, [], none⟩,
  ⟨none, .store 1 (.t 26) (.t 25), none, none, [], none⟩]
def ac_field_laid_36 : AC := .reg l_field_laid_36
def ac_field_laid_37 : AC := .seq ac_field_laid_35 ac_field_laid_36
def ac_field_laid_38 : AC := .block 2 ac_field_laid_37
def l_field_laid_39 : List AOp := [⟨(some 27), .mv (.t 0), none, none, [], none⟩,
  ⟨(some 28), .bin .shr (.t 27) (.k (.int .u64 48)), none, none, [], none⟩,
  ⟨(some 29), .conv .u8 (.t 28), none, none, [], none⟩,
  ⟨(some 30), .iarr 1 8 (.t 5) (.k (.int .i64 6)), none, none, [], none⟩,
  ⟨none, .store 1 (.t 30) (.t 29), none, none, [], none⟩]
def ac_field_laid_39 : AC := .reg l_field_laid_39
def ac_field_laid_40 : AC := .seq ac_field_laid_38 ac_field_laid_39
def ac_field_laid_41 : AC := .block 3 ac_field_laid_40
def l_field_laid_42 : List AOp := [⟨(some 31), .mv (.t 0), none, none, [], none⟩,
  ⟨(some 32), .bin .shr (.t 31) (.k (.int .u64 40)), none, none, [], none⟩,
  ⟨(some 33), .conv .u8 (.t 32), none, none, [], none⟩,
  ⟨(some 34), .iarr 1 8 (.t 5) (.k (.int .i64 5)), none, none, [], none⟩,
  ⟨none, .store 1 (.t 34) (.t 33), none, none, [], none⟩]
def ac_field_laid_42 : AC := .reg l_field_laid_42
def ac_field_laid_43 : AC := .seq ac_field_laid_41 ac_field_laid_42
def ac_field_laid_44 : AC := .block 4 ac_field_laid_43
def l_field_laid_45 : List AOp := [⟨(some 35), .mv (.t 0), none, none, [], none⟩,
  ⟨(some 36), .bin .shr (.t 35) (.k (.int .u64 32)), none, none, [], none⟩,
  ⟨(some 37), .conv .u8 (.t 36), none, none, [], none⟩,
  ⟨(some 38), .iarr 1 8 (.t 5) (.k (.int .i64 4)), none, none, [], none⟩,
  ⟨none, .store 1 (.t 38) (.t 37), none, none, [], none⟩]
def ac_field_laid_45 : AC := .reg l_field_laid_45
def ac_field_laid_46 : AC := .seq ac_field_laid_44 ac_field_laid_45
def ac_field_laid_47 : AC := .block 5 ac_field_laid_46
def l_field_laid_48 : List AOp := [⟨(some 39), .mv (.t 0), none, none, [], none⟩,
  ⟨(some 40), .bin .shr (.t 39) (.k (.int .u64 24)), none, none, [], none⟩,
  ⟨(some 41), .conv .u8 (.t 40), none, none, [], none⟩,
  ⟨(some 42), .iarr 1 8 (.t 5) (.k (.int .i64 3)), none, none, [], none⟩,
  ⟨none, .store 1 (.t 42) (.t 41), none, none, [], none⟩]
def ac_field_laid_48 : AC := .reg l_field_laid_48
def ac_field_laid_49 : AC := .seq ac_field_laid_47 ac_field_laid_48
def ac_field_laid_50 : AC := .block 6 ac_field_laid_49
def l_field_laid_51 : List AOp := [⟨(some 43), .mv (.t 0), none, none, [], none⟩,
  ⟨(some 44), .bin .shr (.t 43) (.k (.int .u64 16)), none, none, [], none⟩,
  ⟨(some 45), .conv .u8 (.t 44), none, none, [], none⟩,
  ⟨(some 46), .iarr 1 8 (.t 5) (.k (.int .i64 2)), none, none, [], none⟩,
  ⟨none, .store 1 (.t 46) (.t 45), none, none, [], none⟩]
def ac_field_laid_51 : AC := .reg l_field_laid_51
def ac_field_laid_52 : AC := .seq ac_field_laid_50 ac_field_laid_51
def ac_field_laid_53 : AC := .block 7 ac_field_laid_52
def l_field_laid_54 : List AOp := [⟨(some 47), .mv (.t 0), none, none, [], none⟩,
  ⟨(some 48), .bin .shr (.t 47) (.k (.int .u64 8)), none, none, [], none⟩,
  ⟨(some 49), .conv .u8 (.t 48), none, none, [], none⟩,
  ⟨(some 50), .iarr 1 8 (.t 5) (.k (.int .i64 1)), none, none, [], none⟩,
  ⟨none, .store 1 (.t 50) (.t 49), none, none, [], none⟩]
def ac_field_laid_54 : AC := .reg l_field_laid_54
def ac_field_laid_55 : AC := .seq ac_field_laid_53 ac_field_laid_54
def ac_field_laid_56 : AC := .block 8 ac_field_laid_55
def l_field_laid_57 : List AOp := [⟨(some 51), .mv (.t 0), none, none, [], none⟩,
  ⟨(some 52), .conv .u8 (.t 51), none, none, [], none⟩,
  ⟨(some 53), .iarr 1 8 (.t 5) (.k (.int .i64 0)), none, none, [], none⟩,
  ⟨none, .store 1 (.t 53) (.t 52), none, none, [], none⟩]
def ac_field_laid_57 : AC := .reg l_field_laid_57
def ac_field_laid_58 : AC := .seq ac_field_laid_57 (.exit 0)
def ac_field_laid_59 : AC := .seq ac_field_laid_56 ac_field_laid_58
def ac_field_laid_60 : AC := .block 0 ac_field_laid_59
def ac_field_laid_61 : AC := .seq ac_field_laid_2 ac_field_laid_60
def l_field_laid_62 : List AOp := [⟨(some 54), .mv (.t 1), none, none, [], none⟩,
  ⟨(some 55), .sarr 1 8 (.t 5) none (some (.t 54)), none, none, [], none⟩,
  ⟨(some 56), .b2s (.t 55), none, none, [], none⟩,
  ⟨(some 4), .mv (.t 56), none, none, [], none⟩]
def ac_field_laid_62 : AC := .reg l_field_laid_62
def ac_field_laid_63 : AC := .seq ac_field_laid_62 .ret
def ac_field_laid_64 : AC := .seq ac_field_laid_61 ac_field_laid_63
def ac_field_laid_65 : AC := .seq ac_field_laid_1 ac_field_laid_64
def ac_field_laid_66 : AC := .seq ac_field_laid_0 ac_field_laid_65
def ac_field_laid : AC := ac_field_laid_66
theorem comp_field_laid : compF Tryd.prog [] (drawR Tryd.prog [] Tryd.f35.ntmps) [] 2 Tryd.f35 = some (ac_field_laid, [.t 4]) := by kernel_rfl
def U_field_laid := (And.intro (And.intro (And.intro (And.intro (And.intro (And.intro (And.intro @ac_field_laid.eq_1 (@mR _ _ ac_field_laid_0.eq_1)) (@mR _ _ ac_field_laid_1.eq_1)) (And.intro (And.intro (@mR _ _ ac_field_laid_2.eq_1) (@mR _ _ ac_field_laid_3.eq_1)) (@mU _ _ ac_field_laid_4.eq_1))) (And.intro (And.intro (And.intro (@mU _ _ ac_field_laid_5.eq_1) (@mR _ _ ac_field_laid_6.eq_1)) (@mU _ _ ac_field_laid_7.eq_1)) (And.intro (@mU _ _ ac_field_laid_8.eq_1) (@mR _ _ ac_field_laid_9.eq_1)))) (And.intro (And.intro (And.intro (And.intro (@mU _ _ ac_field_laid_10.eq_1) (@mU _ _ ac_field_laid_11.eq_1)) (@mR _ _ ac_field_laid_12.eq_1)) (And.intro (And.intro (@mU _ _ ac_field_laid_13.eq_1) (@mU _ _ ac_field_laid_14.eq_1)) (@mR _ _ ac_field_laid_15.eq_1))) (And.intro (And.intro (And.intro (@mU _ _ ac_field_laid_16.eq_1) (@mU _ _ ac_field_laid_17.eq_1)) (@mR _ _ ac_field_laid_18.eq_1)) (And.intro (@mU _ _ ac_field_laid_19.eq_1) (@mU _ _ ac_field_laid_20.eq_1))))) (And.intro (And.intro (And.intro (And.intro (And.intro (@mR _ _ ac_field_laid_21.eq_1) (@mU _ _ ac_field_laid_22.eq_1)) (@mU _ _ ac_field_laid_23.eq_1)) (And.intro (And.intro (@mR _ _ ac_field_laid_24.eq_1) (@mU _ _ ac_field_laid_25.eq_1)) (@mU _ _ ac_field_laid_26.eq_1))) (And.intro (And.intro (And.intro (@mU _ _ ac_field_laid_27.eq_1) (@mU _ _ ac_field_laid_28.eq_1)) (@mU _ _ ac_field_laid_29.eq_1)) (And.intro (@mU _ _ ac_field_laid_30.eq_1) (@mU _ _ ac_field_laid_31.eq_1)))) (And.intro (And.intro (And.intro (And.intro (@mU _ _ ac_field_laid_32.eq_1) (@mU _ _ ac_field_laid_33.eq_1)) (@mU _ _ ac_field_laid_34.eq_1)) (And.intro (And.intro (@mU _ _ ac_field_laid_35.eq_1) (@mR _ _ ac_field_laid_36.eq_1)) (@mU _ _ ac_field_laid_37.eq_1))) (And.intro (And.intro (And.intro (@mU _ _ ac_field_laid_38.eq_1) (@mR _ _ ac_field_laid_39.eq_1)) (@mU _ _ ac_field_laid_40.eq_1)) (And.intro (@mU _ _ ac_field_laid_41.eq_1) (@mR _ _ ac_field_laid_42.eq_1)))))) (And.intro (And.intro (And.intro (And.intro (And.intro (And.intro (@mU _ _ ac_field_laid_43.eq_1) (@mU _ _ ac_field_laid_44.eq_1)) (@mR _ _ ac_field_laid_45.eq_1)) (And.intro (And.intro (@mU _ _ ac_field_laid_46.eq_1) (@mU _ _ ac_field_laid_47.eq_1)) (@mR _ _ ac_field_laid_48.eq_1))) (And.intro (And.intro (And.intro (@mU _ _ ac_field_laid_49.eq_1) (@mU _ _ ac_field_laid_50.eq_1)) (@mR _ _ ac_field_laid_51.eq_1)) (And.intro (@mU _ _ ac_field_laid_52.eq_1) (@mU _ _ ac_field_laid_53.eq_1)))) (And.intro (And.intro (And.intro (And.intro (@mR _ _ ac_field_laid_54.eq_1) (@mU _ _ ac_field_laid_55.eq_1)) (@mU _ _ ac_field_laid_56.eq_1)) (And.intro (And.intro (@mR _ _ ac_field_laid_57.eq_1) (@mU _ _ ac_field_laid_58.eq_1)) (@mU _ _ ac_field_laid_59.eq_1))) (And.intro (And.intro (And.intro (@mU _ _ ac_field_laid_60.eq_1) (@mU _ _ ac_field_laid_61.eq_1)) (@mR _ _ ac_field_laid_62.eq_1)) (And.intro (@mU _ _ ac_field_laid_63.eq_1) (@mU _ _ ac_field_laid_64.eq_1))))) (And.intro (And.intro (And.intro (And.intro (And.intro (@mU _ _ ac_field_laid_65.eq_1) (@mU _ _ ac_field_laid_66.eq_1)) @l_field_laid_0.eq_1) (And.intro (And.intro @l_field_laid_1.eq_1 @l_field_laid_2.eq_1) @l_field_laid_3.eq_1)) (And.intro (And.intro (And.intro @l_field_laid_6.eq_1 @l_field_laid_9.eq_1) @l_field_laid_12.eq_1) (And.intro @l_field_laid_15.eq_1 @l_field_laid_18.eq_1))) (And.intro (And.intro (And.intro (And.intro @l_field_laid_21.eq_1 @l_field_laid_24.eq_1) @l_field_laid_36.eq_1) (And.intro (And.intro @l_field_laid_39.eq_1 @l_field_laid_42.eq_1) @l_field_laid_45.eq_1)) (And.intro (And.intro (And.intro @l_field_laid_48.eq_1 @l_field_laid_51.eq_1) @l_field_laid_54.eq_1) (And.intro @l_field_laid_57.eq_1 @l_field_laid_62.eq_1))))))

/- (*strings.Builder).String -/
def l_strings_Builder_String_0 : List AOp := [⟨(some 2), .mv (.k (.str [])), none, none, [], none⟩]
def ac_strings_Builder_String_0 : AC := .reg l_strings_Builder_String_0
def l_strings_Builder_String_1 : List AOp := [⟨(some 3), .mv (.t 0), none, none, [], none⟩,
  ⟨(some 4), .nilck (.t 3), none, none, [], none⟩,
  ⟨(some 5), .faddr 1 (.t 4), none, none, [], none⟩,
  ⟨(some 6), .load none (.t 5), none, none, [], none⟩,
  ⟨(some 7), .usd (.t 6), none, none, [], none⟩,
  ⟨(some 8), .mv (.t 0), none, none, [], none⟩,
  ⟨(some 9), .nilck (.t 8), none, none, [], none⟩,
  ⟨(some 10), .faddr 1 (.t 9), none, none, [], none⟩,
  ⟨(some 11), .load none (.t 10), none, none, [], none⟩,
  ⟨(some 12), .len (.t 11), none, none, [], none⟩,
  ⟨(some 13), .ust 5 (.t 7) (.t 12), none, none, [], none⟩,
  ⟨(some 2), .mv (.t 13), none, none, [], none⟩]
def ac_strings_Builder_String_1 : AC := .dreg 0 l_strings_Builder_String_1
def ac_strings_Builder_String_2 : AC := .seq ac_strings_Builder_String_1 .ret
def ac_strings_Builder_String_3 : AC := .seq ac_strings_Builder_String_0 ac_strings_Builder_String_2
def ac_strings_Builder_String : AC := ac_strings_Builder_String_3
theorem comp_strings_Builder_String : compF Tryd.prog [] (drawR Tryd.prog [] Tryd.f36.ntmps) [] 1 Tryd.f36 = some (ac_strings_Builder_String, [.t 2]) := by kernel_rfl
def U_strings_Builder_String := (And.intro (And.intro (And.intro @ac_strings_Builder_String.eq_1 (@mR _ _ ac_strings_Builder_String_0.eq_1)) (And.intro (@mD _ _ _ ac_strings_Builder_String_1.eq_1) (@mU _ _ ac_strings_Builder_String_2.eq_1))) (And.intro (And.intro (@mU _ _ ac_strings_Builder_String_3.eq_1) @l_strings_Builder_String_0.eq_1) @l_strings_Builder_String_1.eq_1))

/- scoria/check.Sum -/
def l_check_Sum_0 : List AOp := [⟨(some 2), .mv (.k (.int .u32 0)), none, none, [], none⟩]
def ac_check_Sum_0 : AC := .reg l_check_Sum_0
def l_check_Sum_1 : List AOp := [⟨(some 3), .mv (.t 0), none, none, [], none⟩,
  ⟨(some 4), .call false 54 [(.k (.int .u32 0)), (.t 3)], none, none, [], none⟩,
  ⟨(some 2), .mv (.t 4), none, none, [], none⟩]
def ac_check_Sum_1 : AC := .reg l_check_Sum_1
def ac_check_Sum_2 : AC := .seq ac_check_Sum_1 .ret
def ac_check_Sum_3 : AC := .seq ac_check_Sum_0 ac_check_Sum_2
def ac_check_Sum : AC := ac_check_Sum_3
theorem comp_check_Sum : compF Tryd.prog [] (drawR Tryd.prog [] Tryd.f37.ntmps) [] 1 Tryd.f37 = some (ac_check_Sum, [.t 2]) := by kernel_rfl
def U_check_Sum := (And.intro (And.intro (And.intro @ac_check_Sum.eq_1 (@mR _ _ ac_check_Sum_0.eq_1)) (And.intro (@mR _ _ ac_check_Sum_1.eq_1) (@mU _ _ ac_check_Sum_2.eq_1))) (And.intro (And.intro (@mU _ _ ac_check_Sum_3.eq_1) @l_check_Sum_0.eq_1) @l_check_Sum_1.eq_1))

/- scoria/field.Get -/
def l_field_Get_0 : List AOp := [⟨(some 6), .mv (.k (.int .u64 0)), none, none, [], none⟩,
  ⟨(some 7), .mv (.k (.int .i64 0)), none, none, [], none⟩]
def ac_field_Get_0 : AC := .reg l_field_Get_0
def l_field_Get_1 : List AOp := [⟨(some 11), .mv (.t 2), none, none, [], none⟩,
  ⟨(some 12), .call false 52 [(.t 11)], none, none, [], none⟩,
  ⟨(some 13), .un .not (.t 12), none, none, [], none⟩,
  ⟨(some 14), .mv (.t 13), none, none, [], none⟩,
  ⟨(some 15), .mv (.t 1), (some (14, false)), none, [], none⟩,
  ⟨(some 16), .bin .lss (.t 15) (.k (.int .i64 0)), (some (14, false)), none, [], none⟩,
  ⟨(some 17), .pick (.t 14) (.k (.bool true)) (.t 16), none, none, [], none⟩,
  ⟨(some 10), .mv (.t 17), none, none, [], none⟩]
def ac_field_Get_1 : AC := .reg l_field_Get_1
def l_field_Get_2 : List AOp := [⟨(some 6), .mv (.k (.int .u64 0)), none, none, [], none⟩,
  ⟨(some 7), .mv (.k (.int .i64 1)), none, none, [], none⟩]
def ac_field_Get_2 : AC := .reg l_field_Get_2
def ac_field_Get_3 : AC := .seq ac_field_Get_2 .ret
def l_field_Get_4 : List AOp := [⟨(some 19), .mv (.t 1), none, none, [], none⟩,
  ⟨(some 20), .mv (.t 0), none, none, [], none⟩,
  ⟨(some 21), .lens (.t 20), none, none, [], none⟩,
  ⟨(some 22), .bin .gtr (.t 19) (.t 21), none, none, [], none⟩,
  ⟨(some 23), .mv (.t 22), none, none, [], none⟩,
  ⟨(some 24), .mv (.t 0), (some (23, false)), none, [], none⟩,
  ⟨(some 25), .lens (.t 24), (some (23, false)), none, [], none⟩,
  ⟨(some 26), .mv (.t 1), (some (23, false)), none, [], none⟩,
  ⟨(some 27), .bin .sub (.t 25) (.t 26), (some (23, false)), none, [], none⟩,
  ⟨(some 28), .mv (.t 2), (some (23, false)), none, [], none⟩,
  ⟨(some 29), .bin .lss (.t 27) (.t 28), (some (23, false)), none, [], none⟩,
  ⟨(some 30), .pick (.t 23) (.k (.bool true)) (.t 29), none, none, [], none⟩,
  ⟨(some 18), .mv (.t 30), none, none, [], none⟩]
def ac_field_Get_4 : AC := .reg l_field_Get_4
def l_field_Get_5 : List AOp := [⟨(some 6), .mv (.k (.int .u64 0)), none, none, [], none⟩,
  ⟨(some 7), .mv (.k (.int .i64 5)), none, none, [], none⟩]
def ac_field_Get_5 : AC := .reg l_field_Get_5
def ac_field_Get_6 : AC := .seq ac_field_Get_5 .ret
def ac_field_Get_7 : AC := .cond (.t 18) ac_field_Get_6 .skip
def ac_field_Get_8 : AC := .seq ac_field_Get_4 ac_field_Get_7
def ac_field_Get_9 : AC := .cond (.t 10) ac_field_Get_3 ac_field_Get_8
def ac_field_Get_10 : AC := .seq ac_field_Get_1 ac_field_Get_9
def ac_field_Get_11 : AC := .block 0 ac_field_Get_10
def l_field_Get_12 : List AOp := [⟨(some 8), .mv (.k (.int .u64 0)), none, none, [], none⟩]
def ac_field_Get_12 : AC := .reg l_field_Get_12
def l_field_Get_13 : List AOp := [⟨(some 31), .mv (.t 2), none, none, [], none⟩,
  ⟨(some 32), .bin .sub (.t 31) (.k (.int .i64 1)), none, none, [], none⟩,
  ⟨(some 9), .mv (.t 32), none, none, [], none⟩]
def ac_field_Get_13 : AC := .reg l_field_Get_13
def l_field_Get_14 : List AOp := [⟨(some 33), .mv (.t 9), none, none, [], none⟩,
  ⟨(some 34), .bin .geq (.t 33) (.k (.int .i64 0)), none, none, [], none⟩]
def ac_field_Get_14 : AC := .reg l_field_Get_14
def ac_field_Get_15 : AC := .cond (.t 34) .skip (.exit 1)
def ac_field_Get_16 : AC := .seq ac_field_Get_14 ac_field_Get_15
def l_field_Get_17 : List AOp := [⟨(some 37), .mv (.t 8), none, none, [], none⟩,
  ⟨(some 38), .bin .shl (.t 37) (.k (.int .u64 8)), none, none, [], none⟩,
  ⟨(some 39), .mv (.t 0), none, none, [], none⟩,
  ⟨(some 40), .mv (.t 1), none, none, [], none⟩,
  ⟨(some 41), .mv (.t 9), none, none, [], none⟩,
  ⟨(some 42), .bin .add (.t 40) (.t 41), none, none, [], none⟩,
  ⟨(some 43), .idxs (.t 39) (.t 42), none, none, [], none⟩,
  ⟨(some 44), .conv .u64 (.t 43), none, none, [], none⟩,
  ⟨(some 45), .bin .or (.t 38) (.t 44), none, none, [], none⟩,
  ⟨(some 8), .mv (.t 45), none, none, [], none⟩]
def ac_field_Get_17 : AC := .reg l_field_Get_17
def ac_field_Get_18 : AC := .block 2 ac_field_Get_17
def l_field_Get_19 : List AOp := [⟨(some 35), .mv (.t 9), none, none, [], none⟩,
  ⟨(some 36), .bin .sub (.t 35) (.k (.int .i64 1)), none, none, [], none⟩,
  ⟨(some 9), .mv (.t 36), none, none, [], none⟩]
def ac_field_Get_19 : AC := .reg l_field_Get_19
def ac_field_Get_20 : AC := .seq ac_field_Get_18 ac_field_Get_19
def ac_field_Get_21 : AC := .seq ac_field_Get_16 ac_field_Get_20
def ac_field_Get_22 : AC := .loop [0, 1, 8, 9] 0 ac_field_Get_21
def ac_field_Get_23 : AC := .block 1 ac_field_Get_22
def ac_field_Get_24 : AC := .seq ac_field_Get_13 ac_field_Get_23
def l_field_Get_25 : List AOp := [⟨(some 46), .mv (.t 8), none, none, [], none⟩,
  ⟨(some 6), .mv (.t 46), none, none, [], none⟩,
  ⟨(some 7), .mv (.k (.int .i64 0)), none, none, [], none⟩]
def ac_field_Get_25 : AC := .reg l_field_Get_25
def ac_field_Get_26 : AC := .seq ac_field_Get_25 .ret
def ac_field_Get_27 : AC := .seq ac_field_Get_24 ac_field_Get_26
def ac_field_Get_28 : AC := .seq ac_field_Get_12 ac_field_Get_27
def ac_field_Get_29 : AC := .seq ac_field_Get_11 ac_field_Get_28
def ac_field_Get_30 : AC := .seq ac_field_Get_0 ac_field_Get_29
def ac_field_Get : AC := ac_field_Get_30
theorem comp_field_Get : compF Tryd.prog [] (drawR Tryd.prog [] Tryd.f48.ntmps) [([0, 1, 8, 9], 0)] 3 Tryd.f48 = some (ac_field_Get, [.t 6, .t 7]) := by kernel_rfl
def U_field_Get := (And.intro (And.intro (And.intro (And.intro (And.intro (And.intro @ac_field_Get.eq_1 (@mR _ _ ac_field_Get_0.eq_1)) (@mR _ _ ac_field_Get_1.eq_1)) (And.intro (And.intro (@mR _ _ ac_field_Get_2.eq_1) (@mU _ _ ac_field_Get_3.eq_1)) (@mR _ _ ac_field_Get_4.eq_1))) (And.intro (And.intro (And.intro (@mR _ _ ac_field_Get_5.eq_1) (@mU _ _ ac_field_Get_6.eq_1)) (@mU _ _ ac_field_Get_7.eq_1)) (And.intro (@mU _ _ ac_field_Get_8.eq_1) (@mU _ _ ac_field_Get_9.eq_1)))) (And.intro (And.intro (And.intro (And.intro (@mU _ _ ac_field_Get_10.eq_1) (@mU _ _ ac_field_Get_11.eq_1)) (@mR _ _ ac_field_Get_12.eq_1)) (And.intro (And.intro (@mR _ _ ac_field_Get_13.eq_1) (@mR _ _ ac_field_Get_14.eq_1)) (@mU _ _ ac_field_Get_15.eq_1))) (And.intro (And.intro (And.intro (@mU _ _ ac_field_Get_16.eq_1) (@mR _ _ ac_field_Get_17.eq_1)) (@mU _ _ ac_field_Get_18.eq_1)) (And.intro (@mR _ _ ac_field_Get_19.eq_1) (@mU _ _ ac_field_Get_20.eq_1))))) (And.intro (And.intro (And.intro (And.intro (And.intro (@mU _ _ ac_field_Get_21.eq_1) (@mU _ _ ac_field_Get_22.eq_1)) (@mU _ _ ac_field_Get_23.eq_1)) (And.intro (And.intro (@mU _ _ ac_field_Get_24.eq_1) (@mR _ _ ac_field_Get_25.eq_1)) (@mU _ _ ac_field_Get_26.eq_1))) (And.intro (And.intro (And.intro (@mU _ _ ac_field_Get_27.eq_1) (@mU _ _ ac_field_Get_28.eq_1)) (@mU _ _ ac_field_Get_29.eq_1)) (And.intro (@mU _ _ ac_field_Get_30.eq_1) @l_field_Get_0.eq_1))) (And.intro (And.intro (And.intro (And.intro @l_field_Get_1.eq_1 @l_field_Get_2.eq_1) @l_field_Get_4.eq_1) (And.intro @l_field_Get_5.eq_1 @l_field_Get_12.eq_1)) (And.intro (And.intro (And.intro @l_field_Get_13.eq_1 @l_field_Get_14.eq_1) @l_field_Get_17.eq_1) (And.intro @l_field_Get_19.eq_1 @l_field_Get_25.eq_1)))))

/- slices.IndexFunc[[]int,int] -/
def l_slices_IndexFunc_int_0 : List AOp := [⟨(some 4), .mv (.k (.int .i64 0)), none, none, [], none⟩]
def ac_slices_IndexFunc_int_0 : AC := .reg l_slices_IndexFunc_int_0
def l_slices_IndexFunc_int_1 : List AOp := [⟨(some 6), .mv (.t 0), none, none, [], none⟩,
  ⟨(some 7), .len (.t 6), none, none, [], none⟩,
  ⟨(some 8), .mv (.k (.int .i64 0)), none, none, [], none⟩]
def ac_slices_IndexFunc_int_1 : AC := .reg l_slices_IndexFunc_int_1
def l_slices_IndexFunc_int_2 : List AOp := [⟨(some 9), .bin .lss (.t 8) (.t 7), none, none, [], none⟩]
def ac_slices_IndexFunc_int_2 : AC := .reg l_slices_IndexFunc_int_2
def ac_slices_IndexFunc_int_3 : AC := .cond (.t 9) .skip (.exit 0)
def l_slices_IndexFunc_int_4 : List AOp := [⟨(some 10), .mv (.t 8), none, none, [], none⟩,
  ⟨(some 5), .mv (.t 10), none, none, [], none⟩]
def ac_slices_IndexFunc_int_4 : AC := .reg l_slices_IndexFunc_int_4
def l_slices_IndexFunc_int_5 : List AOp := [⟨(some 11), .mv (.t 1), none, none, [], none⟩,
  ⟨(some 12), .mv (.t 0), none, none, [], none⟩,
  ⟨(some 13), .mv (.t 5), none, none, [], none⟩,
  ⟨(some 14), .isl 1 (.t 12) (.t 13), none, none, [], none⟩,
  ⟨(some 15), .load none (.t 14), none, none, [], none⟩,
  ⟨(some 16), .callv (.t 11) [(.t 15)], none, none, [], none⟩]
def ac_slices_IndexFunc_int_5 : AC := .reg l_slices_IndexFunc_int_5
def l_slices_IndexFunc_int_6 : List AOp := [⟨(some 17), .mv (.t 5), none, none, [], none⟩,
  ⟨(some 4), .mv (.t 17), none, none, [], none⟩]
def ac_slices_IndexFunc_int_6 : AC := .reg l_slices_IndexFunc_int_6
def ac_slices_IndexFunc_int_7 : AC := .seq ac_slices_IndexFunc_int_6 .ret
def ac_slices_IndexFunc_int_8 : AC := .cond (.t 16) ac_slices_IndexFunc_int_7 .skip
def ac_slices_IndexFunc_int_9 : AC := .seq ac_slices_IndexFunc_int_5 ac_slices_IndexFunc_int_8
def ac_slices_IndexFunc_int_10 : AC := .seq ac_slices_IndexFunc_int_4 ac_slices_IndexFunc_int_9
def ac_slices_IndexFunc_int_11 : AC := .block 1 ac_slices_IndexFunc_int_10
def l_slices_IndexFunc_int_12 : List AOp := [⟨(some 18), .bin .add (.t 8) (.k (.int .i64 1)), none, none, [], none⟩,
  ⟨(some 8), .mv (.t 18), none, none, [], none⟩]
def ac_slices_IndexFunc_int_12 : AC := .reg l_slices_IndexFunc_int_12
def ac_slices_IndexFunc_int_13 : AC := .seq ac_slices_IndexFunc_int_11 ac_slices_IndexFunc_int_12
def ac_slices_IndexFunc_int_14 : AC := .seq ac_slices_IndexFunc_int_3 ac_slices_IndexFunc_int_13
def ac_slices_IndexFunc_int_15 : AC := .seq ac_slices_IndexFunc_int_2 ac_slices_IndexFunc_int_14
def ac_slices_IndexFunc_int_16 : AC := .loop [0, 1, 7, 8] 0 ac_slices_IndexFunc_int_15
def ac_slices_IndexFunc_int_17 : AC := .block 0 ac_slices_IndexFunc_int_16
def ac_slices_IndexFunc_int_18 : AC := .seq ac_slices_IndexFunc_int_1 ac_slices_IndexFunc_int_17
def l_slices_IndexFunc_int_19 : List AOp := [⟨(some 4), .mv (.k (.int .i64 (-1))), none, none, [], none⟩]
def ac_slices_IndexFunc_int_19 : AC := .reg l_slices_IndexFunc_int_19
def ac_slices_IndexFunc_int_20 : AC := .seq ac_slices_IndexFunc_int_19 .ret
def ac_slices_IndexFunc_int_21 : AC := .seq ac_slices_IndexFunc_int_18 ac_slices_IndexFunc_int_20
def ac_slices_IndexFunc_int_22 : AC := .seq ac_slices_IndexFunc_int_0 ac_slices_IndexFunc_int_21
def ac_slices_IndexFunc_int : AC := ac_slices_IndexFunc_int_22
theorem comp_slices_IndexFunc_int : compF Tryd.prog [] (drawR Tryd.prog [] Tryd.f51.ntmps) [([0, 1, 7, 8], 0)] 2 Tryd.f51 = some (ac_slices_IndexFunc_int, [.t 4]) := by kernel_rfl
def U_slices_IndexFunc_int := (And.intro (And.intro (And.intro (And.intro (And.intro @ac_slices_IndexFunc_int.eq_1 (@mR _ _ ac_slices_IndexFunc_int_0.eq_1)) (And.intro (@mR _ _ ac_slices_IndexFunc_int_1.eq_1) (@mR _ _ ac_slices_IndexFunc_int_2.eq_1))) (And.intro (And.intro (@mU _ _ ac_slices_IndexFunc_int_3.eq_1) (@mR _ _ ac_slices_IndexFunc_int_4.eq_1)) (And.intro (@mR _ _ ac_slices_IndexFunc_int_5.eq_1) (@mR _ _ ac_slices_IndexFunc_int_6.eq_1)))) (And.intro (And.intro (And.intro (@mU _ _ ac_slices_IndexFunc_int_7.eq_1) (@mU _ _ ac_slices_IndexFunc_int_8.eq_1)) (And.intro (@mU _ _ ac_slices_IndexFunc_int_9.eq_1) (@mU _ _ ac_slices_IndexFunc_int_10.eq_1))) (And.intro (And.intro (@mU _ _ ac_slices_IndexFunc_int_11.eq_1) (@mR _ _ ac_slices_IndexFunc_int_12.eq_1)) (And.intro (@mU _ _ ac_slices_IndexFunc_int_13.eq_1) (@mU _ _ ac_slices_IndexFunc_int_14.eq_1))))) (And.intro (And.intro (And.intro (And.intro (@mU _ _ ac_slices_IndexFunc_int_15.eq_1) (@mU _ _ ac_slices_IndexFunc_int_16.eq_1)) (And.intro (@mU _ _ ac_slices_IndexFunc_int_17.eq_1) (@mU _ _ ac_slices_IndexFunc_int_18.eq_1))) (And.intro (And.intro (@mR _ _ ac_slices_IndexFunc_int_19.eq_1) (@mU _ _ ac_slices_IndexFunc_int_20.eq_1)) (And.intro (@mU _ _ ac_slices_IndexFunc_int_21.eq_1) (@mU _ _ ac_slices_IndexFunc_int_22.eq_1)))) (And.intro (And.intro (And.intro @l_slices_IndexFunc_int_0.eq_1 @l_slices_IndexFunc_int_1.eq_1) (And.intro @l_slices_IndexFunc_int_2.eq_1 @l_slices_IndexFunc_int_4.eq_1)) (And.intro (And.intro @l_slices_IndexFunc_int_5.eq_1 @l_slices_IndexFunc_int_6.eq_1) (And.intro @l_slices_IndexFunc_int_12.eq_1 @l_slices_IndexFunc_int_19.eq_1)))))

/- scoria/field.width -/
def l_field_width_0 : List AOp := [⟨(some 2), .mv (.k (.bool false)), none, none, [], none⟩]
def ac_field_width_0 : AC := .reg l_field_width_0
def l_field_width_1 : List AOp := [⟨(some 3), .mv (.t 0), none, none, [], none⟩,
  ⟨(some 4), .bin .geq (.t 3) (.k (.int .i64 1)), none, none, [], none⟩,
  ⟨(some 5), .mv (.t 4), none, none, [], none⟩,
  ⟨(some 6), .mv (.t 0), (some (5, true)), none, [], none⟩,
  ⟨(some 7), .bin .leq (.t 6) (.k (.int .i64 8)), (some (5, true)), none, [], none⟩,
  ⟨(some 8), .pick (.t 5) (.t 7) (.k (.bool false)), none, none, [], none⟩,
  ⟨(some 2), .mv (.t 8), none, none, [], none⟩]
def ac_field_width_1 : AC := .reg l_field_width_1
def ac_field_width_2 : AC := .seq ac_field_width_1 .ret
def ac_field_width_3 : AC := .seq ac_field_width_0 ac_field_width_2
def ac_field_width : AC := ac_field_width_3
theorem comp_field_width : compF Tryd.prog [] (drawR Tryd.prog [] Tryd.f52.ntmps) [] 1 Tryd.f52 = some (ac_field_width, [.t 2]) := by kernel_rfl
def U_field_width := (And.intro (And.intro (And.intro @ac_field_width.eq_1 (@mR _ _ ac_field_width_0.eq_1)) (And.intro (@mR _ _ ac_field_width_1.eq_1) (@mU _ _ ac_field_width_2.eq_1))) (And.intro (And.intro (@mU _ _ ac_field_width_3.eq_1) @l_field_width_0.eq_1) @l_field_width_1.eq_1))

/- scoria/check.More -/
def l_check_More_0 : List AOp := [⟨(some 4), .mv (.k (.int .u32 0)), none, none, [], none⟩]
def ac_check_More_0 : AC := .reg l_check_More_0
def l_check_More_1 : List AOp := [⟨(some 7), .mv (.t 0), none, none, [], none⟩,
  ⟨(some 8), .un .xor (.t 7), none, none, [], none⟩,
  ⟨(some 5), .mv (.t 8), none, none, [], none⟩]
def ac_check_More_1 : AC := .reg l_check_More_1
def l_check_More_2 : List AOp := [⟨(some 9), .mv (.t 1), none, none, [], none⟩,
  ⟨(some 10), .lens (.t 9), none, none, [], none⟩,
  ⟨(some 11), .mv (.k (.int .i64 0)), none, none, [], none⟩]
def ac_check_More_2 : AC := .reg l_check_More_2
def l_check_More_3 : List AOp := [⟨(some 12), .bin .lss (.t 11) (.t 10), none, none, [], none⟩]
def ac_check_More_3 : AC := .reg l_check_More_3
def ac_check_More_4 : AC := .cond (.t 12) .skip (.exit 0)
def l_check_More_5 : List AOp := [⟨(some 13), .mv (.t 11), none, none, [], none⟩,
  ⟨(some 6), .mv (.t 13), none, none, [], none⟩]
def ac_check_More_5 : AC := .reg l_check_More_5
def l_check_More_6 : List AOp := [⟨(some 14), .mv (.t 5), none, none, [], none⟩,
  ⟨(some 15), .mv (.t 1), none, none, [], none⟩,
  ⟨(some 16), .mv (.t 6), none, none, [], none⟩,
  ⟨(some 17), .idxs (.t 15) (.t 16), none, none, [], none⟩,
  ⟨(some 18), .call false 62 [(.t 14), (.t 17)], none, none, [], none⟩,
  ⟨(some 5), .mv (.t 18), none, none, [], none⟩]
def ac_check_More_6 : AC := .reg l_check_More_6
def ac_check_More_7 : AC := .seq ac_check_More_5 ac_check_More_6
def ac_check_More_8 : AC := .block 1 ac_check_More_7
def l_check_More_9 : List AOp := [⟨(some 19), .bin .add (.t 11) (.k (.int .i64 1)), none, none, [], none⟩,
  ⟨(some 11), .mv (.t 19), none, none, [], none⟩]
def ac_check_More_9 : AC := .reg l_check_More_9
def ac_check_More_10 : AC := .seq ac_check_More_8 ac_check_More_9
def ac_check_More_11 : AC := .seq ac_check_More_4 ac_check_More_10
def ac_check_More_12 : AC := .seq ac_check_More_3 ac_check_More_11
def ac_check_More_13 : AC := .loop [1, 5, 10, 11] 0 ac_check_More_12
def ac_check_More_14 : AC := .block 0 ac_check_More_13
def ac_check_More_15 : AC := .seq ac_check_More_2 ac_check_More_14
def l_check_More_16 : List AOp := [⟨(some 20), .mv (.t 5), none, none, [], none⟩,
  ⟨(some 21), .un .xor (.t 20), none, none, [], none⟩,
  ⟨(some 4), .mv (.t 21), none, none, [], none⟩]
def ac_check_More_16 : AC := .reg l_check_More_16
def ac_check_More_17 : AC := .seq ac_check_More_16 .ret
def ac_check_More_18 : AC := .seq ac_check_More_15 ac_check_More_17
def ac_check_More_19 : AC := .seq ac_check_More_1 ac_check_More_18
def ac_check_More_20 : AC := .seq ac_check_More_0 ac_check_More_19
def ac_check_More : AC := ac_check_More_20
theorem comp_check_More : compF Tryd.prog [] (drawR Tryd.prog [] Tryd.f54.ntmps) [([1, 5, 10, 11], 0)] 2 Tryd.f54 = some (ac_check_More, [.t 4]) := by kernel_rfl
def U_check_More := (And.intro (And.intro (And.intro (And.intro (And.intro @ac_check_More.eq_1 (@mR _ _ ac_check_More_0.eq_1)) (And.intro (@mR _ _ ac_check_More_1.eq_1) (@mR _ _ ac_check_More_2.eq_1))) (And.intro (And.intro (@mR _ _ ac_check_More_3.eq_1) (@mU _ _ ac_check_More_4.eq_1)) (And.intro (@mR _ _ ac_check_More_5.eq_1) (@mR _ _ ac_check_More_6.eq_1)))) (And.intro (And.intro (And.intro (@mU _ _ ac_check_More_7.eq_1) (@mU _ _ ac_check_More_8.eq_1)) (And.intro (@mR _ _ ac_check_More_9.eq_1) (@mU _ _ ac_check_More_10.eq_1))) (And.intro (And.intro (@mU _ _ ac_check_More_11.eq_1) (@mU _ _ ac_check_More_12.eq_1)) (@mU _ _ ac_check_More_13.eq_1)))) (And.intro (And.intro (And.intro (And.intro (@mU _ _ ac_check_More_14.eq_1) (@mU _ _ ac_check_More_15.eq_1)) (And.intro (@mR _ _ ac_check_More_16.eq_1) (@mU _ _ ac_check_More_17.eq_1))) (And.intro (And.intro (@mU _ _ ac_check_More_18.eq_1) (@mU _ _ ac_check_More_19.eq_1)) (And.intro (@mU _ _ ac_check_More_20.eq_1) @l_check_More_0.eq_1))) (And.intro (And.intro (And.intro @l_check_More_1.eq_1 @l_check_More_2.eq_1) (And.intro @l_check_More_3.eq_1 @l_check_More_5.eq_1)) (And.intro (And.intro @l_check_More_6.eq_1 @l_check_More_9.eq_1) @l_check_More_16.eq_1))))

/- scoria/check.next -/
def l_check_next_0 : List AOp := [⟨(some 4), .mv (.k (.int .u32 0)), none, none, [], none⟩]
def ac_check_next_0 : AC := .reg l_check_next_0
def l_check_next_1 : List AOp := [⟨(some 5), .mv (.t 0), none, none, [], none⟩,
  ⟨(some 6), .mv (.t 1), none, none, [], none⟩,
  ⟨(some 7), .conv .u32 (.t 6), none, none, [], none⟩,
  ⟨(some 8), .bin .shl (.t 7) (.k (.int .u64 24)), none, none, [], none⟩,
  ⟨(some 9), .bin .xor (.t 5) (.t 8), none, none, [], none⟩,
  ⟨(some 0), .mv (.t 9), none, none, [], none⟩]
def ac_check_next_1 : AC := .reg l_check_next_1
def l_check_next_2 : List AOp := [⟨(some 10), .mv (.k (.int .i64 0)), none, none, [], none⟩]
def ac_check_next_2 : AC := .reg l_check_next_2
def l_check_next_3 : List AOp := [⟨(some 11), .bin .lss (.t 10) (.k (.int .i64 8)), none, none, [], none⟩]
def ac_check_next_3 : AC := .reg l_check_next_3
def ac_check_next_4 : AC := .cond (.t 11) .skip (.exit 0)
def l_check_next_5 : List AOp := [⟨(some 12), .mv (.t 0), none, none, [], none⟩,
  ⟨(some 13), .bin .shr (.t 12) (.k (.int .u64 31)), none, none, [], none⟩,
  ⟨(some 14), .bin .eql (.t 13) (.k (.int .u32 1)), none, none, [], none⟩]
def ac_check_next_5 : AC := .reg l_check_next_5
def l_check_next_6 : List AOp := [⟨(some 15), .mv (.t 0), none, none, [], none⟩,
  ⟨(some 16), .bin .shl (.t 15) (.k (.int .u64 1)), none, none, [], none⟩,
  ⟨(some 17), .bin .xor (.t 16) (.k (.int .u32 79764919)), none, none, [], none⟩,
  ⟨(some 0), .mv (.t 17), none, none, [], none⟩]
def ac_check_next_6 : AC := .reg l_check_next_6
def l_check_next_7 : List AOp := [⟨(some 18), .mv (.t 0), none, none, [], none⟩,
  ⟨(some 19), .bin .shl (.t 18) (.k (.int .u64 1)), none, none, [], none⟩,
  ⟨(some 0), .mv (.t 19), none, none, [], none⟩]
def ac_check_next_7 : AC := .reg l_check_next_7
def ac_check_next_8 : AC := .cond (.t 14) ac_check_next_6 ac_check_next_7
def ac_check_next_9 : AC := .seq ac_check_next_5 ac_check_next_8
def ac_check_next_10 : AC := .block 1 ac_check_next_9
def l_check_next_11 : List AOp := [⟨(some 20), .bin .add (.t 10) (.k (.int .i64 1)), none, none, [], none⟩,
  ⟨(some 10), .mv (.t 20), none, none, [], none⟩]
def ac_check_next_11 : AC := .reg l_check_next_11
def ac_check_next_12 : AC := .seq ac_check_next_10 ac_check_next_11
def ac_check_next_13 : AC := .seq ac_check_next_4 ac_check_next_12
def ac_check_next_14 : AC := .seq ac_check_next_3 ac_check_next_13
def ac_check_next_15 : AC := .loop [0, 10] 0 ac_check_next_14
def ac_check_next_16 : AC := .block 0 ac_check_next_15
def ac_check_next_17 : AC := .seq ac_check_next_2 ac_check_next_16
def l_check_next_18 : List AOp := [⟨(some 21), .mv (.t 0), none, none, [], none⟩,
  ⟨(some 4), .mv (.t 21), none, none, [], none⟩]
def ac_check_next_18 : AC := .reg l_check_next_18
def ac_check_next_19 : AC := .seq ac_check_next_18 .ret
def ac_check_next_20 : AC := .seq ac_check_next_17 ac_check_next_19
def ac_check_next_21 : AC := .seq ac_check_next_1 ac_check_next_20
def ac_check_next_22 : AC := .seq ac_check_next_0 ac_check_next_21
def ac_check_next : AC := ac_check_next_22
theorem comp_check_next : compF Tryd.prog [] (drawR Tryd.prog [] Tryd.f62.ntmps) [([0, 10], 0)] 2 Tryd.f62 = some (ac_check_next, [.t 4]) := by kernel_rfl
def U_check_next := (And.intro (And.intro (And.intro (And.intro (And.intro (And.intro @ac_check_next.eq_1 (@mR _ _ ac_check_next_0.eq_1)) (@mR _ _ ac_check_next_1.eq_1)) (And.intro (@mR _ _ ac_check_next_2.eq_1) (@mR _ _ ac_check_next_3.eq_1))) (And.intro (And.intro (@mU _ _ ac_check_next_4.eq_1) (@mR _ _ ac_check_next_5.eq_1)) (And.intro (@mR _ _ ac_check_next_6.eq_1) (@mR _ _ ac_check_next_7.eq_1)))) (And.intro (And.intro (And.intro (@mU _ _ ac_check_next_8.eq_1) (@mU _ _ ac_check_next_9.eq_1)) (And.intro (@mU _ _ ac_check_next_10.eq_1) (@mR _ _ ac_check_next_11.eq_1))) (And.intro (And.intro (@mU _ _ ac_check_next_12.eq_1) (@mU _ _ ac_check_next_13.eq_1)) (And.intro (@mU _ _ ac_check_next_14.eq_1) (@mU _ _ ac_check_next_15.eq_1))))) (And.intro (And.intro (And.intro (And.intro (@mU _ _ ac_check_next_16.eq_1) (@mU _ _ ac_check_next_17.eq_1)) (And.intro (@mR _ _ ac_check_next_18.eq_1) (@mU _ _ ac_check_next_19.eq_1))) (And.intro (And.intro (@mU _ _ ac_check_next_20.eq_1) (@mU _ _ ac_check_next_21.eq_1)) (And.intro (@mU _ _ ac_check_next_22.eq_1) @l_check_next_0.eq_1))) (And.intro (And.intro (And.intro @l_check_next_1.eq_1 @l_check_next_2.eq_1) (And.intro @l_check_next_3.eq_1 @l_check_next_5.eq_1)) (And.intro (And.intro @l_check_next_6.eq_1 @l_check_next_7.eq_1) (And.intro @l_check_next_11.eq_1 @l_check_next_18.eq_1)))))

end Go.Proofs.YtdgpiobmncohjaaDoor.Aw
