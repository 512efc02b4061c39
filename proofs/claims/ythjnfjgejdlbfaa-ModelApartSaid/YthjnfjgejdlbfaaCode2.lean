/-
  The functions of the seat, translated to abstract code. Written by a program (wip/Gen2.lean).
-/
import Derived.Test.YthjnfjgejdlbfaaCode
import Derived.Test.YthjnfjgejdlbfaaProg
set_option maxRecDepth 100000
set_option linter.all false
namespace Go.Proofs.Ythjnfjgejdlbfaa.Aw
open Go.RowKit
/- scoria/scorialaw17.ModelLast -/
def l_law17_ModelLast_0 : List AOp := [⟨(some 4), .mv (.k (.bool false)), none, none, [], none⟩]
def ac_law17_ModelLast_0 : AC := .reg l_law17_ModelLast_0
def l_law17_ModelLast_1 : List AOp := [⟨(some 11), .icall 10 [(.k (.int .i64 3))], none, none, [], none⟩,
  ⟨(some 5), .mv (.t 11), none, none, [], none⟩]
def ac_law17_ModelLast_1 : AC := .reg l_law17_ModelLast_1
def l_law17_ModelLast_2 : List AOp := [⟨(some 12), .mv (.t 0), none, none, [], none⟩,
  ⟨(some 13), .bin .rem (.t 12) (.k (.int .i64 20)), none, none, [], none⟩,
  ⟨(some 14), .bin .add (.t 13) (.k (.int .i64 20)), none, none, [], none⟩,
  ⟨(some 15), .bin .rem (.t 14) (.k (.int .i64 20)), none, none, [], none⟩,
  ⟨(some 0), .mv (.t 15), none, none, [], none⟩]
def ac_law17_ModelLast_2 : AC := .reg l_law17_ModelLast_2
def l_law17_ModelLast_3 : List AOp := [⟨(some 16), .call false 11 [], none, none, [], none⟩,
  ⟨(some 17), .un .not (.t 16), none, none, [], none⟩,
  ⟨(some 18), .mv (.t 17), none, none, [], none⟩,
  ⟨(some 19), .mv (.t 5), (some (18, false)), none, [], none⟩,
  ⟨(some 20), .isn .p false (.t 19), (some (18, false)), none, [], none⟩,
  ⟨(some 21), .pick (.t 18) (.k (.bool true)) (.t 20), none, none, [], none⟩,
  ⟨(some 22), .mv (.t 21), none, none, [], none⟩,
  ⟨(some 23), .mv (.t 5), (some (22, false)), none, [], none⟩,
  ⟨(some 24), .build [(.int .i64 0), (.int .i64 0), (.int .i64 0), (.int .i64 0), (.str [])] [(0, 1, (.k (.int .i64 1))), (1, 1, (.k (.int .i64 7))), (3, 1, (.k (.int .i64 20)))], (some (22, false)), none, [], none⟩,
  ⟨(some 25), .icall 12 [(.t 23), (.t 24)], (some (22, false)), none, [], none⟩,
  ⟨(some 26), .fld none 0 (.t 25), (some (22, false)), none, [], none⟩,
  ⟨(some 27), .bin .neq (.t 26) (.k (.int .i64 0)), (some (22, false)), none, [], none⟩,
  ⟨(some 28), .pick (.t 22) (.k (.bool true)) (.t 27), none, none, [], none⟩]
def ac_law17_ModelLast_3 : AC := .reg l_law17_ModelLast_3
def l_law17_ModelLast_4 : List AOp := [⟨(some 4), .mv (.k (.bool false)), none, none, [], none⟩]
def ac_law17_ModelLast_4 : AC := .reg l_law17_ModelLast_4
def ac_law17_ModelLast_5 : AC := .seq ac_law17_ModelLast_4 .ret
def ac_law17_ModelLast_6 : AC := .cond (.t 28) ac_law17_ModelLast_5 .skip
def ac_law17_ModelLast_7 : AC := .seq ac_law17_ModelLast_3 ac_law17_ModelLast_6
def l_law17_ModelLast_8 : List AOp := [⟨(some 29), .call false 14 [(.k (.int .i64 1)), (.k (.int .u8 0))], none, none, [], none⟩,
  ⟨(some 6), .mv (.t 29), none, none, [], none⟩]
def ac_law17_ModelLast_8 : AC := .reg l_law17_ModelLast_8
def l_law17_ModelLast_9 : List AOp := [⟨(some 7), .mv (.k (.int .i64 0)), none, none, [], none⟩]
def ac_law17_ModelLast_9 : AC := .reg l_law17_ModelLast_9
def l_law17_ModelLast_10 : List AOp := [⟨(some 30), .mv (.t 7), none, none, [], none⟩,
  ⟨(some 31), .mv (.t 1), none, none, [], none⟩,
  ⟨(some 32), .len (.t 31), none, none, [], none⟩,
  ⟨(some 33), .bin .lss (.t 30) (.t 32), none, none, [], none⟩,
  ⟨(some 34), .mv (.t 33), none, none, [], none⟩,
  ⟨(some 35), .mv (.t 7), (some (34, true)), none, [], none⟩,
  ⟨(some 36), .bin .lss (.t 35) (.k (.int .i64 40)), (some (34, true)), none, [], none⟩,
  ⟨(some 37), .pick (.t 34) (.t 36) (.k (.bool false)), none, none, [], none⟩]
def ac_law17_ModelLast_10 : AC := .reg l_law17_ModelLast_10
def ac_law17_ModelLast_11 : AC := .cond (.t 37) .skip (.exit 0)
def ac_law17_ModelLast_12 : AC := .seq ac_law17_ModelLast_10 ac_law17_ModelLast_11
def l_law17_ModelLast_13 : List AOp := [⟨(some 40), .mv (.t 1), none, none, [], none⟩,
  ⟨(some 41), .mv (.t 7), none, none, [], none⟩,
  ⟨(some 42), .isl 1 (.t 40) (.t 41), none, none, [], none⟩,
  ⟨(some 43), .load none (.t 42), none, none, [], none⟩,
  ⟨(some 8), .mv (.t 43), none, none, [], none⟩]
def ac_law17_ModelLast_13 : AC := .reg l_law17_ModelLast_13
def l_law17_ModelLast_14 : List AOp := [⟨(some 44), .mv (.t 0), none, none, [], none⟩,
  ⟨(some 45), .mv (.t 8), none, none, [], none⟩,
  ⟨(some 46), .call false 14 [(.k (.int .i64 1)), (.t 45)], none, none, [], none⟩,
  ⟨(some 47), .build [(.int .i64 0), (.int .i64 0), (.int .i64 0), (.int .i64 0), (.str [])] [(0, 1, (.k (.int .i64 4))), (1, 1, (.k (.int .i64 7))), (2, 1, (.t 44)), (4, 1, (.t 46))], none, none, [], none⟩,
  ⟨(some 9), .alloc [(.int .i64 0), (.int .i64 0), (.int .i64 0), (.int .i64 0), (.str [])], none, none, [], none⟩,
  ⟨none, .store 5 (.t 9) (.t 47), none, none, [], none⟩]
def ac_law17_ModelLast_14 : AC := .reg l_law17_ModelLast_14
def l_law17_ModelLast_15 : List AOp := [⟨(some 48), .mv (.t 8), none, none, [], none⟩]
def ac_law17_ModelLast_15 : AC := .reg l_law17_ModelLast_15
def l_law17_ModelLast_16 : List AOp := [⟨(some 50), .bin .eql (.t 48) (.k (.int .u8 0)), none, none, [], none⟩,
  ⟨(some 49), .mv (.t 50), none, none, [], none⟩]
def ac_law17_ModelLast_16 : AC := .reg l_law17_ModelLast_16
def l_law17_ModelLast_17 : List AOp := [⟨(some 51), .mv (.t 0), none, none, [], none⟩,
  ⟨(some 52), .build [(.int .i64 0), (.int .i64 0), (.int .i64 0), (.int .i64 0), (.str [])] [(0, 1, (.k (.int .i64 6))), (1, 1, (.k (.int .i64 7))), (2, 1, (.t 51)), (3, 1, (.k (.int .i64 1)))], none, none, [], none⟩,
  ⟨none, .store 5 (.t 9) (.t 52), none, none, [], none⟩]
def ac_law17_ModelLast_17 : AC := .reg l_law17_ModelLast_17
def l_law17_ModelLast_18 : List AOp := [⟨(some 54), .bin .eql (.t 48) (.k (.int .u8 1)), none, none, [], none⟩,
  ⟨(some 53), .mv (.t 54), none, none, [], none⟩]
def ac_law17_ModelLast_18 : AC := .reg l_law17_ModelLast_18
def l_law17_ModelLast_19 : List AOp := [⟨(some 55), .mv (.t 0), none, none, [], none⟩,
  ⟨(some 56), .build [(.int .i64 0), (.int .i64 0), (.int .i64 0), (.int .i64 0), (.str [])] [(0, 1, (.k (.int .i64 5))), (1, 1, (.k (.int .i64 7))), (2, 1, (.t 55)), (3, 1, (.k (.int .i64 1)))], none, none, [], none⟩,
  ⟨none, .store 5 (.t 9) (.t 56), none, none, [], none⟩]
def ac_law17_ModelLast_19 : AC := .reg l_law17_ModelLast_19
def l_law17_ModelLast_20 : List AOp := [⟨(some 58), .bin .eql (.t 48) (.k (.int .u8 2)), none, none, [], none⟩,
  ⟨(some 57), .mv (.t 58), none, none, [], none⟩]
def ac_law17_ModelLast_20 : AC := .reg l_law17_ModelLast_20
def l_law17_ModelLast_21 : List AOp := [⟨(some 59), .mv (.t 0), none, none, [], none⟩,
  ⟨(some 60), .build [(.int .i64 0), (.int .i64 0), (.int .i64 0), (.int .i64 0), (.str [])] [(0, 1, (.k (.int .i64 2))), (1, 1, (.k (.int .i64 7))), (3, 1, (.t 59))], none, none, [], none⟩,
  ⟨none, .store 5 (.t 9) (.t 60), none, none, [], none⟩]
def ac_law17_ModelLast_21 : AC := .reg l_law17_ModelLast_21
def ac_law17_ModelLast_22 : AC := .cond (.t 57) ac_law17_ModelLast_21 .skip
def ac_law17_ModelLast_23 : AC := .seq ac_law17_ModelLast_20 ac_law17_ModelLast_22
def ac_law17_ModelLast_24 : AC := .cond (.t 53) ac_law17_ModelLast_19 ac_law17_ModelLast_23
def ac_law17_ModelLast_25 : AC := .seq ac_law17_ModelLast_18 ac_law17_ModelLast_24
def ac_law17_ModelLast_26 : AC := .cond (.t 49) ac_law17_ModelLast_17 ac_law17_ModelLast_25
def ac_law17_ModelLast_27 : AC := .seq ac_law17_ModelLast_16 ac_law17_ModelLast_26
def ac_law17_ModelLast_28 : AC := .block 2 ac_law17_ModelLast_27
def ac_law17_ModelLast_29 : AC := .seq ac_law17_ModelLast_15 ac_law17_ModelLast_28
def l_law17_ModelLast_30 : List AOp := [⟨(some 61), .mv (.t 5), none, none, [], none⟩,
  ⟨(some 62), .load (some 5) (.t 9), none, none, [], none⟩,
  ⟨(some 63), .icall 12 [(.t 61), (.t 62)], none, none, [], none⟩,
  ⟨(some 64), .fld none 0 (.t 63), none, none, [], none⟩,
  ⟨(some 65), .bin .neq (.t 64) (.k (.int .i64 0)), none, none, [], none⟩,
  ⟨(some 66), .mv (.t 65), none, none, [], none⟩,
  ⟨(some 67), .mv (.t 8), (some (66, false)), none, [], none⟩,
  ⟨(some 68), .bin .eql (.t 67) (.k (.int .u8 2)), (some (66, false)), none, [], none⟩,
  ⟨(some 69), .mv (.t 68), (some (66, false)), none, [], none⟩,
  ⟨(some 70), .mv (.t 5), (some (69, true)), none, [], none⟩,
  ⟨(some 71), .build [(.int .i64 0), (.int .i64 0), (.int .i64 0), (.int .i64 0), (.str [])] [(0, 1, (.k (.int .i64 2))), (1, 1, (.k (.int .i64 7))), (3, 1, (.k (.int .i64 20)))], (some (69, true)), none, [], none⟩,
  ⟨(some 72), .icall 12 [(.t 70), (.t 71)], (some (69, true)), none, [], none⟩,
  ⟨(some 73), .fld none 0 (.t 72), (some (69, true)), none, [], none⟩,
  ⟨(some 74), .bin .neq (.t 73) (.k (.int .i64 0)), (some (69, true)), none, [], none⟩,
  ⟨(some 75), .pick (.t 69) (.t 74) (.k (.bool false)), (some (66, false)), none, [], none⟩,
  ⟨(some 76), .pick (.t 66) (.k (.bool true)) (.t 75), none, none, [], none⟩]
def ac_law17_ModelLast_30 : AC := .reg l_law17_ModelLast_30
def l_law17_ModelLast_31 : List AOp := [⟨(some 4), .mv (.k (.bool false)), none, none, [], none⟩]
def ac_law17_ModelLast_31 : AC := .reg l_law17_ModelLast_31
def ac_law17_ModelLast_32 : AC := .seq ac_law17_ModelLast_31 .ret
def ac_law17_ModelLast_33 : AC := .cond (.t 76) ac_law17_ModelLast_32 .skip
def ac_law17_ModelLast_34 : AC := .seq ac_law17_ModelLast_30 ac_law17_ModelLast_33
def l_law17_ModelLast_35 : List AOp := [⟨(some 77), .call false 14 [(.k (.int .i64 1)), (.k (.int .u8 0))], none, none, [], none⟩,
  ⟨(some 6), .mv (.t 77), none, none, [], none⟩]
def ac_law17_ModelLast_35 : AC := .reg l_law17_ModelLast_35
def l_law17_ModelLast_36 : List AOp := [⟨(some 78), .mv (.t 8), none, none, [], none⟩,
  ⟨(some 79), .bin .gtr (.t 78) (.k (.int .u8 2)), none, none, [], none⟩]
def ac_law17_ModelLast_36 : AC := .reg l_law17_ModelLast_36
def l_law17_ModelLast_37 : List AOp := [⟨(some 80), .mv (.t 8), none, none, [], none⟩,
  ⟨(some 81), .call false 14 [(.k (.int .i64 1)), (.t 80)], none, none, [], none⟩,
  ⟨(some 6), .mv (.t 81), none, none, [], none⟩]
def ac_law17_ModelLast_37 : AC := .reg l_law17_ModelLast_37
def ac_law17_ModelLast_38 : AC := .cond (.t 79) ac_law17_ModelLast_37 .skip
def ac_law17_ModelLast_39 : AC := .seq ac_law17_ModelLast_36 ac_law17_ModelLast_38
def l_law17_ModelLast_40 : List AOp := [⟨(some 82), .mv (.t 5), none, none, [], none⟩,
  ⟨(some 83), .mv (.t 0), none, none, [], none⟩,
  ⟨(some 84), .build [(.int .i64 0), (.int .i64 0), (.int .i64 0), (.int .i64 0), (.str [])] [(0, 1, (.k (.int .i64 7))), (1, 1, (.k (.int .i64 7))), (2, 1, (.t 83)), (3, 1, (.k (.int .i64 1)))], none, none, [], none⟩,
  ⟨(some 85), .icall 12 [(.t 82), (.t 84)], none, none, [], none⟩,
  ⟨(some 10), .alloc [(.int .i64 0), (.str []), (.int .i64 0), (.int .i64 0), (.slc [])], none, none, [], none⟩,
  ⟨none, .store 5 (.t 10) (.t 85), none, none, [], none⟩]
def ac_law17_ModelLast_40 : AC := .reg l_law17_ModelLast_40
def l_law17_ModelLast_41 : List AOp := [⟨(some 86), .faddr 0 (.t 10), none, none, [], none⟩,
  ⟨(some 87), .load none (.t 86), none, none, [], none⟩,
  ⟨(some 88), .bin .neq (.t 87) (.k (.int .i64 0)), none, none, [], none⟩,
  ⟨(some 89), .mv (.t 88), none, none, [], none⟩,
  ⟨(some 90), .faddr 1 (.t 10), (some (89, false)), none, [], none⟩,
  ⟨(some 91), .load none (.t 90), (some (89, false)), none, [], none⟩,
  ⟨(some 92), .mv (.t 6), (some (89, false)), none, [], none⟩,
  ⟨(some 93), .bin .neq (.t 91) (.t 92), (some (89, false)), none, [], none⟩,
  ⟨(some 94), .pick (.t 89) (.k (.bool true)) (.t 93), none, none, [], none⟩]
def ac_law17_ModelLast_41 : AC := .reg l_law17_ModelLast_41
def l_law17_ModelLast_42 : List AOp := [⟨(some 4), .mv (.k (.bool false)), none, none, [], none⟩]
def ac_law17_ModelLast_42 : AC := .reg l_law17_ModelLast_42
def ac_law17_ModelLast_43 : AC := .seq ac_law17_ModelLast_42 .ret
def ac_law17_ModelLast_44 : AC := .cond (.t 94) ac_law17_ModelLast_43 .skip
def ac_law17_ModelLast_45 : AC := .seq ac_law17_ModelLast_41 ac_law17_ModelLast_44
def ac_law17_ModelLast_46 : AC := .seq ac_law17_ModelLast_40 ac_law17_ModelLast_45
def ac_law17_ModelLast_47 : AC := .seq ac_law17_ModelLast_39 ac_law17_ModelLast_46
def ac_law17_ModelLast_48 : AC := .seq ac_law17_ModelLast_35 ac_law17_ModelLast_47
def ac_law17_ModelLast_49 : AC := .seq ac_law17_ModelLast_34 ac_law17_ModelLast_48
def ac_law17_ModelLast_50 : AC := .seq ac_law17_ModelLast_29 ac_law17_ModelLast_49
def ac_law17_ModelLast_51 : AC := .seq ac_law17_ModelLast_14 ac_law17_ModelLast_50
def ac_law17_ModelLast_52 : AC := .seq ac_law17_ModelLast_13 ac_law17_ModelLast_51
def ac_law17_ModelLast_53 : AC := .block 1 ac_law17_ModelLast_52
def l_law17_ModelLast_54 : List AOp := [⟨(some 38), .mv (.t 7), none, none, [], none⟩,
  ⟨(some 39), .bin .add (.t 38) (.k (.int .i64 1)), none, none, [], none⟩,
  ⟨(some 7), .mv (.t 39), none, none, [], none⟩]
def ac_law17_ModelLast_54 : AC := .reg l_law17_ModelLast_54
def ac_law17_ModelLast_55 : AC := .seq ac_law17_ModelLast_53 ac_law17_ModelLast_54
def ac_law17_ModelLast_56 : AC := .seq ac_law17_ModelLast_12 ac_law17_ModelLast_55
def ac_law17_ModelLast_57 : AC := .loop [0, 1, 5, 7] 1000000000 ac_law17_ModelLast_56
def ac_law17_ModelLast_58 : AC := .block 0 ac_law17_ModelLast_57
def ac_law17_ModelLast_59 : AC := .seq ac_law17_ModelLast_9 ac_law17_ModelLast_58
def l_law17_ModelLast_60 : List AOp := [⟨(some 4), .mv (.k (.bool true)), none, none, [], none⟩]
def ac_law17_ModelLast_60 : AC := .reg l_law17_ModelLast_60
def ac_law17_ModelLast_61 : AC := .seq ac_law17_ModelLast_60 .ret
def ac_law17_ModelLast_62 : AC := .seq ac_law17_ModelLast_59 ac_law17_ModelLast_61
def ac_law17_ModelLast_63 : AC := .seq ac_law17_ModelLast_8 ac_law17_ModelLast_62
def ac_law17_ModelLast_64 : AC := .seq ac_law17_ModelLast_7 ac_law17_ModelLast_63
def ac_law17_ModelLast_65 : AC := .seq ac_law17_ModelLast_2 ac_law17_ModelLast_64
def ac_law17_ModelLast_66 : AC := .seq ac_law17_ModelLast_1 ac_law17_ModelLast_65
def ac_law17_ModelLast_67 : AC := .seq ac_law17_ModelLast_0 ac_law17_ModelLast_66
def ac_law17_ModelLast : AC := ac_law17_ModelLast_67
theorem comp_law17_ModelLast : compF Try.prog [1000010, 1000012] (drawR Try.prog [1000010, 1000012] Try.f4.ntmps) [([0, 1, 5, 7], 1000000000)] 2 Try.f4 = some (ac_law17_ModelLast, [.t 4]) := by kernel_rfl
def U_law17_ModelLast := (And.intro (And.intro (And.intro (And.intro (And.intro (And.intro (And.intro @ac_law17_ModelLast.eq_1 (@mR _ _ ac_law17_ModelLast_0.eq_1)) (@mR _ _ ac_law17_ModelLast_1.eq_1)) (And.intro (And.intro (@mR _ _ ac_law17_ModelLast_2.eq_1) (@mR _ _ ac_law17_ModelLast_3.eq_1)) (@mR _ _ ac_law17_ModelLast_4.eq_1))) (And.intro (And.intro (And.intro (@mU _ _ ac_law17_ModelLast_5.eq_1) (@mU _ _ ac_law17_ModelLast_6.eq_1)) (@mU _ _ ac_law17_ModelLast_7.eq_1)) (And.intro (And.intro (@mR _ _ ac_law17_ModelLast_8.eq_1) (@mR _ _ ac_law17_ModelLast_9.eq_1)) (@mR _ _ ac_law17_ModelLast_10.eq_1)))) (And.intro (And.intro (And.intro (And.intro (@mU _ _ ac_law17_ModelLast_11.eq_1) (@mU _ _ ac_law17_ModelLast_12.eq_1)) (@mR _ _ ac_law17_ModelLast_13.eq_1)) (And.intro (And.intro (@mR _ _ ac_law17_ModelLast_14.eq_1) (@mR _ _ ac_law17_ModelLast_15.eq_1)) (@mR _ _ ac_law17_ModelLast_16.eq_1))) (And.intro (And.intro (And.intro (@mR _ _ ac_law17_ModelLast_17.eq_1) (@mR _ _ ac_law17_ModelLast_18.eq_1)) (@mR _ _ ac_law17_ModelLast_19.eq_1)) (And.intro (And.intro (@mR _ _ ac_law17_ModelLast_20.eq_1) (@mR _ _ ac_law17_ModelLast_21.eq_1)) (@mU _ _ ac_law17_ModelLast_22.eq_1))))) (And.intro (And.intro (And.intro (And.intro (And.intro (@mU _ _ ac_law17_ModelLast_23.eq_1) (@mU _ _ ac_law17_ModelLast_24.eq_1)) (@mU _ _ ac_law17_ModelLast_25.eq_1)) (And.intro (And.intro (@mU _ _ ac_law17_ModelLast_26.eq_1) (@mU _ _ ac_law17_ModelLast_27.eq_1)) (@mU _ _ ac_law17_ModelLast_28.eq_1))) (And.intro (And.intro (And.intro (@mU _ _ ac_law17_ModelLast_29.eq_1) (@mR _ _ ac_law17_ModelLast_30.eq_1)) (@mR _ _ ac_law17_ModelLast_31.eq_1)) (And.intro (And.intro (@mU _ _ ac_law17_ModelLast_32.eq_1) (@mU _ _ ac_law17_ModelLast_33.eq_1)) (@mU _ _ ac_law17_ModelLast_34.eq_1)))) (And.intro (And.intro (And.intro (And.intro (@mR _ _ ac_law17_ModelLast_35.eq_1) (@mR _ _ ac_law17_ModelLast_36.eq_1)) (@mR _ _ ac_law17_ModelLast_37.eq_1)) (And.intro (And.intro (@mU _ _ ac_law17_ModelLast_38.eq_1) (@mU _ _ ac_law17_ModelLast_39.eq_1)) (@mR _ _ ac_law17_ModelLast_40.eq_1))) (And.intro (And.intro (And.intro (@mR _ _ ac_law17_ModelLast_41.eq_1) (@mR _ _ ac_law17_ModelLast_42.eq_1)) (@mU _ _ ac_law17_ModelLast_43.eq_1)) (And.intro (And.intro (@mU _ _ ac_law17_ModelLast_44.eq_1) (@mU _ _ ac_law17_ModelLast_45.eq_1)) (@mU _ _ ac_law17_ModelLast_46.eq_1)))))) (And.intro (And.intro (And.intro (And.intro (And.intro (And.intro (@mU _ _ ac_law17_ModelLast_47.eq_1) (@mU _ _ ac_law17_ModelLast_48.eq_1)) (@mU _ _ ac_law17_ModelLast_49.eq_1)) (And.intro (And.intro (@mU _ _ ac_law17_ModelLast_50.eq_1) (@mU _ _ ac_law17_ModelLast_51.eq_1)) (@mU _ _ ac_law17_ModelLast_52.eq_1))) (And.intro (And.intro (And.intro (@mU _ _ ac_law17_ModelLast_53.eq_1) (@mR _ _ ac_law17_ModelLast_54.eq_1)) (@mU _ _ ac_law17_ModelLast_55.eq_1)) (And.intro (And.intro (@mU _ _ ac_law17_ModelLast_56.eq_1) (@mU _ _ ac_law17_ModelLast_57.eq_1)) (@mU _ _ ac_law17_ModelLast_58.eq_1)))) (And.intro (And.intro (And.intro (And.intro (@mU _ _ ac_law17_ModelLast_59.eq_1) (@mR _ _ ac_law17_ModelLast_60.eq_1)) (@mU _ _ ac_law17_ModelLast_61.eq_1)) (And.intro (And.intro (@mU _ _ ac_law17_ModelLast_62.eq_1) (@mU _ _ ac_law17_ModelLast_63.eq_1)) (@mU _ _ ac_law17_ModelLast_64.eq_1))) (And.intro (And.intro (And.intro (@mU _ _ ac_law17_ModelLast_65.eq_1) (@mU _ _ ac_law17_ModelLast_66.eq_1)) (@mU _ _ ac_law17_ModelLast_67.eq_1)) (And.intro (And.intro @l_law17_ModelLast_0.eq_1 @l_law17_ModelLast_1.eq_1) @l_law17_ModelLast_2.eq_1)))) (And.intro (And.intro (And.intro (And.intro (And.intro @l_law17_ModelLast_3.eq_1 @l_law17_ModelLast_4.eq_1) @l_law17_ModelLast_8.eq_1) (And.intro (And.intro @l_law17_ModelLast_9.eq_1 @l_law17_ModelLast_10.eq_1) @l_law17_ModelLast_13.eq_1)) (And.intro (And.intro (And.intro @l_law17_ModelLast_14.eq_1 @l_law17_ModelLast_15.eq_1) @l_law17_ModelLast_16.eq_1) (And.intro (And.intro @l_law17_ModelLast_17.eq_1 @l_law17_ModelLast_18.eq_1) @l_law17_ModelLast_19.eq_1))) (And.intro (And.intro (And.intro (And.intro @l_law17_ModelLast_20.eq_1 @l_law17_ModelLast_21.eq_1) @l_law17_ModelLast_30.eq_1) (And.intro (And.intro @l_law17_ModelLast_31.eq_1 @l_law17_ModelLast_35.eq_1) @l_law17_ModelLast_36.eq_1)) (And.intro (And.intro (And.intro @l_law17_ModelLast_37.eq_1 @l_law17_ModelLast_40.eq_1) @l_law17_ModelLast_41.eq_1) (And.intro (And.intro @l_law17_ModelLast_42.eq_1 @l_law17_ModelLast_54.eq_1) @l_law17_ModelLast_60.eq_1))))))

/- scoria/scorialaw17.ModelNil -/
def l_law17_ModelNil_0 : List AOp := [⟨(some 2), .box (.t 0), none, none, [], none⟩,
  ⟨(some 4), .mv (.k (.bool false)), none, none, [], none⟩]
def ac_law17_ModelNil_0 : AC := .reg l_law17_ModelNil_0
def l_law17_ModelNil_1 : List AOp := [⟨(some 5), .mv (.k .nilp), none, none, [], none⟩]
def ac_law17_ModelNil_1 : AC := .reg l_law17_ModelNil_1
def l_law17_ModelNil_2 : List AOp := [⟨(some 7), .mv (.t 5), none, none, [], none⟩,
  ⟨(some 8), .load (some 5) (.t 2), none, none, [], none⟩,
  ⟨(some 9), .icall 12 [(.t 7), (.t 8)], none, none, [], none⟩,
  ⟨(some 6), .alloc [(.int .i64 0), (.str []), (.int .i64 0), (.int .i64 0), (.slc [])], none, none, [], none⟩,
  ⟨none, .store 5 (.t 6) (.t 9), none, none, [], none⟩]
def ac_law17_ModelNil_2 : AC := .reg l_law17_ModelNil_2
def l_law17_ModelNil_3 : List AOp := [⟨(some 10), .call false 11 [], none, none, [], none⟩,
  ⟨(some 11), .mv (.t 10), none, none, [], none⟩,
  ⟨(some 12), .faddr 0 (.t 6), (some (11, true)), none, [], none⟩,
  ⟨(some 13), .load none (.t 12), (some (11, true)), none, [], none⟩,
  ⟨(some 14), .bin .eql (.t 13) (.k (.int .i64 1)), (some (11, true)), none, [], none⟩,
  ⟨(some 15), .pick (.t 11) (.t 14) (.k (.bool false)), none, none, [], none⟩,
  ⟨(some 16), .mv (.t 15), none, none, [], none⟩,
  ⟨(some 17), .faddr 1 (.t 6), (some (16, true)), none, [], none⟩,
  ⟨(some 18), .load none (.t 17), (some (16, true)), none, [], none⟩,
  ⟨(some 19), .bin .eql (.t 18) (.k (.str [])), (some (16, true)), none, [], none⟩,
  ⟨(some 20), .pick (.t 16) (.t 19) (.k (.bool false)), none, none, [], none⟩,
  ⟨(some 21), .mv (.t 20), none, none, [], none⟩,
  ⟨(some 22), .faddr 4 (.t 6), (some (21, true)), none, [], none⟩,
  ⟨(some 23), .load none (.t 22), (some (21, true)), none, [], none⟩,
  ⟨(some 24), .len (.t 23), (some (21, true)), none, [], none⟩,
  ⟨(some 25), .bin .eql (.t 24) (.k (.int .i64 0)), (some (21, true)), none, [], none⟩,
  ⟨(some 26), .pick (.t 21) (.t 25) (.k (.bool false)), none, none, [], none⟩,
  ⟨(some 27), .mv (.t 26), none, none, [], none⟩,
  ⟨(some 28), .mv (.t 5), (some (27, true)), none, [], none⟩,
  ⟨(some 29), .icall 19 [(.t 28)], (some (27, true)), none, [], none⟩,
  ⟨(some 30), .isn .p false (.t 29), (some (27, true)), none, [], none⟩,
  ⟨(some 31), .pick (.t 27) (.t 30) (.k (.bool false)), none, none, [], none⟩,
  ⟨(some 32), .mv (.t 31), none, none, [], none⟩,
  ⟨(some 33), .mv (.t 5), (some (32, true)), none, [], none⟩,
  ⟨(some 34), .rcall 22 [(.t 33), (.k .nilp)], (some (32, true)), none, [], none⟩,
  ⟨(some 35), .pick (.t 32) (.t 34) (.k (.bool false)), none, none, [], none⟩,
  ⟨(some 36), .mv (.t 35), none, none, [], none⟩,
  ⟨(some 37), .mv (.t 5), (some (36, true)), none, [], none⟩,
  ⟨(some 38), .icall 10 [(.k (.int .i64 1))], (some (36, true)), none, [], none⟩,
  ⟨(some 39), .rcall 22 [(.t 37), (.t 38)], (some (36, true)), none, [], none⟩,
  ⟨(some 40), .un .not (.t 39), (some (36, true)), none, [], none⟩,
  ⟨(some 41), .pick (.t 36) (.t 40) (.k (.bool false)), none, none, [], none⟩,
  ⟨(some 42), .mv (.t 41), none, none, [], none⟩,
  ⟨(some 43), .icall 10 [(.k (.int .i64 1))], (some (42, true)), none, [], none⟩,
  ⟨(some 44), .mv (.t 5), (some (42, true)), none, [], none⟩,
  ⟨(some 45), .rcall 22 [(.t 43), (.t 44)], (some (42, true)), none, [], none⟩,
  ⟨(some 46), .un .not (.t 45), (some (42, true)), none, [], none⟩,
  ⟨(some 47), .pick (.t 42) (.t 46) (.k (.bool false)), none, none, [], none⟩,
  ⟨(some 48), .mv (.t 47), none, none, [], none⟩,
  ⟨(some 49), .mv (.t 5), (some (48, true)), none, [], none⟩,
  ⟨(some 50), .mv (.t 1), (some (48, true)), none, [], none⟩,
  ⟨(some 51), .icall 21 [(.t 49), (.t 50)], (some (48, true)), none, [], none⟩,
  ⟨(some 52), .len (.t 51), (some (48, true)), none, [], none⟩,
  ⟨(some 53), .bin .eql (.t 52) (.k (.int .i64 0)), (some (48, true)), none, [], none⟩,
  ⟨(some 54), .pick (.t 48) (.t 53) (.k (.bool false)), none, none, [], none⟩,
  ⟨(some 55), .mv (.t 54), none, none, [], none⟩,
  ⟨(some 56), .mv (.t 5), (some (55, true)), none, [], none⟩,
  ⟨(some 57), .icall 20 [(.t 56)], (some (55, true)), none, [], none⟩,
  ⟨(some 58), .len (.t 57), (some (55, true)), none, [], none⟩,
  ⟨(some 59), .bin .eql (.t 58) (.k (.int .i64 0)), (some (55, true)), none, [], none⟩,
  ⟨(some 60), .pick (.t 55) (.t 59) (.k (.bool false)), none, none, [], none⟩,
  ⟨(some 4), .mv (.t 60), none, none, [], none⟩]
def ac_law17_ModelNil_3 : AC := .reg l_law17_ModelNil_3
def ac_law17_ModelNil_4 : AC := .seq ac_law17_ModelNil_3 .ret
def ac_law17_ModelNil_5 : AC := .seq ac_law17_ModelNil_2 ac_law17_ModelNil_4
def ac_law17_ModelNil_6 : AC := .seq ac_law17_ModelNil_1 ac_law17_ModelNil_5
def ac_law17_ModelNil_7 : AC := .seq ac_law17_ModelNil_0 ac_law17_ModelNil_6
def ac_law17_ModelNil : AC := ac_law17_ModelNil_7
theorem comp_law17_ModelNil : compF Try.prog [1000012, 1000019, 4000022, 1000010, 1000021, 1000020] (drawR Try.prog [1000012, 1000019, 4000022, 1000010, 1000021, 1000020] Try.f9.ntmps) [] 2 Try.f9 = some (ac_law17_ModelNil, [.t 4]) := by kernel_rfl
def U_law17_ModelNil := (And.intro (And.intro (And.intro (And.intro @ac_law17_ModelNil.eq_1 (@mR _ _ ac_law17_ModelNil_0.eq_1)) (And.intro (@mR _ _ ac_law17_ModelNil_1.eq_1) (@mR _ _ ac_law17_ModelNil_2.eq_1))) (And.intro (And.intro (@mR _ _ ac_law17_ModelNil_3.eq_1) (@mU _ _ ac_law17_ModelNil_4.eq_1)) (@mU _ _ ac_law17_ModelNil_5.eq_1))) (And.intro (And.intro (And.intro (@mU _ _ ac_law17_ModelNil_6.eq_1) (@mU _ _ ac_law17_ModelNil_7.eq_1)) @l_law17_ModelNil_0.eq_1) (And.intro (And.intro @l_law17_ModelNil_1.eq_1 @l_law17_ModelNil_2.eq_1) @l_law17_ModelNil_3.eq_1)))

/- scoria/scorialaw17.awake -/
def l_law17_awake_0 : List AOp := [⟨(some 0), .mv (.k (.bool false)), none, none, [], none⟩]
def ac_law17_awake_0 : AC := .reg l_law17_awake_0
def l_law17_awake_1 : List AOp := [⟨(some 7), .icall 10 [(.k (.int .i64 5))], none, none, [], none⟩,
  ⟨(some 1), .mv (.t 7), none, none, [], none⟩]
def ac_law17_awake_1 : AC := .reg l_law17_awake_1
def l_law17_awake_2 : List AOp := [⟨(some 8), .mv (.t 1), none, none, [], none⟩,
  ⟨(some 9), .build [(.int .i64 0), (.int .i64 0), (.int .i64 0), (.int .i64 0), (.str [])] [(0, 1, (.k (.int .i64 1))), (1, 1, (.k (.int .i64 1))), (3, 1, (.k (.int .i64 10)))], none, none, [], none⟩,
  ⟨(some 10), .icall 12 [(.t 8), (.t 9)], none, none, [], none⟩,
  ⟨(some 2), .alloc [(.int .i64 0), (.str []), (.int .i64 0), (.int .i64 0), (.slc [])], none, none, [], none⟩,
  ⟨none, .store 5 (.t 2) (.t 10), none, none, [], none⟩]
def ac_law17_awake_2 : AC := .reg l_law17_awake_2
def l_law17_awake_3 : List AOp := [⟨(some 11), .mv (.t 1), none, none, [], none⟩,
  ⟨(some 12), .call false 14 [(.k (.int .i64 2)), (.k (.int .u8 120))], none, none, [], none⟩,
  ⟨(some 13), .build [(.int .i64 0), (.int .i64 0), (.int .i64 0), (.int .i64 0), (.str [])] [(0, 1, (.k (.int .i64 4))), (1, 1, (.k (.int .i64 1))), (2, 1, (.k (.int .i64 3))), (4, 1, (.t 12))], none, none, [], none⟩,
  ⟨(some 14), .icall 12 [(.t 11), (.t 13)], none, none, [], none⟩,
  ⟨(some 3), .alloc [(.int .i64 0), (.str []), (.int .i64 0), (.int .i64 0), (.slc [])], none, none, [], none⟩,
  ⟨none, .store 5 (.t 3) (.t 14), none, none, [], none⟩]
def ac_law17_awake_3 : AC := .reg l_law17_awake_3
def l_law17_awake_4 : List AOp := [⟨(some 15), .mv (.t 1), none, none, [], none⟩,
  ⟨(some 16), .build [(.int .i64 0), (.int .i64 0), (.int .i64 0), (.int .i64 0), (.str [])] [(0, 1, (.k (.int .i64 6))), (1, 1, (.k (.int .i64 1))), (2, 1, (.k (.int .i64 4))), (3, 1, (.k (.int .i64 1)))], none, none, [], none⟩,
  ⟨(some 17), .icall 12 [(.t 15), (.t 16)], none, none, [], none⟩,
  ⟨(some 4), .alloc [(.int .i64 0), (.str []), (.int .i64 0), (.int .i64 0), (.slc [])], none, none, [], none⟩,
  ⟨none, .store 5 (.t 4) (.t 17), none, none, [], none⟩]
def ac_law17_awake_4 : AC := .reg l_law17_awake_4
def l_law17_awake_5 : List AOp := [⟨(some 18), .mv (.t 1), none, none, [], none⟩,
  ⟨(some 19), .build [(.int .i64 0), (.int .i64 0), (.int .i64 0), (.int .i64 0), (.str [])] [(0, 1, (.k (.int .i64 7))), (1, 1, (.k (.int .i64 1))), (2, 1, (.k (.int .i64 3))), (3, 1, (.k (.int .i64 2)))], none, none, [], none⟩,
  ⟨(some 20), .icall 12 [(.t 18), (.t 19)], none, none, [], none⟩,
  ⟨(some 5), .alloc [(.int .i64 0), (.str []), (.int .i64 0), (.int .i64 0), (.slc [])], none, none, [], none⟩,
  ⟨none, .store 5 (.t 5) (.t 20), none, none, [], none⟩]
def ac_law17_awake_5 : AC := .reg l_law17_awake_5
def l_law17_awake_6 : List AOp := [⟨(some 21), .mv (.t 1), none, none, [], none⟩,
  ⟨(some 22), .build [(.int .i64 0), (.int .i64 0), (.int .i64 0), (.int .i64 0), (.str [])] [(0, 1, (.k (.int .i64 9))), (1, 1, (.k (.int .i64 1)))], none, none, [], none⟩,
  ⟨(some 23), .icall 12 [(.t 21), (.t 22)], none, none, [], none⟩,
  ⟨(some 6), .alloc [(.int .i64 0), (.str []), (.int .i64 0), (.int .i64 0), (.slc [])], none, none, [], none⟩,
  ⟨none, .store 5 (.t 6) (.t 23), none, none, [], none⟩]
def ac_law17_awake_6 : AC := .reg l_law17_awake_6
def l_law17_awake_7 : List AOp := [⟨(some 24), .faddr 0 (.t 2), none, none, [], none⟩,
  ⟨(some 25), .load none (.t 24), none, none, [], none⟩,
  ⟨(some 26), .bin .eql (.t 25) (.k (.int .i64 0)), none, none, [], none⟩,
  ⟨(some 27), .mv (.t 26), none, none, [], none⟩,
  ⟨(some 28), .faddr 0 (.t 3), (some (27, true)), none, [], none⟩,
  ⟨(some 29), .load none (.t 28), (some (27, true)), none, [], none⟩,
  ⟨(some 30), .bin .eql (.t 29) (.k (.int .i64 0)), (some (27, true)), none, [], none⟩,
  ⟨(some 31), .pick (.t 27) (.t 30) (.k (.bool false)), none, none, [], none⟩,
  ⟨(some 32), .mv (.t 31), none, none, [], none⟩,
  ⟨(some 33), .faddr 0 (.t 4), (some (32, true)), none, [], none⟩,
  ⟨(some 34), .load none (.t 33), (some (32, true)), none, [], none⟩,
  ⟨(some 35), .bin .eql (.t 34) (.k (.int .i64 0)), (some (32, true)), none, [], none⟩,
  ⟨(some 36), .pick (.t 32) (.t 35) (.k (.bool false)), none, none, [], none⟩,
  ⟨(some 37), .mv (.t 36), none, none, [], none⟩,
  ⟨(some 38), .faddr 0 (.t 5), (some (37, true)), none, [], none⟩,
  ⟨(some 39), .load none (.t 38), (some (37, true)), none, [], none⟩,
  ⟨(some 40), .bin .eql (.t 39) (.k (.int .i64 0)), (some (37, true)), none, [], none⟩,
  ⟨(some 41), .pick (.t 37) (.t 40) (.k (.bool false)), none, none, [], none⟩,
  ⟨(some 42), .mv (.t 41), none, none, [], none⟩,
  ⟨(some 43), .faddr 1 (.t 5), (some (42, true)), none, [], none⟩,
  ⟨(some 44), .load none (.t 43), (some (42, true)), none, [], none⟩,
  ⟨(some 45), .call false 14 [(.k (.int .i64 1)), (.k (.int .u8 120))], (some (42, true)), none, [], none⟩,
  ⟨(some 46), .call false 14 [(.k (.int .i64 1)), (.k (.int .u8 0))], (some (42, true)), none, [], none⟩,
  ⟨(some 47), .bin .add (.t 45) (.t 46), (some (42, true)), none, [], none⟩,
  ⟨(some 48), .bin .eql (.t 44) (.t 47), (some (42, true)), none, [], none⟩,
  ⟨(some 49), .pick (.t 42) (.t 48) (.k (.bool false)), none, none, [], none⟩,
  ⟨(some 50), .mv (.t 49), none, none, [], none⟩,
  ⟨(some 51), .faddr 2 (.t 6), (some (50, true)), none, [], none⟩,
  ⟨(some 52), .load none (.t 51), (some (50, true)), none, [], none⟩,
  ⟨(some 53), .bin .eql (.t 52) (.k (.int .i64 10)), (some (50, true)), none, [], none⟩,
  ⟨(some 54), .pick (.t 50) (.t 53) (.k (.bool false)), none, none, [], none⟩,
  ⟨(some 55), .mv (.t 54), none, none, [], none⟩,
  ⟨(some 56), .faddr 3 (.t 6), (some (55, true)), none, [], none⟩,
  ⟨(some 57), .load none (.t 56), (some (55, true)), none, [], none⟩,
  ⟨(some 58), .bin .eql (.t 57) (.k (.int .i64 1)), (some (55, true)), none, [], none⟩,
  ⟨(some 59), .pick (.t 55) (.t 58) (.k (.bool false)), none, none, [], none⟩,
  ⟨(some 0), .mv (.t 59), none, none, [], none⟩]
def ac_law17_awake_7 : AC := .dreg 0 l_law17_awake_7
def ac_law17_awake_8 : AC := .seq ac_law17_awake_7 .ret
def ac_law17_awake_9 : AC := .seq ac_law17_awake_6 ac_law17_awake_8
def ac_law17_awake_10 : AC := .seq ac_law17_awake_5 ac_law17_awake_9
def ac_law17_awake_11 : AC := .seq ac_law17_awake_4 ac_law17_awake_10
def ac_law17_awake_12 : AC := .seq ac_law17_awake_3 ac_law17_awake_11
def ac_law17_awake_13 : AC := .seq ac_law17_awake_2 ac_law17_awake_12
def ac_law17_awake_14 : AC := .seq ac_law17_awake_1 ac_law17_awake_13
def ac_law17_awake_15 : AC := .seq ac_law17_awake_0 ac_law17_awake_14
def ac_law17_awake : AC := ac_law17_awake_15
theorem comp_law17_awake : compF Try.prog [1000010, 1000012] (drawR Try.prog [1000010, 1000012] Try.f11.ntmps) [] 0 Try.f11 = some (ac_law17_awake, [.t 0]) := by kernel_rfl
def U_law17_awake := (And.intro (And.intro (And.intro (And.intro (And.intro @ac_law17_awake.eq_1 (@mR _ _ ac_law17_awake_0.eq_1)) (And.intro (@mR _ _ ac_law17_awake_1.eq_1) (@mR _ _ ac_law17_awake_2.eq_1))) (And.intro (And.intro (@mR _ _ ac_law17_awake_3.eq_1) (@mR _ _ ac_law17_awake_4.eq_1)) (@mR _ _ ac_law17_awake_5.eq_1))) (And.intro (And.intro (And.intro (@mR _ _ ac_law17_awake_6.eq_1) (@mD _ _ _ ac_law17_awake_7.eq_1)) (@mU _ _ ac_law17_awake_8.eq_1)) (And.intro (And.intro (@mU _ _ ac_law17_awake_9.eq_1) (@mU _ _ ac_law17_awake_10.eq_1)) (@mU _ _ ac_law17_awake_11.eq_1)))) (And.intro (And.intro (And.intro (And.intro (@mU _ _ ac_law17_awake_12.eq_1) (@mU _ _ ac_law17_awake_13.eq_1)) (@mU _ _ ac_law17_awake_14.eq_1)) (And.intro (And.intro (@mU _ _ ac_law17_awake_15.eq_1) @l_law17_awake_0.eq_1) @l_law17_awake_1.eq_1)) (And.intro (And.intro (And.intro @l_law17_awake_2.eq_1 @l_law17_awake_3.eq_1) @l_law17_awake_4.eq_1) (And.intro (And.intro @l_law17_awake_5.eq_1 @l_law17_awake_6.eq_1) @l_law17_awake_7.eq_1))))

/- scoria/scorialaw17.small -/
def l_law17_small_0 : List AOp := [⟨(some 1), .box (.t 0), none, none, [], none⟩,
  ⟨(some 2), .mv (.k (.bool false)), none, none, [], none⟩]
def ac_law17_small_0 : AC := .reg l_law17_small_0
def l_law17_small_1 : List AOp := [⟨(some 3), .faddr 4 (.t 1), none, none, [], none⟩,
  ⟨(some 4), .load none (.t 3), none, none, [], none⟩,
  ⟨(some 5), .lens (.t 4), none, none, [], none⟩,
  ⟨(some 6), .bin .leq (.t 5) (.k (.int .i64 1000)), none, none, [], none⟩,
  ⟨(some 2), .mv (.t 6), none, none, [], none⟩]
def ac_law17_small_1 : AC := .reg l_law17_small_1
def ac_law17_small_2 : AC := .seq ac_law17_small_1 .ret
def ac_law17_small_3 : AC := .seq ac_law17_small_0 ac_law17_small_2
def ac_law17_small : AC := ac_law17_small_3
theorem comp_law17_small : compF Try.prog [] (drawR Try.prog [] Try.f13.ntmps) [] 1 Try.f13 = some (ac_law17_small, [.t 2]) := by kernel_rfl
def U_law17_small := (And.intro (And.intro (And.intro @ac_law17_small.eq_1 (@mR _ _ ac_law17_small_0.eq_1)) (And.intro (@mR _ _ ac_law17_small_1.eq_1) (@mU _ _ ac_law17_small_2.eq_1))) (And.intro (And.intro (@mU _ _ ac_law17_small_3.eq_1) @l_law17_small_0.eq_1) @l_law17_small_1.eq_1))

/- scoria/scorialaw17.Text -/
def l_law17_Text_0 : List AOp := [⟨(some 4), .mv (.k (.str [])), none, none, [], none⟩]
def ac_law17_Text_0 : AC := .reg l_law17_Text_0
def l_law17_Text_1 : List AOp := [⟨(some 5), .nilown 1, none, none, [], none⟩]
def ac_law17_Text_1 : AC := .reg l_law17_Text_1
def l_law17_Text_2 : List AOp := [⟨(some 6), .mv (.k (.int .i64 0)), none, none, [], none⟩]
def ac_law17_Text_2 : AC := .reg l_law17_Text_2
def l_law17_Text_3 : List AOp := [⟨(some 7), .mv (.t 6), none, none, [], none⟩,
  ⟨(some 8), .mv (.t 0), none, none, [], none⟩,
  ⟨(some 9), .bin .mul (.t 8) (.k (.int .i64 32)), none, none, [], none⟩,
  ⟨(some 10), .bin .lss (.t 7) (.t 9), none, none, [], none⟩]
def ac_law17_Text_3 : AC := .reg l_law17_Text_3
def ac_law17_Text_4 : AC := .cond (.t 10) .skip (.exit 0)
def ac_law17_Text_5 : AC := .seq ac_law17_Text_3 ac_law17_Text_4
def l_law17_Text_6 : List AOp := [⟨(some 13), .mv (.t 5), none, none, [], none⟩,
  ⟨(some 14), .mv (.t 1), none, none, [], none⟩,
  ⟨(some 15), .blds false [(.int .u8 0)] 1 [(0, (.t 14))], none, none, [], none⟩,
  ⟨(some 16), .app 1 1 [(.int .u8 0)] (.t 13) (.t 15), none, none, [], none⟩,
  ⟨(some 5), .mv (.t 16), none, none, [], none⟩]
def ac_law17_Text_6 : AC := .reg l_law17_Text_6
def ac_law17_Text_7 : AC := .block 1 ac_law17_Text_6
def l_law17_Text_8 : List AOp := [⟨(some 11), .mv (.t 6), none, none, [], none⟩,
  ⟨(some 12), .bin .add (.t 11) (.k (.int .i64 1)), none, none, [], none⟩,
  ⟨(some 6), .mv (.t 12), none, none, [], none⟩]
def ac_law17_Text_8 : AC := .reg l_law17_Text_8
def ac_law17_Text_9 : AC := .seq ac_law17_Text_7 ac_law17_Text_8
def ac_law17_Text_10 : AC := .seq ac_law17_Text_5 ac_law17_Text_9
def ac_law17_Text_11 : AC := .loop [0, 1, 5, 6] 1 ac_law17_Text_10
def ac_law17_Text_12 : AC := .block 0 ac_law17_Text_11
def ac_law17_Text_13 : AC := .seq ac_law17_Text_2 ac_law17_Text_12
def l_law17_Text_14 : List AOp := [⟨(some 17), .mv (.t 5), none, none, [], none⟩,
  ⟨(some 18), .b2s (.t 17), none, none, [], none⟩,
  ⟨(some 4), .mv (.t 18), none, none, [], none⟩]
def ac_law17_Text_14 : AC := .reg l_law17_Text_14
def ac_law17_Text_15 : AC := .seq ac_law17_Text_14 .ret
def ac_law17_Text_16 : AC := .seq ac_law17_Text_13 ac_law17_Text_15
def ac_law17_Text_17 : AC := .seq ac_law17_Text_1 ac_law17_Text_16
def ac_law17_Text_18 : AC := .seq ac_law17_Text_0 ac_law17_Text_17
def ac_law17_Text : AC := ac_law17_Text_18
theorem comp_law17_Text : compF Try.prog [5] (drawR Try.prog [5] Try.f14.ntmps) [([0, 1, 5, 6], 1)] 2 Try.f14 = some (ac_law17_Text, [.t 4]) := by kernel_rfl
def U_law17_Text := (And.intro (And.intro (And.intro (And.intro (And.intro @ac_law17_Text.eq_1 (@mR _ _ ac_law17_Text_0.eq_1)) (And.intro (@mR _ _ ac_law17_Text_1.eq_1) (@mR _ _ ac_law17_Text_2.eq_1))) (And.intro (And.intro (@mR _ _ ac_law17_Text_3.eq_1) (@mU _ _ ac_law17_Text_4.eq_1)) (@mU _ _ ac_law17_Text_5.eq_1))) (And.intro (And.intro (And.intro (@mR _ _ ac_law17_Text_6.eq_1) (@mU _ _ ac_law17_Text_7.eq_1)) (And.intro (@mR _ _ ac_law17_Text_8.eq_1) (@mU _ _ ac_law17_Text_9.eq_1))) (And.intro (And.intro (@mU _ _ ac_law17_Text_10.eq_1) (@mU _ _ ac_law17_Text_11.eq_1)) (@mU _ _ ac_law17_Text_12.eq_1)))) (And.intro (And.intro (And.intro (And.intro (@mU _ _ ac_law17_Text_13.eq_1) (@mR _ _ ac_law17_Text_14.eq_1)) (And.intro (@mU _ _ ac_law17_Text_15.eq_1) (@mU _ _ ac_law17_Text_16.eq_1))) (And.intro (And.intro (@mU _ _ ac_law17_Text_17.eq_1) (@mU _ _ ac_law17_Text_18.eq_1)) @l_law17_Text_0.eq_1)) (And.intro (And.intro (And.intro @l_law17_Text_1.eq_1 @l_law17_Text_2.eq_1) @l_law17_Text_3.eq_1) (And.intro (And.intro @l_law17_Text_6.eq_1 @l_law17_Text_8.eq_1) @l_law17_Text_14.eq_1))))

end Go.Proofs.Ythjnfjgejdlbfaa.Aw
