/-
  The functions of the seat, translated to abstract code. Written by a program (wip/Gen2.lean).
-/
import Derived.Test.YtdgpiobmncohjaaDoorCodeN
import Derived.Test.YtdgpiobmncohjaaDoorProg
set_option maxRecDepth 100000
set_option linter.all false
namespace Go.Proofs.YtdgpiobmncohjaaDoor.Aw
open Go.RowKit
/- scoria/scoriatop.TopTorn -/
def l_top_TopTorn_0 : List AOp := [⟨(some 3), .box (.t 0), none, none, [], none⟩,
  ⟨(some 4), .box (.t 1), none, none, [], none⟩,
  ⟨(some 5), .box (.t 2), none, none, [], none⟩,
  ⟨(some 6), .mv (.k (.bool false)), none, none, [], none⟩]
def ac_top_TopTorn_0 : AC := .reg l_top_TopTorn_0
def l_top_TopTorn_1 : List AOp := [⟨(some 23), .load (some 5) (.t 3), none, none, [], none⟩,
  ⟨(some 24), .call false 5 [(.t 23)], none, none, [], none⟩,
  ⟨(some 22), .mv (.t 24), none, none, [], none⟩,
  ⟨(some 25), .ext 0 (.t 22), none, none, [], none⟩,
  ⟨(some 26), .ext 1 (.t 22), none, none, [], none⟩,
  ⟨(some 7), .mv (.t 25), none, none, [], none⟩,
  ⟨(some 8), .mv (.t 26), none, none, [], none⟩]
def ac_top_TopTorn_1 : AC := .reg l_top_TopTorn_1
def l_top_TopTorn_2 : List AOp := [⟨(some 28), .load (some 5) (.t 4), none, none, [], none⟩,
  ⟨(some 29), .call false 5 [(.t 28)], none, none, [], none⟩,
  ⟨(some 27), .mv (.t 29), none, none, [], none⟩,
  ⟨(some 30), .ext 0 (.t 27), none, none, [], none⟩,
  ⟨(some 31), .ext 1 (.t 27), none, none, [], none⟩,
  ⟨(some 9), .mv (.t 30), none, none, [], none⟩,
  ⟨(some 10), .mv (.t 31), none, none, [], none⟩]
def ac_top_TopTorn_2 : AC := .reg l_top_TopTorn_2
def l_top_TopTorn_3 : List AOp := [⟨(some 32), .mv (.t 8), none, none, [], none⟩,
  ⟨(some 33), .bin .neq (.t 32) (.k (.int .i64 0)), none, none, [], none⟩,
  ⟨(some 34), .mv (.t 33), none, none, [], none⟩,
  ⟨(some 35), .mv (.t 10), (some (34, false)), none, [], none⟩,
  ⟨(some 36), .bin .neq (.t 35) (.k (.int .i64 0)), (some (34, false)), none, [], none⟩,
  ⟨(some 37), .pick (.t 34) (.k (.bool true)) (.t 36), none, none, [], none⟩,
  ⟨(some 38), .mv (.t 37), none, none, [], none⟩,
  ⟨(some 39), .faddr 3 (.t 5), (some (38, false)), none, [], none⟩,
  ⟨(some 40), .load none (.t 39), (some (38, false)), none, [], none⟩,
  ⟨(some 41), .lens (.t 40), (some (38, false)), none, [], none⟩,
  ⟨(some 42), .bin .gtr (.t 41) (.k (.int .i64 500)), (some (38, false)), none, [], none⟩,
  ⟨(some 43), .pick (.t 38) (.k (.bool true)) (.t 42), none, none, [], none⟩]
def ac_top_TopTorn_3 : AC := .reg l_top_TopTorn_3
def l_top_TopTorn_4 : List AOp := [⟨(some 44), .call false 6 [], none, none, [], none⟩,
  ⟨(some 6), .mv (.t 44), none, none, [], none⟩]
def ac_top_TopTorn_4 : AC := .reg l_top_TopTorn_4
def ac_top_TopTorn_5 : AC := .seq ac_top_TopTorn_4 .ret
def ac_top_TopTorn_6 : AC := .cond (.t 43) ac_top_TopTorn_5 .skip
def ac_top_TopTorn_7 : AC := .seq ac_top_TopTorn_3 ac_top_TopTorn_6
def l_top_TopTorn_8 : List AOp := [⟨(some 46), .call false 8 [], none, none, [], none⟩,
  ⟨(some 47), .icall 7 [(.t 46)], none, none, [], none⟩,
  ⟨(some 45), .mv (.t 47), none, none, [], none⟩,
  ⟨(some 48), .ext 0 (.t 45), none, none, [], none⟩,
  ⟨(some 49), .ext 1 (.t 45), none, none, [], none⟩,
  ⟨(some 11), .mv (.t 48), none, none, [], none⟩,
  ⟨(some 12), .mv (.t 49), none, none, [], none⟩]
def ac_top_TopTorn_8 : AC := .reg l_top_TopTorn_8
def l_top_TopTorn_9 : List AOp := [⟨(some 50), .mv (.t 12), none, none, [], none⟩,
  ⟨(some 51), .isn .i true (.t 50), none, none, [], none⟩,
  ⟨(some 52), .mv (.t 51), none, none, [], none⟩,
  ⟨(some 53), .mv (.t 11), (some (52, false)), none, [], none⟩,
  ⟨(some 54), .mv (.t 7), (some (52, false)), none, [], none⟩,
  ⟨(some 55), .icall 9 [(.t 53), (.k (.int .i64 0)), (.t 54)], (some (52, false)), none, [], none⟩,
  ⟨(some 56), .isn .i true (.t 55), (some (52, false)), none, [], none⟩,
  ⟨(some 57), .pick (.t 52) (.k (.bool true)) (.t 56), none, none, [], none⟩]
def ac_top_TopTorn_9 : AC := .reg l_top_TopTorn_9
def l_top_TopTorn_10 : List AOp := [⟨(some 6), .mv (.k (.bool false)), none, none, [], none⟩]
def ac_top_TopTorn_10 : AC := .reg l_top_TopTorn_10
def ac_top_TopTorn_11 : AC := .seq ac_top_TopTorn_10 .ret
def ac_top_TopTorn_12 : AC := .cond (.t 57) ac_top_TopTorn_11 .skip
def ac_top_TopTorn_13 : AC := .seq ac_top_TopTorn_9 ac_top_TopTorn_12
def l_top_TopTorn_14 : List AOp := [⟨(some 58), .faddr 0 (.t 5), none, none, [], none⟩,
  ⟨none, .store 1 (.t 58) (.k (.int .i64 1)), none, none, [], none⟩,
  ⟨(some 59), .faddr 1 (.t 5), none, none, [], none⟩,
  ⟨none, .store 1 (.t 59) (.k (.int .i64 1)), none, none, [], none⟩]
def ac_top_TopTorn_14 : AC := .reg l_top_TopTorn_14
def l_top_TopTorn_15 : List AOp := [⟨(some 60), .mv (.t 11), none, none, [], none⟩,
  ⟨(some 61), .load (some 4) (.t 5), none, none, [], none⟩,
  ⟨(some 62), .blds false [(.int .i64 0), (.int .i64 0), (.int .i64 0), (.str [])] 1 [(0, (.t 61))], none, none, [], none⟩,
  ⟨(some 63), .icall 10 [(.t 60), (.t 62)], none, none, [], none⟩]
def ac_top_TopTorn_15 : AC := .reg l_top_TopTorn_15
def l_top_TopTorn_16 : List AOp := [⟨(some 64), .mv (.t 11), none, none, [], none⟩,
  ⟨(some 65), .mv (.t 9), none, none, [], none⟩,
  ⟨(some 66), .icall 9 [(.t 64), (.k (.int .i64 1)), (.t 65)], none, none, [], none⟩,
  ⟨(some 67), .rcall 11 [(.t 66)], none, none, [], none⟩,
  ⟨(some 68), .bin .neq (.t 67) (.k (.int .i64 9)), none, none, [], none⟩]
def ac_top_TopTorn_16 : AC := .reg l_top_TopTorn_16
def l_top_TopTorn_17 : List AOp := [⟨(some 6), .mv (.k (.bool false)), none, none, [], none⟩]
def ac_top_TopTorn_17 : AC := .reg l_top_TopTorn_17
def ac_top_TopTorn_18 : AC := .seq ac_top_TopTorn_17 .ret
def ac_top_TopTorn_19 : AC := .cond (.t 68) ac_top_TopTorn_18 .skip
def ac_top_TopTorn_20 : AC := .seq ac_top_TopTorn_16 ac_top_TopTorn_19
def l_top_TopTorn_21 : List AOp := [⟨(some 69), .mv (.t 11), none, none, [], none⟩,
  ⟨(some 70), .icall 12 [(.t 69)], none, none, [], none⟩]
def ac_top_TopTorn_21 : AC := .reg l_top_TopTorn_21
def l_top_TopTorn_22 : List AOp := [⟨(some 72), .mv (.t 11), none, none, [], none⟩,
  ⟨(some 73), .icall 13 [(.t 72), (.k (.int .i64 0))], none, none, [], none⟩,
  ⟨(some 71), .mv (.t 73), none, none, [], none⟩,
  ⟨(some 74), .ext 0 (.t 71), none, none, [], none⟩,
  ⟨(some 75), .ext 1 (.t 71), none, none, [], none⟩,
  ⟨(some 13), .mv (.t 74), none, none, [], none⟩,
  ⟨(some 14), .mv (.t 75), none, none, [], none⟩]
def ac_top_TopTorn_22 : AC := .reg l_top_TopTorn_22
def l_top_TopTorn_23 : List AOp := [⟨(some 77), .mv (.t 13), none, none, [], none⟩,
  ⟨(some 78), .call false 14 [(.t 77)], none, none, [], none⟩,
  ⟨(some 76), .mv (.t 78), none, none, [], none⟩,
  ⟨(some 79), .ext 0 (.t 76), none, none, [], none⟩,
  ⟨(some 80), .ext 1 (.t 76), none, none, [], none⟩,
  ⟨(some 15), .alloc [(.int .i64 0), (.int .i64 0), (.int .i64 0), (.int .i64 0), (.str [])], none, none, [], none⟩,
  ⟨none, .store 5 (.t 15) (.t 79), none, none, [], none⟩,
  ⟨(some 16), .mv (.t 80), none, none, [], none⟩]
def ac_top_TopTorn_23 : AC := .reg l_top_TopTorn_23
def l_top_TopTorn_24 : List AOp := [⟨(some 81), .mv (.t 16), none, none, [], none⟩,
  ⟨(some 82), .bin .neq (.t 81) (.k (.int .i64 0)), none, none, [], none⟩,
  ⟨(some 83), .mv (.t 82), none, none, [], none⟩,
  ⟨(some 84), .load (some 5) (.t 15), (some (83, false)), none, [], none⟩,
  ⟨(some 85), .load (some 5) (.t 3), (some (83, false)), none, [], none⟩,
  ⟨(some 86), .eqs true [.i, .i, .i, .i, .s] (.t 84) (.t 85), (some (83, false)), none, [], none⟩,
  ⟨(some 87), .pick (.t 83) (.k (.bool true)) (.t 86), none, none, [], none⟩]
def ac_top_TopTorn_24 : AC := .reg l_top_TopTorn_24
def l_top_TopTorn_25 : List AOp := [⟨(some 6), .mv (.k (.bool false)), none, none, [], none⟩]
def ac_top_TopTorn_25 : AC := .reg l_top_TopTorn_25
def ac_top_TopTorn_26 : AC := .seq ac_top_TopTorn_25 .ret
def ac_top_TopTorn_27 : AC := .cond (.t 87) ac_top_TopTorn_26 .skip
def ac_top_TopTorn_28 : AC := .seq ac_top_TopTorn_24 ac_top_TopTorn_27
def l_top_TopTorn_29 : List AOp := [⟨(some 89), .mv (.t 11), none, none, [], none⟩,
  ⟨(some 90), .icall 13 [(.t 89), (.k (.int .i64 1))], none, none, [], none⟩,
  ⟨(some 88), .mv (.t 90), none, none, [], none⟩,
  ⟨(some 91), .ext 0 (.t 88), none, none, [], none⟩,
  ⟨(some 92), .ext 1 (.t 88), none, none, [], none⟩,
  ⟨(some 17), .mv (.t 91), none, none, [], none⟩,
  ⟨(some 12), .mv (.t 92), none, none, [], none⟩]
def ac_top_TopTorn_29 : AC := .reg l_top_TopTorn_29
def l_top_TopTorn_30 : List AOp := [⟨(some 94), .mv (.t 17), none, none, [], none⟩,
  ⟨(some 95), .call false 14 [(.t 94)], none, none, [], none⟩,
  ⟨(some 93), .mv (.t 95), none, none, [], none⟩,
  ⟨(some 96), .ext 0 (.t 93), none, none, [], none⟩,
  ⟨(some 97), .ext 1 (.t 93), none, none, [], none⟩,
  ⟨(some 18), .alloc [(.int .i64 0), (.int .i64 0), (.int .i64 0), (.int .i64 0), (.str [])], none, none, [], none⟩,
  ⟨none, .store 5 (.t 18) (.t 96), none, none, [], none⟩,
  ⟨(some 19), .mv (.t 97), none, none, [], none⟩]
def ac_top_TopTorn_30 : AC := .reg l_top_TopTorn_30
def l_top_TopTorn_31 : List AOp := [⟨(some 98), .mv (.t 12), none, none, [], none⟩,
  ⟨(some 99), .isn .i true (.t 98), none, none, [], none⟩]
def ac_top_TopTorn_31 : AC := .reg l_top_TopTorn_31
def l_top_TopTorn_32 : List AOp := [⟨(some 6), .mv (.k (.bool false)), none, none, [], none⟩]
def ac_top_TopTorn_32 : AC := .reg l_top_TopTorn_32
def ac_top_TopTorn_33 : AC := .seq ac_top_TopTorn_32 .ret
def ac_top_TopTorn_34 : AC := .cond (.t 99) ac_top_TopTorn_33 .skip
def ac_top_TopTorn_35 : AC := .seq ac_top_TopTorn_31 ac_top_TopTorn_34
def l_top_TopTorn_36 : List AOp := [⟨(some 100), .mv (.t 17), none, none, [], none⟩,
  ⟨(some 101), .mv (.t 9), none, none, [], none⟩,
  ⟨(some 102), .bin .eql (.t 100) (.t 101), none, none, [], none⟩]
def ac_top_TopTorn_36 : AC := .reg l_top_TopTorn_36
def l_top_TopTorn_37 : List AOp := [⟨(some 103), .call false 6 [], none, none, [], none⟩,
  ⟨(some 104), .mv (.t 103), none, none, [], none⟩,
  ⟨(some 105), .mv (.t 19), (some (104, true)), none, [], none⟩,
  ⟨(some 106), .bin .eql (.t 105) (.k (.int .i64 0)), (some (104, true)), none, [], none⟩,
  ⟨(some 107), .pick (.t 104) (.t 106) (.k (.bool false)), none, none, [], none⟩,
  ⟨(some 108), .mv (.t 107), none, none, [], none⟩,
  ⟨(some 109), .load (some 5) (.t 18), (some (108, true)), none, [], none⟩,
  ⟨(some 110), .load (some 5) (.t 4), (some (108, true)), none, [], none⟩,
  ⟨(some 111), .eqs false [.i, .i, .i, .i, .s] (.t 109) (.t 110), (some (108, true)), none, [], none⟩,
  ⟨(some 112), .pick (.t 108) (.t 111) (.k (.bool false)), none, none, [], none⟩,
  ⟨(some 6), .mv (.t 112), none, none, [], none⟩]
def ac_top_TopTorn_37 : AC := .reg l_top_TopTorn_37
def ac_top_TopTorn_38 : AC := .seq ac_top_TopTorn_37 .ret
def ac_top_TopTorn_39 : AC := .cond (.t 102) ac_top_TopTorn_38 .skip
def ac_top_TopTorn_40 : AC := .seq ac_top_TopTorn_36 ac_top_TopTorn_39
def l_top_TopTorn_41 : List AOp := [⟨(some 114), .load (some 5) (.t 18), none, none, [], none⟩,
  ⟨(some 115), .call false 5 [(.t 114)], none, none, [], none⟩,
  ⟨(some 113), .mv (.t 115), none, none, [], none⟩,
  ⟨(some 116), .ext 0 (.t 113), none, none, [], none⟩,
  ⟨(some 117), .ext 1 (.t 113), none, none, [], none⟩,
  ⟨(some 20), .mv (.t 116), none, none, [], none⟩,
  ⟨(some 21), .mv (.t 117), none, none, [], none⟩]
def ac_top_TopTorn_41 : AC := .reg l_top_TopTorn_41
def l_top_TopTorn_42 : List AOp := [⟨(some 118), .call false 6 [], none, none, [], none⟩,
  ⟨(some 119), .mv (.t 118), none, none, [], none⟩,
  ⟨(some 120), .mv (.t 19), (some (119, true)), none, [], none⟩,
  ⟨(some 121), .bin .neq (.t 120) (.k (.int .i64 0)), (some (119, true)), none, [], none⟩,
  ⟨(some 122), .mv (.t 121), (some (119, true)), none, [], none⟩,
  ⟨(some 123), .load (some 5) (.t 18), (some (122, true)), none, [], none⟩,
  ⟨(some 124), .build [(.int .i64 0), (.int .i64 0), (.int .i64 0), (.int .i64 0), (.str [])] [], (some (122, true)), none, [], none⟩,
  ⟨(some 125), .eqs false [.i, .i, .i, .i, .s] (.t 123) (.t 124), (some (122, true)), none, [], none⟩,
  ⟨(some 126), .pick (.t 122) (.t 125) (.k (.bool false)), (some (119, true)), none, [], none⟩,
  ⟨(some 127), .mv (.t 126), (some (119, true)), none, [], none⟩,
  ⟨(some 128), .mv (.t 19), (some (127, false)), none, [], none⟩,
  ⟨(some 129), .bin .eql (.t 128) (.k (.int .i64 0)), (some (127, false)), none, [], none⟩,
  ⟨(some 130), .mv (.t 129), (some (127, false)), none, [], none⟩,
  ⟨(some 131), .mv (.t 21), (some (130, true)), none, [], none⟩,
  ⟨(some 132), .bin .eql (.t 131) (.k (.int .i64 0)), (some (130, true)), none, [], none⟩,
  ⟨(some 133), .pick (.t 130) (.t 132) (.k (.bool false)), (some (127, false)), none, [], none⟩,
  ⟨(some 134), .mv (.t 133), (some (127, false)), none, [], none⟩,
  ⟨(some 135), .mv (.t 20), (some (134, true)), none, [], none⟩,
  ⟨(some 136), .mv (.t 17), (some (134, true)), none, [], none⟩,
  ⟨(some 137), .bin .eql (.t 135) (.t 136), (some (134, true)), none, [], none⟩,
  ⟨(some 138), .pick (.t 134) (.t 137) (.k (.bool false)), (some (127, false)), none, [], none⟩,
  ⟨(some 139), .pick (.t 127) (.k (.bool true)) (.t 138), (some (119, true)), none, [], none⟩,
  ⟨(some 140), .pick (.t 119) (.t 139) (.k (.bool false)), none, none, [], none⟩,
  ⟨(some 6), .mv (.t 140), none, none, [], none⟩]
def ac_top_TopTorn_42 : AC := .reg l_top_TopTorn_42
def ac_top_TopTorn_43 : AC := .seq ac_top_TopTorn_42 .ret
def ac_top_TopTorn_44 : AC := .seq ac_top_TopTorn_41 ac_top_TopTorn_43
def ac_top_TopTorn_45 : AC := .seq ac_top_TopTorn_40 ac_top_TopTorn_44
def ac_top_TopTorn_46 : AC := .seq ac_top_TopTorn_35 ac_top_TopTorn_45
def ac_top_TopTorn_47 : AC := .seq ac_top_TopTorn_30 ac_top_TopTorn_46
def ac_top_TopTorn_48 : AC := .seq ac_top_TopTorn_29 ac_top_TopTorn_47
def ac_top_TopTorn_49 : AC := .seq ac_top_TopTorn_28 ac_top_TopTorn_48
def ac_top_TopTorn_50 : AC := .seq ac_top_TopTorn_23 ac_top_TopTorn_49
def ac_top_TopTorn_51 : AC := .seq ac_top_TopTorn_22 ac_top_TopTorn_50
def ac_top_TopTorn_52 : AC := .seq ac_top_TopTorn_21 ac_top_TopTorn_51
def ac_top_TopTorn_53 : AC := .seq ac_top_TopTorn_20 ac_top_TopTorn_52
def ac_top_TopTorn_54 : AC := .seq ac_top_TopTorn_15 ac_top_TopTorn_53
def ac_top_TopTorn_55 : AC := .seq ac_top_TopTorn_14 ac_top_TopTorn_54
def ac_top_TopTorn_56 : AC := .seq ac_top_TopTorn_13 ac_top_TopTorn_55
def ac_top_TopTorn_57 : AC := .seq ac_top_TopTorn_8 ac_top_TopTorn_56
def ac_top_TopTorn_58 : AC := .seq ac_top_TopTorn_7 ac_top_TopTorn_57
def ac_top_TopTorn_59 : AC := .seq ac_top_TopTorn_2 ac_top_TopTorn_58
def ac_top_TopTorn_60 : AC := .seq ac_top_TopTorn_1 ac_top_TopTorn_59
def ac_top_TopTorn_61 : AC := .seq ac_top_TopTorn_0 ac_top_TopTorn_60
def ac_top_TopTorn : AC := ac_top_TopTorn_61
theorem comp_top_TopTorn : compF Tryd.prog [1000007, 1000009, 1000010, 4000011, 1000012, 1000013] (drawR Tryd.prog [1000007, 1000009, 1000010, 4000011, 1000012, 1000013] Tryd.f3.ntmps) [] 3 Tryd.f3 = some (ac_top_TopTorn, [.t 6]) := by kernel_rfl
def U_top_TopTorn := (And.intro (And.intro (And.intro (And.intro (And.intro (And.intro (And.intro @ac_top_TopTorn.eq_1 (@mR _ _ ac_top_TopTorn_0.eq_1)) (@mR _ _ ac_top_TopTorn_1.eq_1)) (And.intro (And.intro (@mR _ _ ac_top_TopTorn_2.eq_1) (@mR _ _ ac_top_TopTorn_3.eq_1)) (@mR _ _ ac_top_TopTorn_4.eq_1))) (And.intro (And.intro (And.intro (@mU _ _ ac_top_TopTorn_5.eq_1) (@mU _ _ ac_top_TopTorn_6.eq_1)) (@mU _ _ ac_top_TopTorn_7.eq_1)) (And.intro (@mR _ _ ac_top_TopTorn_8.eq_1) (@mR _ _ ac_top_TopTorn_9.eq_1)))) (And.intro (And.intro (And.intro (And.intro (@mR _ _ ac_top_TopTorn_10.eq_1) (@mU _ _ ac_top_TopTorn_11.eq_1)) (@mU _ _ ac_top_TopTorn_12.eq_1)) (And.intro (And.intro (@mU _ _ ac_top_TopTorn_13.eq_1) (@mR _ _ ac_top_TopTorn_14.eq_1)) (@mR _ _ ac_top_TopTorn_15.eq_1))) (And.intro (And.intro (And.intro (@mR _ _ ac_top_TopTorn_16.eq_1) (@mR _ _ ac_top_TopTorn_17.eq_1)) (@mU _ _ ac_top_TopTorn_18.eq_1)) (And.intro (@mU _ _ ac_top_TopTorn_19.eq_1) (@mU _ _ ac_top_TopTorn_20.eq_1))))) (And.intro (And.intro (And.intro (And.intro (And.intro (@mR _ _ ac_top_TopTorn_21.eq_1) (@mR _ _ ac_top_TopTorn_22.eq_1)) (@mR _ _ ac_top_TopTorn_23.eq_1)) (And.intro (And.intro (@mR _ _ ac_top_TopTorn_24.eq_1) (@mR _ _ ac_top_TopTorn_25.eq_1)) (@mU _ _ ac_top_TopTorn_26.eq_1))) (And.intro (And.intro (And.intro (@mU _ _ ac_top_TopTorn_27.eq_1) (@mU _ _ ac_top_TopTorn_28.eq_1)) (@mR _ _ ac_top_TopTorn_29.eq_1)) (And.intro (@mR _ _ ac_top_TopTorn_30.eq_1) (@mR _ _ ac_top_TopTorn_31.eq_1)))) (And.intro (And.intro (And.intro (And.intro (@mR _ _ ac_top_TopTorn_32.eq_1) (@mU _ _ ac_top_TopTorn_33.eq_1)) (@mU _ _ ac_top_TopTorn_34.eq_1)) (And.intro (And.intro (@mU _ _ ac_top_TopTorn_35.eq_1) (@mR _ _ ac_top_TopTorn_36.eq_1)) (@mR _ _ ac_top_TopTorn_37.eq_1))) (And.intro (And.intro (And.intro (@mU _ _ ac_top_TopTorn_38.eq_1) (@mU _ _ ac_top_TopTorn_39.eq_1)) (@mU _ _ ac_top_TopTorn_40.eq_1)) (And.intro (@mR _ _ ac_top_TopTorn_41.eq_1) (@mR _ _ ac_top_TopTorn_42.eq_1)))))) (And.intro (And.intro (And.intro (And.intro (And.intro (And.intro (@mU _ _ ac_top_TopTorn_43.eq_1) (@mU _ _ ac_top_TopTorn_44.eq_1)) (@mU _ _ ac_top_TopTorn_45.eq_1)) (And.intro (And.intro (@mU _ _ ac_top_TopTorn_46.eq_1) (@mU _ _ ac_top_TopTorn_47.eq_1)) (@mU _ _ ac_top_TopTorn_48.eq_1))) (And.intro (And.intro (And.intro (@mU _ _ ac_top_TopTorn_49.eq_1) (@mU _ _ ac_top_TopTorn_50.eq_1)) (@mU _ _ ac_top_TopTorn_51.eq_1)) (And.intro (@mU _ _ ac_top_TopTorn_52.eq_1) (@mU _ _ ac_top_TopTorn_53.eq_1)))) (And.intro (And.intro (And.intro (And.intro (@mU _ _ ac_top_TopTorn_54.eq_1) (@mU _ _ ac_top_TopTorn_55.eq_1)) (@mU _ _ ac_top_TopTorn_56.eq_1)) (And.intro (And.intro (@mU _ _ ac_top_TopTorn_57.eq_1) (@mU _ _ ac_top_TopTorn_58.eq_1)) (@mU _ _ ac_top_TopTorn_59.eq_1))) (And.intro (And.intro (And.intro (@mU _ _ ac_top_TopTorn_60.eq_1) (@mU _ _ ac_top_TopTorn_61.eq_1)) @l_top_TopTorn_0.eq_1) (And.intro @l_top_TopTorn_1.eq_1 @l_top_TopTorn_2.eq_1)))) (And.intro (And.intro (And.intro (And.intro (And.intro @l_top_TopTorn_3.eq_1 @l_top_TopTorn_4.eq_1) @l_top_TopTorn_8.eq_1) (And.intro (And.intro @l_top_TopTorn_9.eq_1 @l_top_TopTorn_10.eq_1) @l_top_TopTorn_14.eq_1)) (And.intro (And.intro (And.intro @l_top_TopTorn_15.eq_1 @l_top_TopTorn_16.eq_1) @l_top_TopTorn_17.eq_1) (And.intro @l_top_TopTorn_21.eq_1 @l_top_TopTorn_22.eq_1))) (And.intro (And.intro (And.intro (And.intro @l_top_TopTorn_23.eq_1 @l_top_TopTorn_24.eq_1) @l_top_TopTorn_25.eq_1) (And.intro (And.intro @l_top_TopTorn_29.eq_1 @l_top_TopTorn_30.eq_1) @l_top_TopTorn_31.eq_1)) (And.intro (And.intro (And.intro @l_top_TopTorn_32.eq_1 @l_top_TopTorn_36.eq_1) @l_top_TopTorn_37.eq_1) (And.intro @l_top_TopTorn_41.eq_1 @l_top_TopTorn_42.eq_1))))))

/- scoria/scoriatop.fine -/
def l_top_fine_0 : List AOp := [⟨(some 0), .mv (.k (.bool false)), none, none, [], none⟩]
def ac_top_fine_0 : AC := .reg l_top_fine_0
def l_top_fine_1 : List AOp := [⟨(some 9), .call false 8 [], none, none, [], none⟩,
  ⟨(some 10), .icall 7 [(.t 9)], none, none, [], none⟩,
  ⟨(some 8), .mv (.t 10), none, none, [], none⟩,
  ⟨(some 11), .ext 0 (.t 8), none, none, [], none⟩,
  ⟨(some 12), .ext 1 (.t 8), none, none, [], none⟩,
  ⟨(some 1), .mv (.t 11), none, none, [], none⟩,
  ⟨(some 2), .mv (.t 12), none, none, [], none⟩]
def ac_top_fine_1 : AC := .reg l_top_fine_1
def l_top_fine_2 : List AOp := [⟨(some 14), .build [(.int .i64 0), (.int .i64 0), (.int .i64 0), (.int .i64 0), (.str [])] [(0, 1, (.k (.int .i64 1))), (2, 1, (.k (.int .i64 3))), (4, 1, (.k (.str [97])))], none, none, [], none⟩,
  ⟨(some 15), .call false 5 [(.t 14)], none, none, [], none⟩,
  ⟨(some 13), .mv (.t 15), none, none, [], none⟩,
  ⟨(some 16), .ext 0 (.t 13), none, none, [], none⟩,
  ⟨(some 17), .ext 1 (.t 13), none, none, [], none⟩,
  ⟨(some 3), .mv (.t 16), none, none, [], none⟩,
  ⟨(some 4), .mv (.t 17), none, none, [], none⟩]
def ac_top_fine_2 : AC := .reg l_top_fine_2
def l_top_fine_3 : List AOp := [⟨(some 18), .mv (.t 2), none, none, [], none⟩,
  ⟨(some 19), .isn .i true (.t 18), none, none, [], none⟩,
  ⟨(some 20), .mv (.t 19), none, none, [], none⟩,
  ⟨(some 21), .mv (.t 1), (some (20, false)), none, [], none⟩,
  ⟨(some 22), .isn .p false (.t 21), (some (20, false)), none, [], none⟩,
  ⟨(some 23), .pick (.t 20) (.k (.bool true)) (.t 22), none, none, [], none⟩,
  ⟨(some 24), .mv (.t 23), none, none, [], none⟩,
  ⟨(some 25), .mv (.t 4), (some (24, false)), none, [], none⟩,
  ⟨(some 26), .bin .neq (.t 25) (.k (.int .i64 0)), (some (24, false)), none, [], none⟩,
  ⟨(some 27), .pick (.t 24) (.k (.bool true)) (.t 26), none, none, [], none⟩,
  ⟨(some 28), .mv (.t 27), none, none, [], none⟩,
  ⟨(some 29), .mv (.t 1), (some (28, false)), none, [], none⟩,
  ⟨(some 30), .mv (.t 3), (some (28, false)), none, [], none⟩,
  ⟨(some 31), .icall 9 [(.t 29), (.k (.int .i64 0)), (.t 30)], (some (28, false)), none, [], none⟩,
  ⟨(some 32), .isn .i true (.t 31), (some (28, false)), none, [], none⟩,
  ⟨(some 33), .pick (.t 28) (.k (.bool true)) (.t 32), none, none, [], none⟩]
def ac_top_fine_3 : AC := .reg l_top_fine_3
def l_top_fine_4 : List AOp := [⟨(some 0), .mv (.k (.bool false)), none, none, [], none⟩]
def ac_top_fine_4 : AC := .reg l_top_fine_4
def ac_top_fine_5 : AC := .seq ac_top_fine_4 .ret
def ac_top_fine_6 : AC := .cond (.t 33) ac_top_fine_5 .skip
def ac_top_fine_7 : AC := .seq ac_top_fine_3 ac_top_fine_6
def l_top_fine_8 : List AOp := [⟨(some 35), .mv (.t 1), none, none, [], none⟩,
  ⟨(some 36), .icall 13 [(.t 35), (.k (.int .i64 0))], none, none, [], none⟩,
  ⟨(some 34), .mv (.t 36), none, none, [], none⟩,
  ⟨(some 37), .ext 0 (.t 34), none, none, [], none⟩,
  ⟨(some 38), .ext 1 (.t 34), none, none, [], none⟩,
  ⟨(some 5), .mv (.t 37), none, none, [], none⟩,
  ⟨(some 2), .mv (.t 38), none, none, [], none⟩]
def ac_top_fine_8 : AC := .reg l_top_fine_8
def l_top_fine_9 : List AOp := [⟨(some 40), .mv (.t 5), none, none, [], none⟩,
  ⟨(some 41), .call false 14 [(.t 40)], none, none, [], none⟩,
  ⟨(some 39), .mv (.t 41), none, none, [], none⟩,
  ⟨(some 42), .ext 0 (.t 39), none, none, [], none⟩,
  ⟨(some 43), .ext 1 (.t 39), none, none, [], none⟩,
  ⟨(some 6), .alloc [(.int .i64 0), (.int .i64 0), (.int .i64 0), (.int .i64 0), (.str [])], none, none, [], none⟩,
  ⟨none, .store 5 (.t 6) (.t 42), none, none, [], none⟩,
  ⟨(some 7), .mv (.t 43), none, none, [], none⟩]
def ac_top_fine_9 : AC := .reg l_top_fine_9
def l_top_fine_10 : List AOp := [⟨(some 44), .mv (.t 2), none, none, [], none⟩,
  ⟨(some 45), .isn .i false (.t 44), none, none, [], none⟩,
  ⟨(some 46), .mv (.t 45), none, none, [], none⟩,
  ⟨(some 47), .mv (.t 7), (some (46, true)), none, [], none⟩,
  ⟨(some 48), .bin .eql (.t 47) (.k (.int .i64 0)), (some (46, true)), none, [], none⟩,
  ⟨(some 49), .pick (.t 46) (.t 48) (.k (.bool false)), none, none, [], none⟩,
  ⟨(some 50), .mv (.t 49), none, none, [], none⟩,
  ⟨(some 51), .faddr 2 (.t 6), (some (50, true)), none, [], none⟩,
  ⟨(some 52), .load none (.t 51), (some (50, true)), none, [], none⟩,
  ⟨(some 53), .bin .eql (.t 52) (.k (.int .i64 3)), (some (50, true)), none, [], none⟩,
  ⟨(some 54), .pick (.t 50) (.t 53) (.k (.bool false)), none, none, [], none⟩,
  ⟨(some 55), .mv (.t 54), none, none, [], none⟩,
  ⟨(some 56), .faddr 4 (.t 6), (some (55, true)), none, [], none⟩,
  ⟨(some 57), .load none (.t 56), (some (55, true)), none, [], none⟩,
  ⟨(some 58), .bin .eql (.t 57) (.k (.str [97])), (some (55, true)), none, [], none⟩,
  ⟨(some 59), .pick (.t 55) (.t 58) (.k (.bool false)), none, none, [], none⟩,
  ⟨(some 0), .mv (.t 59), none, none, [], none⟩]
def ac_top_fine_10 : AC := .reg l_top_fine_10
def ac_top_fine_11 : AC := .seq ac_top_fine_10 .ret
def ac_top_fine_12 : AC := .seq ac_top_fine_9 ac_top_fine_11
def ac_top_fine_13 : AC := .seq ac_top_fine_8 ac_top_fine_12
def ac_top_fine_14 : AC := .seq ac_top_fine_7 ac_top_fine_13
def ac_top_fine_15 : AC := .seq ac_top_fine_2 ac_top_fine_14
def ac_top_fine_16 : AC := .seq ac_top_fine_1 ac_top_fine_15
def ac_top_fine_17 : AC := .seq ac_top_fine_0 ac_top_fine_16
def ac_top_fine : AC := ac_top_fine_17
theorem comp_top_fine : compF Tryd.prog [1000007, 1000009, 1000013] (drawR Tryd.prog [1000007, 1000009, 1000013] Tryd.f6.ntmps) [] 0 Tryd.f6 = some (ac_top_fine, [.t 0]) := by kernel_rfl
def U_top_fine := (And.intro (And.intro (And.intro (And.intro (And.intro @ac_top_fine.eq_1 (@mR _ _ ac_top_fine_0.eq_1)) (And.intro (@mR _ _ ac_top_fine_1.eq_1) (@mR _ _ ac_top_fine_2.eq_1))) (And.intro (And.intro (@mR _ _ ac_top_fine_3.eq_1) (@mR _ _ ac_top_fine_4.eq_1)) (@mU _ _ ac_top_fine_5.eq_1))) (And.intro (And.intro (And.intro (@mU _ _ ac_top_fine_6.eq_1) (@mU _ _ ac_top_fine_7.eq_1)) (And.intro (@mR _ _ ac_top_fine_8.eq_1) (@mR _ _ ac_top_fine_9.eq_1))) (And.intro (And.intro (@mR _ _ ac_top_fine_10.eq_1) (@mU _ _ ac_top_fine_11.eq_1)) (@mU _ _ ac_top_fine_12.eq_1)))) (And.intro (And.intro (And.intro (And.intro (@mU _ _ ac_top_fine_13.eq_1) (@mU _ _ ac_top_fine_14.eq_1)) (And.intro (@mU _ _ ac_top_fine_15.eq_1) (@mU _ _ ac_top_fine_16.eq_1))) (And.intro (And.intro (@mU _ _ ac_top_fine_17.eq_1) @l_top_fine_0.eq_1) @l_top_fine_1.eq_1)) (And.intro (And.intro (And.intro @l_top_fine_2.eq_1 @l_top_fine_3.eq_1) @l_top_fine_4.eq_1) (And.intro (And.intro @l_top_fine_8.eq_1 @l_top_fine_9.eq_1) @l_top_fine_10.eq_1))))

end Go.Proofs.YtdgpiobmncohjaaDoor.Aw
