/-
  The functions of the seat, translated to abstract code. Written by a program (wip/Gen2.lean).
-/
import Derived.Test.YthjnfjgejdlbfaaAwBun
import Derived.Test.YthjnfjgejdlbfaaProg
set_option maxRecDepth 100000
set_option linter.all false
namespace Go.Proofs.Ythjnfjgejdlbfaa.Aw
open Go.RowKit
/- scoria/model.New -/
def l_model_New_0 : List AOp := [⟨(some 2), .mv (.k .nilp), none, none, [], none⟩]
def ac_model_New_0 : AC := .reg l_model_New_0
def l_model_New_1 : List AOp := [⟨(some 3), .mv (.t 0), none, none, [], none⟩,
  ⟨(some 4), .mm true [(.t 3), (.k (.int .i64 0))], none, none, [], none⟩,
  ⟨(some 5), .mop .mk [], none, none, [], none⟩,
  ⟨(some 6), .build [(.int .i64 0), .nilm] [(0, 1, (.t 4)), (1, 1, (.t 5))], none, none, [], none⟩,
  ⟨(some 7), .box (.t 6), none, none, [], none⟩,
  ⟨(some 2), .mv (.t 7), none, none, [], none⟩]
def ac_model_New_1 : AC := .reg l_model_New_1
def ac_model_New_2 : AC := .seq ac_model_New_1 .ret
def ac_model_New_3 : AC := .seq ac_model_New_0 ac_model_New_2
def ac_model_New : AC := ac_model_New_3
theorem comp_model_New : compF Try.prog [] (drawR Try.prog [] Try.f10.ntmps) [] 1 Try.f10 = some (ac_model_New, [.t 2]) := by kernel_rfl
def U_model_New := (And.intro (And.intro (And.intro @ac_model_New.eq_1 (@mR _ _ ac_model_New_0.eq_1)) (And.intro (@mR _ _ ac_model_New_1.eq_1) (@mU _ _ ac_model_New_2.eq_1))) (And.intro (And.intro (@mU _ _ ac_model_New_3.eq_1) @l_model_New_0.eq_1) @l_model_New_1.eq_1))

/- (*scoria/model.Model).Do -/
def l_model_Model_Do_0 : List AOp := [⟨(some 3), .box (.t 1), none, none, [], none⟩,
  ⟨(some 4), .alloc [(.int .i64 0), (.str []), (.int .i64 0), (.int .i64 0), (.slc [])], none, none, [], none⟩]
def ac_model_Model_Do_0 : AC := .reg l_model_Model_Do_0
def l_model_Model_Do_1 : List AOp := [⟨(some 6), .mv (.t 0), none, none, [], none⟩,
  ⟨(some 7), .isn .p false (.t 6), none, none, [], none⟩,
  ⟨(some 8), .mv (.t 7), none, none, [], none⟩,
  ⟨(some 9), .faddr 0 (.t 3), (some (8, false)), none, [], none⟩,
  ⟨(some 10), .load none (.t 9), (some (8, false)), none, [], none⟩,
  ⟨(some 11), .call false 24 [(.t 10)], (some (8, false)), none, [], none⟩,
  ⟨(some 12), .bin .eql (.t 11) (.k (.str [63])), (some (8, false)), none, [], none⟩,
  ⟨(some 13), .pick (.t 8) (.k (.bool true)) (.t 12), none, none, [], none⟩,
  ⟨(some 14), .mv (.t 13), none, none, [], none⟩,
  ⟨(some 15), .faddr 0 (.t 3), (some (14, false)), none, [], none⟩,
  ⟨(some 16), .load none (.t 15), (some (14, false)), none, [], none⟩,
  ⟨(some 17), .bin .eql (.t 16) (.k (.int .i64 2)), (some (14, false)), none, [], none⟩,
  ⟨(some 18), .mv (.t 17), (some (14, false)), none, [], none⟩,
  ⟨(some 19), .faddr 3 (.t 3), (some (18, true)), none, [], none⟩,
  ⟨(some 20), .load none (.t 19), (some (18, true)), none, [], none⟩,
  ⟨(some 21), .call false 25 [(.t 20)], (some (18, true)), none, [], none⟩,
  ⟨(some 22), .un .not (.t 21), (some (18, true)), none, [], none⟩,
  ⟨(some 23), .pick (.t 18) (.t 22) (.k (.bool false)), (some (14, false)), none, [], none⟩,
  ⟨(some 24), .pick (.t 14) (.k (.bool true)) (.t 23), none, none, [], none⟩]
def ac_model_Model_Do_1 : AC := .reg l_model_Model_Do_1
def l_model_Model_Do_2 : List AOp := [⟨(some 25), .call false 26 [(.k (.int .i64 1))], none, none, [], none⟩,
  ⟨none, .store 5 (.t 4) (.t 25), none, none, [], none⟩]
def ac_model_Model_Do_2 : AC := .reg l_model_Model_Do_2
def ac_model_Model_Do_3 : AC := .seq ac_model_Model_Do_2 .ret
def ac_model_Model_Do_4 : AC := .cond (.t 24) ac_model_Model_Do_3 .skip
def ac_model_Model_Do_5 : AC := .seq ac_model_Model_Do_1 ac_model_Model_Do_4
def l_model_Model_Do_6 : List AOp := [⟨(some 26), .faddr 0 (.t 3), none, none, [], none⟩,
  ⟨(some 27), .load none (.t 26), none, none, [], none⟩]
def ac_model_Model_Do_6 : AC := .reg l_model_Model_Do_6
def l_model_Model_Do_7 : List AOp := [⟨(some 29), .bin .eql (.t 27) (.k (.int .i64 1)), none, none, [], none⟩,
  ⟨(some 28), .mv (.t 29), none, none, [], none⟩]
def ac_model_Model_Do_7 : AC := .reg l_model_Model_Do_7
def l_model_Model_Do_8 : List AOp := [⟨(some 30), .mv (.t 0), none, none, [], none⟩,
  ⟨(some 31), .load (some 5) (.t 3), none, none, [], none⟩,
  ⟨(some 32), .icall 27 [(.t 30), (.t 31)], none, none, [], none⟩,
  ⟨none, .store 5 (.t 4) (.t 32), none, none, [], none⟩]
def ac_model_Model_Do_8 : AC := .reg l_model_Model_Do_8
def ac_model_Model_Do_9 : AC := .seq ac_model_Model_Do_8 .ret
def l_model_Model_Do_10 : List AOp := [⟨(some 34), .bin .eql (.t 27) (.k (.int .i64 8)), none, none, [], none⟩,
  ⟨(some 33), .mv (.t 34), none, none, [], none⟩]
def ac_model_Model_Do_10 : AC := .reg l_model_Model_Do_10
def l_model_Model_Do_11 : List AOp := [⟨(some 35), .build [(.int .i64 0), (.str []), (.int .i64 0), (.int .i64 0), (.slc [])] [], none, none, [], none⟩,
  ⟨none, .store 5 (.t 4) (.t 35), none, none, [], none⟩]
def ac_model_Model_Do_11 : AC := .reg l_model_Model_Do_11
def ac_model_Model_Do_12 : AC := .seq ac_model_Model_Do_11 .ret
def l_model_Model_Do_13 : List AOp := [⟨(some 37), .bin .eql (.t 27) (.k (.int .i64 10)), none, none, [], none⟩,
  ⟨(some 36), .mv (.t 37), none, none, [], none⟩]
def ac_model_Model_Do_13 : AC := .reg l_model_Model_Do_13
def l_model_Model_Do_14t0 : List AOp := [⟨(some 42), .mv (.t 0), none, none, [], none⟩,
  ⟨(some 43), .rcall 28 [(.t 42)], none, none, [], none⟩]
def l_model_Model_Do_14t1 : List AOp := [⟨(some 38), .mv (.t 0), none, none, [], none⟩,
  ⟨(some 39), .nilck (.t 38), none, none, [], none⟩,
  ⟨(some 40), .faddr 0 (.t 39), none, none, [], none⟩,
  ⟨(some 41), .load none (.t 40), none, none, [], none⟩,
  ⟨(some 44), .mv (.t 0), none, none, [], none⟩,
  ⟨(some 45), .icall 20 [(.t 44)], none, none, [], none⟩,
  ⟨(some 46), .build [(.int .i64 0), (.str []), (.int .i64 0), (.int .i64 0), (.slc [])] [(2, 1, (.t 41)), (3, 1, (.t 43)), (4, 1, (.t 45))], none, none, [], none⟩,
  ⟨none, .store 5 (.t 4) (.t 46), none, none, [], none⟩]
def l_model_Model_Do_14t2 : List AOp := [⟨(some 44), .mv (.t 0), none, none, [], none⟩,
  ⟨(some 45), .icall 20 [(.t 44)], none, none, [], none⟩,
  ⟨(some 38), .mv (.t 0), none, none, [], none⟩,
  ⟨(some 39), .nilck (.t 38), none, none, [], none⟩,
  ⟨(some 40), .faddr 0 (.t 39), none, none, [], none⟩,
  ⟨(some 41), .load none (.t 40), none, none, [], none⟩,
  ⟨(some 46), .build [(.int .i64 0), (.str []), (.int .i64 0), (.int .i64 0), (.slc [])] [(2, 1, (.t 41)), (3, 1, (.t 43)), (4, 1, (.t 45))], none, none, [], none⟩,
  ⟨none, .store 5 (.t 4) (.t 46), none, none, [], none⟩]
def ac_model_Model_Do_14 : AC := .dregs 0 (.node l_model_Model_Do_14t0 (.leaf l_model_Model_Do_14t1) (.leaf l_model_Model_Do_14t2))
def ac_model_Model_Do_15 : AC := .seq ac_model_Model_Do_14 .ret
def ac_model_Model_Do_16 : AC := .cond (.t 36) ac_model_Model_Do_15 .skip
def ac_model_Model_Do_17 : AC := .seq ac_model_Model_Do_13 ac_model_Model_Do_16
def ac_model_Model_Do_18 : AC := .cond (.t 33) ac_model_Model_Do_12 ac_model_Model_Do_17
def ac_model_Model_Do_19 : AC := .seq ac_model_Model_Do_10 ac_model_Model_Do_18
def ac_model_Model_Do_20 : AC := .cond (.t 28) ac_model_Model_Do_9 ac_model_Model_Do_19
def ac_model_Model_Do_21 : AC := .seq ac_model_Model_Do_7 ac_model_Model_Do_20
def ac_model_Model_Do_22 : AC := .block 0 ac_model_Model_Do_21
def ac_model_Model_Do_23 : AC := .seq ac_model_Model_Do_6 ac_model_Model_Do_22
def l_model_Model_Do_24 : List AOp := [⟨(some 47), .mv (.t 0), none, none, [], none⟩,
  ⟨(some 48), .nilck (.t 47), none, none, [], none⟩,
  ⟨(some 49), .faddr 1 (.t 48), none, none, [], none⟩,
  ⟨(some 50), .load none (.t 49), none, none, [], none⟩,
  ⟨(some 51), .faddr 1 (.t 3), none, none, [], none⟩,
  ⟨(some 52), .load none (.t 51), none, none, [], none⟩,
  ⟨(some 53), .mop (.get false .nilp) [(.t 50), (.t 52)], none, none, [], none⟩,
  ⟨(some 5), .mv (.t 53), none, none, [], none⟩]
def ac_model_Model_Do_24 : AC := .dreg 0 l_model_Model_Do_24
def l_model_Model_Do_25 : List AOp := [⟨(some 54), .mv (.t 5), none, none, [], none⟩,
  ⟨(some 55), .isn .p false (.t 54), none, none, [], none⟩]
def ac_model_Model_Do_25 : AC := .reg l_model_Model_Do_25
def l_model_Model_Do_26 : List AOp := [⟨(some 56), .call false 26 [(.k (.int .i64 4))], none, none, [], none⟩,
  ⟨none, .store 5 (.t 4) (.t 56), none, none, [], none⟩]
def ac_model_Model_Do_26 : AC := .reg l_model_Model_Do_26
def ac_model_Model_Do_27 : AC := .seq ac_model_Model_Do_26 .ret
def ac_model_Model_Do_28 : AC := .cond (.t 55) ac_model_Model_Do_27 .skip
def ac_model_Model_Do_29 : AC := .seq ac_model_Model_Do_25 ac_model_Model_Do_28
def l_model_Model_Do_30 : List AOp := [⟨(some 57), .faddr 0 (.t 3), none, none, [], none⟩,
  ⟨(some 58), .load none (.t 57), none, none, [], none⟩]
def ac_model_Model_Do_30 : AC := .reg l_model_Model_Do_30
def l_model_Model_Do_31 : List AOp := [⟨(some 60), .bin .eql (.t 58) (.k (.int .i64 2)), none, none, [], none⟩,
  ⟨(some 59), .mv (.t 60), none, none, [], none⟩]
def ac_model_Model_Do_31 : AC := .reg l_model_Model_Do_31
def l_model_Model_Do_32 : List AOp := [⟨(some 61), .mv (.t 5), none, none, [], none⟩,
  ⟨(some 62), .faddr 3 (.t 3), none, none, [], none⟩,
  ⟨(some 63), .load none (.t 62), none, none, [], none⟩,
  ⟨(some 64), .nilck (.t 61), none, none, [], none⟩,
  ⟨(some 65), .faddr 0 (.t 64), none, none, [], none⟩,
  ⟨none, .store 1 (.t 65) (.t 63), none, none, [], none⟩]
def ac_model_Model_Do_32 : AC := .reg l_model_Model_Do_32
def l_model_Model_Do_33 : List AOp := [⟨(some 66), .mv (.t 5), none, none, [], none⟩,
  ⟨(some 67), .mkfn (.func 30) [] [(.t 3)], none, none, [], none⟩,
  ⟨(some 68), .icall 29 [(.t 66), (.t 67)], none, none, [], none⟩]
def ac_model_Model_Do_33 : AC := .reg l_model_Model_Do_33
def l_model_Model_Do_34 : List AOp := [⟨(some 69), .build [(.int .i64 0), (.str []), (.int .i64 0), (.int .i64 0), (.slc [])] [], none, none, [], none⟩,
  ⟨none, .store 5 (.t 4) (.t 69), none, none, [], none⟩]
def ac_model_Model_Do_34 : AC := .reg l_model_Model_Do_34
def ac_model_Model_Do_35 : AC := .seq ac_model_Model_Do_34 .ret
def ac_model_Model_Do_36 : AC := .seq ac_model_Model_Do_33 ac_model_Model_Do_35
def ac_model_Model_Do_37 : AC := .seq ac_model_Model_Do_32 ac_model_Model_Do_36
def l_model_Model_Do_38 : List AOp := [⟨(some 71), .bin .eql (.t 58) (.k (.int .i64 3)), none, none, [], none⟩,
  ⟨(some 70), .mv (.t 71), none, none, [], none⟩]
def ac_model_Model_Do_38 : AC := .reg l_model_Model_Do_38
def l_model_Model_Do_39 : List AOp := [⟨(some 72), .mv (.t 0), none, none, [], none⟩,
  ⟨(some 73), .nilck (.t 72), none, none, [], none⟩,
  ⟨(some 74), .faddr 1 (.t 73), none, none, [], none⟩,
  ⟨(some 75), .load none (.t 74), none, none, [], none⟩,
  ⟨(some 76), .faddr 1 (.t 3), none, none, [], none⟩,
  ⟨(some 77), .load none (.t 76), none, none, [], none⟩,
  ⟨none, .mop .del [(.t 75), (.t 77)], none, none, [], none⟩]
def ac_model_Model_Do_39 : AC := .dreg 0 l_model_Model_Do_39
def l_model_Model_Do_40 : List AOp := [⟨(some 78), .build [(.int .i64 0), (.str []), (.int .i64 0), (.int .i64 0), (.slc [])] [], none, none, [], none⟩,
  ⟨none, .store 5 (.t 4) (.t 78), none, none, [], none⟩]
def ac_model_Model_Do_40 : AC := .reg l_model_Model_Do_40
def ac_model_Model_Do_41 : AC := .seq ac_model_Model_Do_40 .ret
def ac_model_Model_Do_42 : AC := .seq ac_model_Model_Do_39 ac_model_Model_Do_41
def l_model_Model_Do_43 : List AOp := [⟨(some 80), .bin .eql (.t 58) (.k (.int .i64 9)), none, none, [], none⟩,
  ⟨(some 79), .mv (.t 80), none, none, [], none⟩]
def ac_model_Model_Do_43 : AC := .reg l_model_Model_Do_43
def l_model_Model_Do_44t0 : List AOp := [⟨(some 85), .mv (.t 5), none, none, [], none⟩,
  ⟨(some 86), .nilck (.t 85), none, none, [], none⟩,
  ⟨(some 87), .faddr 1 (.t 86), none, none, [], none⟩,
  ⟨(some 88), .load none (.t 87), none, none, [], none⟩]
def l_model_Model_Do_44t1 : List AOp := [⟨(some 81), .mv (.t 5), none, none, [], none⟩,
  ⟨(some 82), .nilck (.t 81), none, none, [], none⟩,
  ⟨(some 83), .faddr 0 (.t 82), none, none, [], none⟩,
  ⟨(some 84), .load none (.t 83), none, none, [], none⟩,
  ⟨(some 89), .mop .len [(.t 88)], none, none, [], none⟩,
  ⟨(some 90), .build [(.int .i64 0), (.str []), (.int .i64 0), (.int .i64 0), (.slc [])] [(2, 1, (.t 84)), (3, 1, (.t 89))], none, none, [], none⟩,
  ⟨none, .store 5 (.t 4) (.t 90), none, none, [], none⟩]
def l_model_Model_Do_44t2 : List AOp := [⟨(some 89), .mop .len [(.t 88)], none, none, [], none⟩,
  ⟨(some 81), .mv (.t 5), none, none, [], none⟩,
  ⟨(some 82), .nilck (.t 81), none, none, [], none⟩,
  ⟨(some 83), .faddr 0 (.t 82), none, none, [], none⟩,
  ⟨(some 84), .load none (.t 83), none, none, [], none⟩,
  ⟨(some 90), .build [(.int .i64 0), (.str []), (.int .i64 0), (.int .i64 0), (.slc [])] [(2, 1, (.t 84)), (3, 1, (.t 89))], none, none, [], none⟩,
  ⟨none, .store 5 (.t 4) (.t 90), none, none, [], none⟩]
def ac_model_Model_Do_44 : AC := .dregs 0 (.node l_model_Model_Do_44t0 (.leaf l_model_Model_Do_44t1) (.leaf l_model_Model_Do_44t2))
def ac_model_Model_Do_45 : AC := .seq ac_model_Model_Do_44 .ret
def ac_model_Model_Do_46 : AC := .cond (.t 79) ac_model_Model_Do_45 .skip
def ac_model_Model_Do_47 : AC := .seq ac_model_Model_Do_43 ac_model_Model_Do_46
def ac_model_Model_Do_48 : AC := .cond (.t 70) ac_model_Model_Do_42 ac_model_Model_Do_47
def ac_model_Model_Do_49 : AC := .seq ac_model_Model_Do_38 ac_model_Model_Do_48
def ac_model_Model_Do_50 : AC := .cond (.t 59) ac_model_Model_Do_37 ac_model_Model_Do_49
def ac_model_Model_Do_51 : AC := .seq ac_model_Model_Do_31 ac_model_Model_Do_50
def ac_model_Model_Do_52 : AC := .block 1 ac_model_Model_Do_51
def ac_model_Model_Do_53 : AC := .seq ac_model_Model_Do_30 ac_model_Model_Do_52
def l_model_Model_Do_54 : List AOp := [⟨(some 91), .mv (.t 0), none, none, [], none⟩,
  ⟨(some 92), .mv (.t 5), none, none, [], none⟩,
  ⟨(some 93), .load (some 5) (.t 3), none, none, [], none⟩,
  ⟨(some 94), .icall 31 [(.t 91), (.t 92), (.t 93)], none, none, [], none⟩,
  ⟨none, .store 5 (.t 4) (.t 94), none, none, [], none⟩]
def ac_model_Model_Do_54 : AC := .reg l_model_Model_Do_54
def ac_model_Model_Do_55 : AC := .seq ac_model_Model_Do_54 .ret
def ac_model_Model_Do_56 : AC := .seq ac_model_Model_Do_53 ac_model_Model_Do_55
def ac_model_Model_Do_57 : AC := .seq ac_model_Model_Do_29 ac_model_Model_Do_56
def ac_model_Model_Do_58 : AC := .seq ac_model_Model_Do_24 ac_model_Model_Do_57
def ac_model_Model_Do_59 : AC := .seq ac_model_Model_Do_23 ac_model_Model_Do_58
def ac_model_Model_Do_60 : AC := .seq ac_model_Model_Do_5 ac_model_Model_Do_59
def ac_model_Model_Do_61 : AC := .seq ac_model_Model_Do_0 ac_model_Model_Do_60
def ac_model_Model_Do : AC := ac_model_Model_Do_61
theorem comp_model_Model_Do : compF Try.prog [1000027, 4000028, 1000020, 1000029, 1000031] (drawR Try.prog [1000027, 4000028, 1000020, 1000029, 1000031] Try.f12.ntmps) [] 2 Try.f12 = some (ac_model_Model_Do, [.c 4 (some 5)]) := by kernel_rfl
def U_model_Model_Do := (And.intro (And.intro (And.intro (And.intro (And.intro (And.intro (And.intro @ac_model_Model_Do.eq_1 (@mR _ _ ac_model_Model_Do_0.eq_1)) (@mR _ _ ac_model_Model_Do_1.eq_1)) (And.intro (And.intro (@mR _ _ ac_model_Model_Do_2.eq_1) (@mU _ _ ac_model_Model_Do_3.eq_1)) (@mU _ _ ac_model_Model_Do_4.eq_1))) (And.intro (And.intro (And.intro (@mU _ _ ac_model_Model_Do_5.eq_1) (@mR _ _ ac_model_Model_Do_6.eq_1)) (@mR _ _ ac_model_Model_Do_7.eq_1)) (And.intro (And.intro (@mR _ _ ac_model_Model_Do_8.eq_1) (@mU _ _ ac_model_Model_Do_9.eq_1)) (@mR _ _ ac_model_Model_Do_10.eq_1)))) (And.intro (And.intro (And.intro (And.intro (@mR _ _ ac_model_Model_Do_11.eq_1) (@mU _ _ ac_model_Model_Do_12.eq_1)) (@mR _ _ ac_model_Model_Do_13.eq_1)) (And.intro (And.intro (@mDN _ _ _ ac_model_Model_Do_14.eq_1) (@mU _ _ ac_model_Model_Do_15.eq_1)) (@mU _ _ ac_model_Model_Do_16.eq_1))) (And.intro (And.intro (And.intro (@mU _ _ ac_model_Model_Do_17.eq_1) (@mU _ _ ac_model_Model_Do_18.eq_1)) (@mU _ _ ac_model_Model_Do_19.eq_1)) (And.intro (@mU _ _ ac_model_Model_Do_20.eq_1) (@mU _ _ ac_model_Model_Do_21.eq_1))))) (And.intro (And.intro (And.intro (And.intro (And.intro (@mU _ _ ac_model_Model_Do_22.eq_1) (@mU _ _ ac_model_Model_Do_23.eq_1)) (@mD _ _ _ ac_model_Model_Do_24.eq_1)) (And.intro (And.intro (@mR _ _ ac_model_Model_Do_25.eq_1) (@mR _ _ ac_model_Model_Do_26.eq_1)) (@mU _ _ ac_model_Model_Do_27.eq_1))) (And.intro (And.intro (And.intro (@mU _ _ ac_model_Model_Do_28.eq_1) (@mU _ _ ac_model_Model_Do_29.eq_1)) (@mR _ _ ac_model_Model_Do_30.eq_1)) (And.intro (And.intro (@mR _ _ ac_model_Model_Do_31.eq_1) (@mR _ _ ac_model_Model_Do_32.eq_1)) (@mR _ _ ac_model_Model_Do_33.eq_1)))) (And.intro (And.intro (And.intro (And.intro (@mR _ _ ac_model_Model_Do_34.eq_1) (@mU _ _ ac_model_Model_Do_35.eq_1)) (@mU _ _ ac_model_Model_Do_36.eq_1)) (And.intro (And.intro (@mU _ _ ac_model_Model_Do_37.eq_1) (@mR _ _ ac_model_Model_Do_38.eq_1)) (@mD _ _ _ ac_model_Model_Do_39.eq_1))) (And.intro (And.intro (And.intro (@mR _ _ ac_model_Model_Do_40.eq_1) (@mU _ _ ac_model_Model_Do_41.eq_1)) (@mU _ _ ac_model_Model_Do_42.eq_1)) (And.intro (@mR _ _ ac_model_Model_Do_43.eq_1) (@mDN _ _ _ ac_model_Model_Do_44.eq_1)))))) (And.intro (And.intro (And.intro (And.intro (And.intro (And.intro (@mU _ _ ac_model_Model_Do_45.eq_1) (@mU _ _ ac_model_Model_Do_46.eq_1)) (@mU _ _ ac_model_Model_Do_47.eq_1)) (And.intro (And.intro (@mU _ _ ac_model_Model_Do_48.eq_1) (@mU _ _ ac_model_Model_Do_49.eq_1)) (@mU _ _ ac_model_Model_Do_50.eq_1))) (And.intro (And.intro (And.intro (@mU _ _ ac_model_Model_Do_51.eq_1) (@mU _ _ ac_model_Model_Do_52.eq_1)) (@mU _ _ ac_model_Model_Do_53.eq_1)) (And.intro (And.intro (@mR _ _ ac_model_Model_Do_54.eq_1) (@mU _ _ ac_model_Model_Do_55.eq_1)) (@mU _ _ ac_model_Model_Do_56.eq_1)))) (And.intro (And.intro (And.intro (And.intro (@mU _ _ ac_model_Model_Do_57.eq_1) (@mU _ _ ac_model_Model_Do_58.eq_1)) (@mU _ _ ac_model_Model_Do_59.eq_1)) (And.intro (And.intro (@mU _ _ ac_model_Model_Do_60.eq_1) (@mU _ _ ac_model_Model_Do_61.eq_1)) @l_model_Model_Do_0.eq_1)) (And.intro (And.intro (And.intro @l_model_Model_Do_1.eq_1 @l_model_Model_Do_2.eq_1) @l_model_Model_Do_6.eq_1) (And.intro @l_model_Model_Do_7.eq_1 @l_model_Model_Do_8.eq_1)))) (And.intro (And.intro (And.intro (And.intro (And.intro @l_model_Model_Do_10.eq_1 @l_model_Model_Do_11.eq_1) @l_model_Model_Do_13.eq_1) (And.intro (And.intro @l_model_Model_Do_24.eq_1 @l_model_Model_Do_25.eq_1) @l_model_Model_Do_26.eq_1)) (And.intro (And.intro (And.intro @l_model_Model_Do_30.eq_1 @l_model_Model_Do_31.eq_1) @l_model_Model_Do_32.eq_1) (And.intro @l_model_Model_Do_33.eq_1 @l_model_Model_Do_34.eq_1))) (And.intro (And.intro (And.intro (And.intro @l_model_Model_Do_38.eq_1 @l_model_Model_Do_39.eq_1) @l_model_Model_Do_40.eq_1) (And.intro (And.intro @l_model_Model_Do_43.eq_1 @l_model_Model_Do_54.eq_1) @l_model_Model_Do_14t0.eq_1)) (And.intro (And.intro (And.intro @l_model_Model_Do_14t1.eq_1 @l_model_Model_Do_14t2.eq_1) @l_model_Model_Do_44t0.eq_1) (And.intro @l_model_Model_Do_44t1.eq_1 @l_model_Model_Do_44t2.eq_1))))))

/- (*scoria/model.Model).Copy -/
def l_model_Model_Copy_0 : List AOp := [⟨(some 2), .mv (.k .nilp), none, none, [], none⟩]
def ac_model_Model_Copy_0 : AC := .reg l_model_Model_Copy_0
def l_model_Model_Copy_1 : List AOp := [⟨(some 6), .mv (.t 0), none, none, [], none⟩,
  ⟨(some 7), .isn .p false (.t 6), none, none, [], none⟩]
def ac_model_Model_Copy_1 : AC := .reg l_model_Model_Copy_1
def l_model_Model_Copy_2 : List AOp := [⟨(some 2), .mv (.k .nilp), none, none, [], none⟩]
def ac_model_Model_Copy_2 : AC := .reg l_model_Model_Copy_2
def ac_model_Model_Copy_3 : AC := .seq ac_model_Model_Copy_2 .ret
def ac_model_Model_Copy_4 : AC := .cond (.t 7) ac_model_Model_Copy_3 .skip
def ac_model_Model_Copy_5 : AC := .seq ac_model_Model_Copy_1 ac_model_Model_Copy_4
def l_model_Model_Copy_6 : List AOp := [⟨(some 8), .mv (.t 0), none, none, [], none⟩,
  ⟨(some 9), .nilck (.t 8), none, none, [], none⟩,
  ⟨(some 10), .faddr 0 (.t 9), none, none, [], none⟩,
  ⟨(some 11), .load none (.t 10), none, none, [], none⟩,
  ⟨(some 12), .icall 10 [(.t 11)], none, none, [], none⟩,
  ⟨(some 3), .mv (.t 12), none, none, [], none⟩]
def ac_model_Model_Copy_6 : AC := .reg l_model_Model_Copy_6
def l_model_Model_Copy_7 : List AOp := [⟨(some 13), .mv (.t 0), none, none, [], none⟩,
  ⟨(some 14), .nilck (.t 13), none, none, [], none⟩,
  ⟨(some 15), .faddr 1 (.t 14), none, none, [], none⟩,
  ⟨(some 16), .load none (.t 15), none, none, [], none⟩,
  ⟨(some 17), .mop .rng [(.t 16)], none, none, [], none⟩]
def ac_model_Model_Copy_7 : AC := .reg l_model_Model_Copy_7
def l_model_Model_Copy_8 : List AOp := [⟨(some 18), .mop .nxt [(.t 17)], none, none, [], none⟩,
  ⟨(some 19), .ext 0 (.t 18), none, none, [], none⟩]
def ac_model_Model_Copy_8 : AC := .reg l_model_Model_Copy_8
def ac_model_Model_Copy_9 : AC := .cond (.t 19) .skip (.exit 0)
def l_model_Model_Copy_10 : List AOp := [⟨(some 20), .mop .ent [(.t 17)], none, none, [], none⟩,
  ⟨(some 21), .ext 0 (.t 20), none, none, [], none⟩,
  ⟨(some 22), .ext 1 (.t 20), none, none, [], none⟩,
  ⟨(some 4), .mv (.t 21), none, none, [], none⟩,
  ⟨(some 5), .mv (.t 22), none, none, [], none⟩]
def ac_model_Model_Copy_10 : AC := .reg l_model_Model_Copy_10
def l_model_Model_Copy_11t0 : List AOp := [⟨(some 32), .mv (.t 5), none, none, [], none⟩,
  ⟨(some 33), .nilck (.t 32), none, none, [], none⟩,
  ⟨(some 34), .faddr 1 (.t 33), none, none, [], none⟩,
  ⟨(some 35), .load none (.t 34), none, none, [0], none⟩]
def l_model_Model_Copy_11t1 : List AOp := []
def l_model_Model_Copy_11t2 : List AOp := [⟨(some 23), .mv (.t 3), none, none, [], none⟩,
  ⟨(some 24), .nilck (.t 23), none, none, [], none⟩,
  ⟨(some 25), .faddr 1 (.t 24), none, none, [], none⟩,
  ⟨(some 26), .load none (.t 25), none, none, [0], none⟩]
def l_model_Model_Copy_11t3 : List AOp := [⟨(some 28), .mv (.t 5), none, none, [], none⟩,
  ⟨(some 29), .nilck (.t 28), none, none, [], none⟩,
  ⟨(some 30), .faddr 0 (.t 29), none, none, [], none⟩,
  ⟨(some 31), .load none (.t 30), none, none, [0], none⟩,
  ⟨(some 36), .icall 42 [(.t 35)], none, none, [0], none⟩,
  ⟨(some 37), .build [(.int .i64 0), .nilm] [(0, 1, (.t 31)), (1, 1, (.t 36))], none, none, [], none⟩,
  ⟨(some 38), .box (.t 37), none, (some 0), [], none⟩,
  ⟨(some 27), .mv (.t 4), none, none, [], none⟩,
  ⟨none, .mop .set [(.t 26), (.t 27), (.t 38)], none, none, [], none⟩]
def l_model_Model_Copy_11t4 : List AOp := [⟨(some 36), .icall 42 [(.t 35)], none, none, [0], none⟩,
  ⟨(some 28), .mv (.t 5), none, none, [], none⟩,
  ⟨(some 29), .nilck (.t 28), none, none, [], none⟩,
  ⟨(some 30), .faddr 0 (.t 29), none, none, [], none⟩,
  ⟨(some 31), .load none (.t 30), none, none, [0], none⟩,
  ⟨(some 37), .build [(.int .i64 0), .nilm] [(0, 1, (.t 31)), (1, 1, (.t 36))], none, none, [], none⟩,
  ⟨(some 38), .box (.t 37), none, (some 0), [], none⟩,
  ⟨(some 27), .mv (.t 4), none, none, [], none⟩,
  ⟨none, .mop .set [(.t 26), (.t 27), (.t 38)], none, none, [], none⟩]
def l_model_Model_Copy_11t5 : List AOp := [⟨(some 28), .mv (.t 5), none, none, [], none⟩,
  ⟨(some 29), .nilck (.t 28), none, none, [], none⟩,
  ⟨(some 30), .faddr 0 (.t 29), none, none, [], none⟩,
  ⟨(some 31), .load none (.t 30), none, none, [0], none⟩,
  ⟨(some 36), .icall 42 [(.t 35)], none, none, [0], none⟩,
  ⟨(some 23), .mv (.t 3), none, none, [], none⟩,
  ⟨(some 24), .nilck (.t 23), none, none, [], none⟩,
  ⟨(some 25), .faddr 1 (.t 24), none, none, [], none⟩,
  ⟨(some 26), .load none (.t 25), none, none, [0], none⟩,
  ⟨(some 37), .build [(.int .i64 0), .nilm] [(0, 1, (.t 31)), (1, 1, (.t 36))], none, none, [], none⟩,
  ⟨(some 38), .box (.t 37), none, (some 0), [], none⟩,
  ⟨(some 27), .mv (.t 4), none, none, [], none⟩,
  ⟨none, .mop .set [(.t 26), (.t 27), (.t 38)], none, none, [], none⟩]
def l_model_Model_Copy_11t6 : List AOp := [⟨(some 36), .icall 42 [(.t 35)], none, none, [0], none⟩,
  ⟨(some 23), .mv (.t 3), none, none, [], none⟩,
  ⟨(some 24), .nilck (.t 23), none, none, [], none⟩,
  ⟨(some 25), .faddr 1 (.t 24), none, none, [], none⟩,
  ⟨(some 26), .load none (.t 25), none, none, [0], none⟩,
  ⟨(some 28), .mv (.t 5), none, none, [], none⟩,
  ⟨(some 29), .nilck (.t 28), none, none, [], none⟩,
  ⟨(some 30), .faddr 0 (.t 29), none, none, [], none⟩,
  ⟨(some 31), .load none (.t 30), none, none, [0], none⟩,
  ⟨(some 37), .build [(.int .i64 0), .nilm] [(0, 1, (.t 31)), (1, 1, (.t 36))], none, none, [], none⟩,
  ⟨(some 38), .box (.t 37), none, (some 0), [], none⟩,
  ⟨(some 27), .mv (.t 4), none, none, [], none⟩,
  ⟨none, .mop .set [(.t 26), (.t 27), (.t 38)], none, none, [], none⟩]
def ac_model_Model_Copy_11 : AC := .dregs 1 (.node l_model_Model_Copy_11t0 (.node l_model_Model_Copy_11t1 (.node l_model_Model_Copy_11t2 (.leaf l_model_Model_Copy_11t3) (.leaf l_model_Model_Copy_11t4)) (.leaf l_model_Model_Copy_11t5)) (.leaf l_model_Model_Copy_11t6))
def ac_model_Model_Copy_12 : AC := .seq ac_model_Model_Copy_10 ac_model_Model_Copy_11
def ac_model_Model_Copy_13 : AC := .block 1 ac_model_Model_Copy_12
def ac_model_Model_Copy_14 : AC := .seq ac_model_Model_Copy_9 ac_model_Model_Copy_13
def ac_model_Model_Copy_15 : AC := .seq ac_model_Model_Copy_8 ac_model_Model_Copy_14
def ac_model_Model_Copy_16 : AC := .loop [3, 17] 1000000000 ac_model_Model_Copy_15
def ac_model_Model_Copy_17 : AC := .block 0 ac_model_Model_Copy_16
def ac_model_Model_Copy_18 : AC := .seq ac_model_Model_Copy_7 ac_model_Model_Copy_17
def l_model_Model_Copy_19 : List AOp := [⟨(some 39), .mv (.t 3), none, none, [], none⟩,
  ⟨(some 2), .mv (.t 39), none, none, [], none⟩]
def ac_model_Model_Copy_19 : AC := .reg l_model_Model_Copy_19
def ac_model_Model_Copy_20 : AC := .seq ac_model_Model_Copy_19 .ret
def ac_model_Model_Copy_21 : AC := .seq ac_model_Model_Copy_18 ac_model_Model_Copy_20
def ac_model_Model_Copy_22 : AC := .seq ac_model_Model_Copy_6 ac_model_Model_Copy_21
def ac_model_Model_Copy_23 : AC := .seq ac_model_Model_Copy_5 ac_model_Model_Copy_22
def ac_model_Model_Copy_24 : AC := .seq ac_model_Model_Copy_0 ac_model_Model_Copy_23
def ac_model_Model_Copy : AC := ac_model_Model_Copy_24
theorem comp_model_Model_Copy : compF Try.prog [1000010, 1000042] (drawR Try.prog [1000010, 1000042] Try.f19.ntmps) [([3, 17], 1000000000)] 1 Try.f19 = some (ac_model_Model_Copy, [.t 2]) := by kernel_rfl
def U_model_Model_Copy := (And.intro (And.intro (And.intro (And.intro (And.intro (And.intro @ac_model_Model_Copy.eq_1 (@mR _ _ ac_model_Model_Copy_0.eq_1)) (@mR _ _ ac_model_Model_Copy_1.eq_1)) (And.intro (And.intro (@mR _ _ ac_model_Model_Copy_2.eq_1) (@mU _ _ ac_model_Model_Copy_3.eq_1)) (@mU _ _ ac_model_Model_Copy_4.eq_1))) (And.intro (And.intro (And.intro (@mU _ _ ac_model_Model_Copy_5.eq_1) (@mR _ _ ac_model_Model_Copy_6.eq_1)) (@mR _ _ ac_model_Model_Copy_7.eq_1)) (And.intro (@mR _ _ ac_model_Model_Copy_8.eq_1) (@mU _ _ ac_model_Model_Copy_9.eq_1)))) (And.intro (And.intro (And.intro (And.intro (@mR _ _ ac_model_Model_Copy_10.eq_1) (@mDN _ _ _ ac_model_Model_Copy_11.eq_1)) (@mU _ _ ac_model_Model_Copy_12.eq_1)) (And.intro (@mU _ _ ac_model_Model_Copy_13.eq_1) (@mU _ _ ac_model_Model_Copy_14.eq_1))) (And.intro (And.intro (And.intro (@mU _ _ ac_model_Model_Copy_15.eq_1) (@mU _ _ ac_model_Model_Copy_16.eq_1)) (@mU _ _ ac_model_Model_Copy_17.eq_1)) (And.intro (@mU _ _ ac_model_Model_Copy_18.eq_1) (@mR _ _ ac_model_Model_Copy_19.eq_1))))) (And.intro (And.intro (And.intro (And.intro (And.intro (@mU _ _ ac_model_Model_Copy_20.eq_1) (@mU _ _ ac_model_Model_Copy_21.eq_1)) (@mU _ _ ac_model_Model_Copy_22.eq_1)) (And.intro (@mU _ _ ac_model_Model_Copy_23.eq_1) (@mU _ _ ac_model_Model_Copy_24.eq_1))) (And.intro (And.intro (And.intro @l_model_Model_Copy_0.eq_1 @l_model_Model_Copy_1.eq_1) @l_model_Model_Copy_2.eq_1) (And.intro @l_model_Model_Copy_6.eq_1 @l_model_Model_Copy_7.eq_1))) (And.intro (And.intro (And.intro (And.intro @l_model_Model_Copy_8.eq_1 @l_model_Model_Copy_10.eq_1) @l_model_Model_Copy_19.eq_1) (And.intro @l_model_Model_Copy_11t0.eq_1 @l_model_Model_Copy_11t1.eq_1)) (And.intro (And.intro (And.intro @l_model_Model_Copy_11t2.eq_1 @l_model_Model_Copy_11t3.eq_1) @l_model_Model_Copy_11t4.eq_1) (And.intro @l_model_Model_Copy_11t5.eq_1 @l_model_Model_Copy_11t6.eq_1)))))

/- (*scoria/model.Model).IDs -/
def l_model_Model_IDs_0 : List AOp := [⟨(some 2), .mv (.k (.slc [])), none, none, [], none⟩]
def ac_model_Model_IDs_0 : AC := .reg l_model_Model_IDs_0
def l_model_Model_IDs_1 : List AOp := [⟨(some 3), .mv (.t 0), none, none, [], none⟩,
  ⟨(some 4), .isn .p false (.t 3), none, none, [], none⟩]
def ac_model_Model_IDs_1 : AC := .reg l_model_Model_IDs_1
def l_model_Model_IDs_2 : List AOp := [⟨(some 2), .mv (.k (.slc [])), none, none, [], none⟩]
def ac_model_Model_IDs_2 : AC := .reg l_model_Model_IDs_2
def ac_model_Model_IDs_3 : AC := .seq ac_model_Model_IDs_2 .ret
def ac_model_Model_IDs_4 : AC := .cond (.t 4) ac_model_Model_IDs_3 .skip
def ac_model_Model_IDs_5 : AC := .seq ac_model_Model_IDs_1 ac_model_Model_IDs_4
def l_model_Model_IDs_6 : List AOp := [⟨(some 5), .mv (.t 0), none, none, [], none⟩,
  ⟨(some 6), .nilck (.t 5), none, none, [], none⟩,
  ⟨(some 7), .faddr 1 (.t 6), none, none, [], none⟩,
  ⟨(some 8), .load none (.t 7), none, none, [], none⟩,
  ⟨(some 9), .icall 44 [(.t 8)], none, none, [], none⟩,
  ⟨(some 10), .icall 43 [(.t 9)], none, none, [], none⟩,
  ⟨(some 2), .mv (.t 10), none, none, [], none⟩]
def ac_model_Model_IDs_6 : AC := .reg l_model_Model_IDs_6
def ac_model_Model_IDs_7 : AC := .seq ac_model_Model_IDs_6 .ret
def ac_model_Model_IDs_8 : AC := .seq ac_model_Model_IDs_5 ac_model_Model_IDs_7
def ac_model_Model_IDs_9 : AC := .seq ac_model_Model_IDs_0 ac_model_Model_IDs_8
def ac_model_Model_IDs : AC := ac_model_Model_IDs_9
theorem comp_model_Model_IDs : compF Try.prog [1000044, 1000043] (drawR Try.prog [1000044, 1000043] Try.f20.ntmps) [] 1 Try.f20 = some (ac_model_Model_IDs, [.t 2]) := by kernel_rfl
def U_model_Model_IDs := (And.intro (And.intro (And.intro (And.intro @ac_model_Model_IDs.eq_1 (@mR _ _ ac_model_Model_IDs_0.eq_1)) (And.intro (@mR _ _ ac_model_Model_IDs_1.eq_1) (@mR _ _ ac_model_Model_IDs_2.eq_1))) (And.intro (And.intro (@mU _ _ ac_model_Model_IDs_3.eq_1) (@mU _ _ ac_model_Model_IDs_4.eq_1)) (And.intro (@mU _ _ ac_model_Model_IDs_5.eq_1) (@mR _ _ ac_model_Model_IDs_6.eq_1)))) (And.intro (And.intro (And.intro (@mU _ _ ac_model_Model_IDs_7.eq_1) (@mU _ _ ac_model_Model_IDs_8.eq_1)) (And.intro (@mU _ _ ac_model_Model_IDs_9.eq_1) @l_model_Model_IDs_0.eq_1)) (And.intro (And.intro @l_model_Model_IDs_1.eq_1 @l_model_Model_IDs_2.eq_1) @l_model_Model_IDs_6.eq_1)))

/- (*scoria/model.Model).Sectors -/
def l_model_Model_Sectors_0 : List AOp := [⟨(some 4), .mv (.k (.slc [])), none, none, [], none⟩]
def ac_model_Model_Sectors_0 : AC := .reg l_model_Model_Sectors_0
def l_model_Model_Sectors_1 : List AOp := [⟨(some 5), .mv (.t 0), none, none, [], none⟩,
  ⟨(some 6), .isn .p false (.t 5), none, none, [], none⟩,
  ⟨(some 7), .mv (.t 6), none, none, [], none⟩,
  ⟨(some 8), .mv (.t 0), (some (7, false)), none, [], none⟩,
  ⟨(some 9), .nilck (.t 8), (some (7, false)), none, [], none⟩,
  ⟨(some 10), .faddr 1 (.t 9), (some (7, false)), none, [], none⟩,
  ⟨(some 11), .load none (.t 10), (some (7, false)), none, [], none⟩,
  ⟨(some 12), .mv (.t 1), (some (7, false)), none, [], none⟩,
  ⟨(some 13), .mop (.get false .nilp) [(.t 11), (.t 12)], (some (7, false)), none, [], none⟩,
  ⟨(some 14), .isn .p false (.t 13), (some (7, false)), none, [], none⟩,
  ⟨(some 15), .pick (.t 7) (.k (.bool true)) (.t 14), none, none, [], none⟩]
def ac_model_Model_Sectors_1 : AC := .reg l_model_Model_Sectors_1
def l_model_Model_Sectors_2 : List AOp := [⟨(some 4), .mv (.k (.slc [])), none, none, [], none⟩]
def ac_model_Model_Sectors_2 : AC := .reg l_model_Model_Sectors_2
def ac_model_Model_Sectors_3 : AC := .seq ac_model_Model_Sectors_2 .ret
def ac_model_Model_Sectors_4 : AC := .cond (.t 15) ac_model_Model_Sectors_3 .skip
def ac_model_Model_Sectors_5 : AC := .seq ac_model_Model_Sectors_1 ac_model_Model_Sectors_4
def l_model_Model_Sectors_6 : List AOp := [⟨(some 16), .mv (.t 0), none, none, [], none⟩,
  ⟨(some 17), .nilck (.t 16), none, none, [], none⟩,
  ⟨(some 18), .faddr 1 (.t 17), none, none, [], none⟩,
  ⟨(some 19), .load none (.t 18), none, none, [], none⟩,
  ⟨(some 20), .mv (.t 1), none, none, [], none⟩,
  ⟨(some 21), .mop (.get false .nilp) [(.t 19), (.t 20)], none, none, [], none⟩,
  ⟨(some 22), .nilck (.t 21), none, none, [], none⟩,
  ⟨(some 23), .faddr 1 (.t 22), none, none, [], none⟩,
  ⟨(some 24), .load none (.t 23), none, none, [], none⟩,
  ⟨(some 25), .icall 45 [(.t 24)], none, none, [], none⟩,
  ⟨(some 26), .icall 43 [(.t 25)], none, none, [], none⟩,
  ⟨(some 4), .mv (.t 26), none, none, [], none⟩]
def ac_model_Model_Sectors_6 : AC := .reg l_model_Model_Sectors_6
def ac_model_Model_Sectors_7 : AC := .seq ac_model_Model_Sectors_6 .ret
def ac_model_Model_Sectors_8 : AC := .seq ac_model_Model_Sectors_5 ac_model_Model_Sectors_7
def ac_model_Model_Sectors_9 : AC := .seq ac_model_Model_Sectors_0 ac_model_Model_Sectors_8
def ac_model_Model_Sectors : AC := ac_model_Model_Sectors_9
theorem comp_model_Model_Sectors : compF Try.prog [1000045, 1000043] (drawR Try.prog [1000045, 1000043] Try.f21.ntmps) [] 2 Try.f21 = some (ac_model_Model_Sectors, [.t 4]) := by kernel_rfl
def U_model_Model_Sectors := (And.intro (And.intro (And.intro (And.intro @ac_model_Model_Sectors.eq_1 (@mR _ _ ac_model_Model_Sectors_0.eq_1)) (And.intro (@mR _ _ ac_model_Model_Sectors_1.eq_1) (@mR _ _ ac_model_Model_Sectors_2.eq_1))) (And.intro (And.intro (@mU _ _ ac_model_Model_Sectors_3.eq_1) (@mU _ _ ac_model_Model_Sectors_4.eq_1)) (And.intro (@mU _ _ ac_model_Model_Sectors_5.eq_1) (@mR _ _ ac_model_Model_Sectors_6.eq_1)))) (And.intro (And.intro (And.intro (@mU _ _ ac_model_Model_Sectors_7.eq_1) (@mU _ _ ac_model_Model_Sectors_8.eq_1)) (And.intro (@mU _ _ ac_model_Model_Sectors_9.eq_1) @l_model_Model_Sectors_0.eq_1)) (And.intro (And.intro @l_model_Model_Sectors_1.eq_1 @l_model_Model_Sectors_2.eq_1) @l_model_Model_Sectors_6.eq_1)))

/- (*scoria/model.Model).Same -/
def l_model_Model_Same_0 : List AOp := [⟨(some 4), .mv (.k (.bool false)), none, none, [], none⟩]
def ac_model_Model_Same_0 : AC := .reg l_model_Model_Same_0
def l_model_Model_Same_1 : List AOp := [⟨(some 5), .mv (.t 0), none, none, [], none⟩,
  ⟨(some 6), .isn .p false (.t 5), none, none, [], none⟩,
  ⟨(some 7), .mv (.t 6), none, none, [], none⟩,
  ⟨(some 8), .mv (.t 1), (some (7, false)), none, [], none⟩,
  ⟨(some 9), .isn .p false (.t 8), (some (7, false)), none, [], none⟩,
  ⟨(some 10), .pick (.t 7) (.k (.bool true)) (.t 9), none, none, [], none⟩]
def ac_model_Model_Same_1 : AC := .reg l_model_Model_Same_1
def l_model_Model_Same_2 : List AOp := [⟨(some 11), .mv (.t 0), none, none, [], none⟩,
  ⟨(some 12), .isn .p false (.t 11), none, none, [], none⟩,
  ⟨(some 13), .mv (.t 12), none, none, [], none⟩,
  ⟨(some 14), .mv (.t 1), (some (13, true)), none, [], none⟩,
  ⟨(some 15), .isn .p false (.t 14), (some (13, true)), none, [], none⟩,
  ⟨(some 16), .pick (.t 13) (.t 15) (.k (.bool false)), none, none, [], none⟩,
  ⟨(some 4), .mv (.t 16), none, none, [], none⟩]
def ac_model_Model_Same_2 : AC := .reg l_model_Model_Same_2
def ac_model_Model_Same_3 : AC := .seq ac_model_Model_Same_2 .ret
def ac_model_Model_Same_4 : AC := .cond (.t 10) ac_model_Model_Same_3 .skip
def ac_model_Model_Same_5 : AC := .seq ac_model_Model_Same_1 ac_model_Model_Same_4
def l_model_Model_Same_6 : List AOp := [⟨(some 17), .mv (.t 0), none, none, [], none⟩,
  ⟨(some 18), .nilck (.t 17), none, none, [], none⟩,
  ⟨(some 19), .faddr 0 (.t 18), none, none, [], none⟩,
  ⟨(some 20), .load none (.t 19), none, none, [], none⟩,
  ⟨(some 21), .mv (.t 1), none, none, [], none⟩,
  ⟨(some 22), .nilck (.t 21), none, none, [], none⟩,
  ⟨(some 23), .faddr 0 (.t 22), none, none, [], none⟩,
  ⟨(some 24), .load none (.t 23), none, none, [], none⟩,
  ⟨(some 25), .bin .eql (.t 20) (.t 24), none, none, [], none⟩,
  ⟨(some 26), .mv (.t 25), none, none, [], none⟩,
  ⟨(some 27), .mv (.t 0), (some (26, true)), none, [], none⟩,
  ⟨(some 28), .nilck (.t 27), (some (26, true)), none, [], none⟩,
  ⟨(some 29), .faddr 1 (.t 28), (some (26, true)), none, [], none⟩,
  ⟨(some 30), .load none (.t 29), (some (26, true)), none, [], none⟩,
  ⟨(some 31), .mv (.t 1), (some (26, true)), none, [], none⟩,
  ⟨(some 32), .nilck (.t 31), (some (26, true)), none, [], none⟩,
  ⟨(some 33), .faddr 1 (.t 32), (some (26, true)), none, [], none⟩,
  ⟨(some 34), .load none (.t 33), (some (26, true)), none, [], none⟩,
  ⟨(some 35), .icall 46 [(.t 30), (.t 34), (.k (.fn (.func 47) [] []))], (some (26, true)), none, [], none⟩,
  ⟨(some 36), .pick (.t 26) (.t 35) (.k (.bool false)), none, none, [], none⟩,
  ⟨(some 4), .mv (.t 36), none, none, [], none⟩]
def ac_model_Model_Same_6 : AC := .dreg 0 l_model_Model_Same_6
def ac_model_Model_Same_7 : AC := .seq ac_model_Model_Same_6 .ret
def ac_model_Model_Same_8 : AC := .seq ac_model_Model_Same_5 ac_model_Model_Same_7
def ac_model_Model_Same_9 : AC := .seq ac_model_Model_Same_0 ac_model_Model_Same_8
def ac_model_Model_Same : AC := ac_model_Model_Same_9
theorem comp_model_Model_Same : compF Try.prog [1000046] (drawR Try.prog [1000046] Try.f22.ntmps) [] 2 Try.f22 = some (ac_model_Model_Same, [.t 4]) := by kernel_rfl
def U_model_Model_Same := (And.intro (And.intro (And.intro (And.intro @ac_model_Model_Same.eq_1 (@mR _ _ ac_model_Model_Same_0.eq_1)) (And.intro (@mR _ _ ac_model_Model_Same_1.eq_1) (@mR _ _ ac_model_Model_Same_2.eq_1))) (And.intro (And.intro (@mU _ _ ac_model_Model_Same_3.eq_1) (@mU _ _ ac_model_Model_Same_4.eq_1)) (And.intro (@mU _ _ ac_model_Model_Same_5.eq_1) (@mD _ _ _ ac_model_Model_Same_6.eq_1)))) (And.intro (And.intro (And.intro (@mU _ _ ac_model_Model_Same_7.eq_1) (@mU _ _ ac_model_Model_Same_8.eq_1)) (And.intro (@mU _ _ ac_model_Model_Same_9.eq_1) @l_model_Model_Same_0.eq_1)) (And.intro (And.intro @l_model_Model_Same_1.eq_1 @l_model_Model_Same_2.eq_1) @l_model_Model_Same_6.eq_1)))

/- scoria/req.Name -/
def l_req_Name_0 : List AOp := [⟨(some 2), .mv (.k (.str [])), none, none, [], none⟩]
def ac_req_Name_0 : AC := .reg l_req_Name_0
def l_req_Name_1 : List AOp := [⟨(some 3), .mv (.t 0), none, none, [], none⟩,
  ⟨(some 4), .bin .lss (.t 3) (.k (.int .i64 1)), none, none, [], none⟩,
  ⟨(some 5), .mv (.t 4), none, none, [], none⟩,
  ⟨(some 6), .mv (.t 0), (some (5, false)), none, [], none⟩,
  ⟨(some 7), .bin .gtr (.t 6) (.k (.int .i64 10)), (some (5, false)), none, [], none⟩,
  ⟨(some 8), .pick (.t 5) (.k (.bool true)) (.t 7), none, none, [], none⟩]
def ac_req_Name_1 : AC := .reg l_req_Name_1
def l_req_Name_2 : List AOp := [⟨(some 2), .mv (.k (.str [63])), none, none, [], none⟩]
def ac_req_Name_2 : AC := .reg l_req_Name_2
def ac_req_Name_3 : AC := .seq ac_req_Name_2 .ret
def ac_req_Name_4 : AC := .cond (.t 8) ac_req_Name_3 .skip
def ac_req_Name_5 : AC := .seq ac_req_Name_1 ac_req_Name_4
def l_req_Name_6 : List AOp := [⟨(some 9), .build (List.replicate 11 (.str [])) [(0, 1, (.k (.str []))), (1, 1, (.k (.str [99, 114, 101, 97, 116, 101]))), (2, 1, (.k (.str [114, 101, 115, 105, 122, 101]))), (3, 1, (.k (.str [100, 101, 108, 101, 116, 101]))), (4, 1, (.k (.str [119, 114, 105, 116, 101]))), (5, 1, (.k (.str [122, 101, 114, 111]))), (6, 1, (.k (.str [116, 114, 105, 109]))), (7, 1, (.k (.str [114, 101, 97, 100]))), (8, 1, (.k (.str [102, 108, 117, 115, 104]))), (9, 1, (.k (.str [105, 110, 102, 111]))), (10, 1, (.k (.str [108, 105, 115, 116])))], none, none, [], none⟩,
  ⟨(some 10), .mv (.t 0), none, none, [], none⟩,
  ⟨(some 11), .idxa none 1 11 (.t 9) (.t 10), none, none, [], none⟩,
  ⟨(some 2), .mv (.t 11), none, none, [], none⟩]
def ac_req_Name_6 : AC := .reg l_req_Name_6
def ac_req_Name_7 : AC := .seq ac_req_Name_6 .ret
def ac_req_Name_8 : AC := .seq ac_req_Name_5 ac_req_Name_7
def ac_req_Name_9 : AC := .seq ac_req_Name_0 ac_req_Name_8
def ac_req_Name : AC := ac_req_Name_9
theorem comp_req_Name : compF Try.prog [] (drawR Try.prog [] Try.f24.ntmps) [] 1 Try.f24 = some (ac_req_Name, [.t 2]) := by kernel_rfl
def U_req_Name := (And.intro (And.intro (And.intro (And.intro @ac_req_Name.eq_1 (@mR _ _ ac_req_Name_0.eq_1)) (And.intro (@mR _ _ ac_req_Name_1.eq_1) (@mR _ _ ac_req_Name_2.eq_1))) (And.intro (And.intro (@mU _ _ ac_req_Name_3.eq_1) (@mU _ _ ac_req_Name_4.eq_1)) (And.intro (@mU _ _ ac_req_Name_5.eq_1) (@mR _ _ ac_req_Name_6.eq_1)))) (And.intro (And.intro (And.intro (@mU _ _ ac_req_Name_7.eq_1) (@mU _ _ ac_req_Name_8.eq_1)) (And.intro (@mU _ _ ac_req_Name_9.eq_1) @l_req_Name_0.eq_1)) (And.intro (And.intro @l_req_Name_1.eq_1 @l_req_Name_2.eq_1) @l_req_Name_6.eq_1)))

/- scoria/model.sized -/
def l_model_sized_0 : List AOp := [⟨(some 2), .mv (.k (.bool false)), none, none, [], none⟩]
def ac_model_sized_0 : AC := .reg l_model_sized_0
def l_model_sized_1 : List AOp := [⟨(some 3), .mv (.t 0), none, none, [], none⟩,
  ⟨(some 4), .bin .geq (.t 3) (.k (.int .i64 0)), none, none, [], none⟩,
  ⟨(some 5), .mv (.t 4), none, none, [], none⟩,
  ⟨(some 6), .mv (.t 0), (some (5, true)), none, [], none⟩,
  ⟨(some 7), .bin .leq (.t 6) (.k (.int .i64 16777216)), (some (5, true)), none, [], none⟩,
  ⟨(some 8), .pick (.t 5) (.t 7) (.k (.bool false)), none, none, [], none⟩,
  ⟨(some 2), .mv (.t 8), none, none, [], none⟩]
def ac_model_sized_1 : AC := .reg l_model_sized_1
def ac_model_sized_2 : AC := .seq ac_model_sized_1 .ret
def ac_model_sized_3 : AC := .seq ac_model_sized_0 ac_model_sized_2
def ac_model_sized : AC := ac_model_sized_3
theorem comp_model_sized : compF Try.prog [] (drawR Try.prog [] Try.f25.ntmps) [] 1 Try.f25 = some (ac_model_sized, [.t 2]) := by kernel_rfl
def U_model_sized := (And.intro (And.intro (And.intro @ac_model_sized.eq_1 (@mR _ _ ac_model_sized_0.eq_1)) (And.intro (@mR _ _ ac_model_sized_1.eq_1) (@mU _ _ ac_model_sized_2.eq_1))) (And.intro (And.intro (@mU _ _ ac_model_sized_3.eq_1) @l_model_sized_0.eq_1) @l_model_sized_1.eq_1))

/- scoria/model.fail -/
def l_model_fail_0 : List AOp := [⟨(some 2), .alloc [(.int .i64 0), (.str []), (.int .i64 0), (.int .i64 0), (.slc [])], none, none, [], none⟩]
def ac_model_fail_0 : AC := .reg l_model_fail_0
def l_model_fail_1 : List AOp := [⟨(some 3), .mv (.t 0), none, none, [], none⟩,
  ⟨(some 4), .build [(.int .i64 0), (.str []), (.int .i64 0), (.int .i64 0), (.slc [])] [(0, 1, (.t 3))], none, none, [], none⟩,
  ⟨none, .store 5 (.t 2) (.t 4), none, none, [], none⟩]
def ac_model_fail_1 : AC := .reg l_model_fail_1
def ac_model_fail_2 : AC := .seq ac_model_fail_1 .ret
def ac_model_fail_3 : AC := .seq ac_model_fail_0 ac_model_fail_2
def ac_model_fail : AC := ac_model_fail_3
theorem comp_model_fail : compF Try.prog [] (drawR Try.prog [] Try.f26.ntmps) [] 1 Try.f26 = some (ac_model_fail, [.c 2 (some 5)]) := by kernel_rfl
def U_model_fail := (And.intro (And.intro (And.intro @ac_model_fail.eq_1 (@mR _ _ ac_model_fail_0.eq_1)) (And.intro (@mR _ _ ac_model_fail_1.eq_1) (@mU _ _ ac_model_fail_2.eq_1))) (And.intro (And.intro (@mU _ _ ac_model_fail_3.eq_1) @l_model_fail_0.eq_1) @l_model_fail_1.eq_1))

/- (*scoria/model.Model).create -/
def l_model_Model_create_0 : List AOp := [⟨(some 3), .box (.t 1), none, none, [], none⟩,
  ⟨(some 4), .alloc [(.int .i64 0), (.str []), (.int .i64 0), (.int .i64 0), (.slc [])], none, none, [], none⟩]
def ac_model_Model_create_0 : AC := .reg l_model_Model_create_0
def l_model_Model_create_1 : List AOp := [⟨(some 6), .faddr 1 (.t 3), none, none, [], none⟩,
  ⟨(some 7), .load none (.t 6), none, none, [], none⟩,
  ⟨(some 8), .bin .lss (.t 7) (.k (.int .i64 1)), none, none, [], none⟩,
  ⟨(some 9), .mv (.t 8), none, none, [], none⟩,
  ⟨(some 10), .faddr 1 (.t 3), (some (9, false)), none, [], none⟩,
  ⟨(some 11), .load none (.t 10), (some (9, false)), none, [], none⟩,
  ⟨(some 12), .bin .gtr (.t 11) (.k (.int .i64 65535)), (some (9, false)), none, [], none⟩,
  ⟨(some 13), .pick (.t 9) (.k (.bool true)) (.t 12), none, none, [], none⟩,
  ⟨(some 14), .mv (.t 13), none, none, [], none⟩,
  ⟨(some 15), .faddr 3 (.t 3), (some (14, false)), none, [], none⟩,
  ⟨(some 16), .load none (.t 15), (some (14, false)), none, [], none⟩,
  ⟨(some 17), .call false 25 [(.t 16)], (some (14, false)), none, [], none⟩,
  ⟨(some 18), .un .not (.t 17), (some (14, false)), none, [], none⟩,
  ⟨(some 19), .pick (.t 14) (.k (.bool true)) (.t 18), none, none, [], none⟩,
  ⟨(some 5), .mv (.t 19), none, none, [], none⟩]
def ac_model_Model_create_1 : AC := .reg l_model_Model_create_1
def l_model_Model_create_2 : List AOp := [⟨(some 20), .call false 26 [(.k (.int .i64 1))], none, none, [], none⟩,
  ⟨none, .store 5 (.t 4) (.t 20), none, none, [], none⟩]
def ac_model_Model_create_2 : AC := .reg l_model_Model_create_2
def ac_model_Model_create_3 : AC := .seq ac_model_Model_create_2 .ret
def l_model_Model_create_4 : List AOp := [⟨(some 22), .mv (.t 0), none, none, [], none⟩,
  ⟨(some 23), .nilck (.t 22), none, none, [], none⟩,
  ⟨(some 24), .faddr 1 (.t 23), none, none, [], none⟩,
  ⟨(some 25), .load none (.t 24), none, none, [], none⟩,
  ⟨(some 26), .faddr 1 (.t 3), none, none, [], none⟩,
  ⟨(some 27), .load none (.t 26), none, none, [], none⟩,
  ⟨(some 28), .mop (.get false .nilp) [(.t 25), (.t 27)], none, none, [], none⟩,
  ⟨(some 29), .isn .p true (.t 28), none, none, [], none⟩,
  ⟨(some 21), .mv (.t 29), none, none, [], none⟩]
def ac_model_Model_create_4 : AC := .dreg 0 l_model_Model_create_4
def l_model_Model_create_5 : List AOp := [⟨(some 30), .call false 26 [(.k (.int .i64 7))], none, none, [], none⟩,
  ⟨none, .store 5 (.t 4) (.t 30), none, none, [], none⟩]
def ac_model_Model_create_5 : AC := .reg l_model_Model_create_5
def ac_model_Model_create_6 : AC := .seq ac_model_Model_create_5 .ret
def l_model_Model_create_7 : List AOp := [⟨(some 32), .mv (.t 0), none, none, [], none⟩,
  ⟨(some 33), .nilck (.t 32), none, none, [], none⟩,
  ⟨(some 34), .faddr 1 (.t 33), none, none, [], none⟩,
  ⟨(some 35), .load none (.t 34), none, none, [], none⟩,
  ⟨(some 36), .mop .len [(.t 35)], none, none, [], none⟩,
  ⟨(some 37), .bin .geq (.t 36) (.k (.int .i64 8)), none, none, [], none⟩,
  ⟨(some 31), .mv (.t 37), none, none, [], none⟩]
def ac_model_Model_create_7 : AC := .reg l_model_Model_create_7
def l_model_Model_create_8 : List AOp := [⟨(some 38), .call false 26 [(.k (.int .i64 70))], none, none, [], none⟩,
  ⟨none, .store 5 (.t 4) (.t 38), none, none, [], none⟩]
def ac_model_Model_create_8 : AC := .reg l_model_Model_create_8
def ac_model_Model_create_9 : AC := .seq ac_model_Model_create_8 .ret
def ac_model_Model_create_10 : AC := .cond (.t 31) ac_model_Model_create_9 .skip
def ac_model_Model_create_11 : AC := .seq ac_model_Model_create_7 ac_model_Model_create_10
def ac_model_Model_create_12 : AC := .cond (.t 21) ac_model_Model_create_6 ac_model_Model_create_11
def ac_model_Model_create_13 : AC := .seq ac_model_Model_create_4 ac_model_Model_create_12
def ac_model_Model_create_14 : AC := .cond (.t 5) ac_model_Model_create_3 ac_model_Model_create_13
def ac_model_Model_create_15 : AC := .seq ac_model_Model_create_1 ac_model_Model_create_14
def ac_model_Model_create_16 : AC := .block 0 ac_model_Model_create_15
def l_model_Model_create_17t0 : List AOp := []
def l_model_Model_create_17t1 : List AOp := []
def l_model_Model_create_17t2 : List AOp := []
def l_model_Model_create_17t3 : List AOp := [⟨(some 39), .mv (.t 0), none, none, [], none⟩,
  ⟨(some 40), .nilck (.t 39), none, none, [], none⟩,
  ⟨(some 41), .faddr 1 (.t 40), none, none, [], none⟩,
  ⟨(some 42), .load none (.t 41), none, none, [0], none⟩]
def l_model_Model_create_17t4 : List AOp := []
def l_model_Model_create_17t5 : List AOp := [⟨(some 43), .faddr 1 (.t 3), none, none, [], none⟩,
  ⟨(some 44), .load none (.t 43), none, none, [0], none⟩]
def l_model_Model_create_17t6 : List AOp := [⟨(some 45), .faddr 3 (.t 3), none, none, [], none⟩,
  ⟨(some 46), .load none (.t 45), none, none, [0], none⟩,
  ⟨(some 47), .mop .mk [], none, none, [0], none⟩,
  ⟨(some 48), .build [(.int .i64 0), .nilm] [(0, 1, (.t 46)), (1, 1, (.t 47))], none, none, [], none⟩,
  ⟨(some 49), .box (.t 48), none, (some 0), [], none⟩,
  ⟨none, .mop .set [(.t 42), (.t 44), (.t 49)], none, none, [], none⟩]
def l_model_Model_create_17t7 : List AOp := [⟨(some 47), .mop .mk [], none, none, [0], none⟩,
  ⟨(some 45), .faddr 3 (.t 3), none, none, [], none⟩,
  ⟨(some 46), .load none (.t 45), none, none, [0], none⟩,
  ⟨(some 48), .build [(.int .i64 0), .nilm] [(0, 1, (.t 46)), (1, 1, (.t 47))], none, none, [], none⟩,
  ⟨(some 49), .box (.t 48), none, (some 0), [], none⟩,
  ⟨none, .mop .set [(.t 42), (.t 44), (.t 49)], none, none, [], none⟩]
def l_model_Model_create_17t8 : List AOp := [⟨(some 45), .faddr 3 (.t 3), none, none, [], none⟩,
  ⟨(some 46), .load none (.t 45), none, none, [0], none⟩,
  ⟨(some 47), .mop .mk [], none, none, [0], none⟩,
  ⟨(some 43), .faddr 1 (.t 3), none, none, [], none⟩,
  ⟨(some 44), .load none (.t 43), none, none, [0], none⟩,
  ⟨(some 48), .build [(.int .i64 0), .nilm] [(0, 1, (.t 46)), (1, 1, (.t 47))], none, none, [], none⟩,
  ⟨(some 49), .box (.t 48), none, (some 0), [], none⟩,
  ⟨none, .mop .set [(.t 42), (.t 44), (.t 49)], none, none, [], none⟩]
def l_model_Model_create_17t9 : List AOp := [⟨(some 47), .mop .mk [], none, none, [0], none⟩,
  ⟨(some 43), .faddr 1 (.t 3), none, none, [], none⟩,
  ⟨(some 44), .load none (.t 43), none, none, [0], none⟩,
  ⟨(some 45), .faddr 3 (.t 3), none, none, [], none⟩,
  ⟨(some 46), .load none (.t 45), none, none, [0], none⟩,
  ⟨(some 48), .build [(.int .i64 0), .nilm] [(0, 1, (.t 46)), (1, 1, (.t 47))], none, none, [], none⟩,
  ⟨(some 49), .box (.t 48), none, (some 0), [], none⟩,
  ⟨none, .mop .set [(.t 42), (.t 44), (.t 49)], none, none, [], none⟩]
def l_model_Model_create_17t10 : List AOp := [⟨(some 43), .faddr 1 (.t 3), none, none, [], none⟩,
  ⟨(some 44), .load none (.t 43), none, none, [0], none⟩]
def l_model_Model_create_17t11 : List AOp := [⟨(some 45), .faddr 3 (.t 3), none, none, [], none⟩,
  ⟨(some 46), .load none (.t 45), none, none, [0], none⟩,
  ⟨(some 47), .mop .mk [], none, none, [0], none⟩,
  ⟨(some 39), .mv (.t 0), none, none, [], none⟩,
  ⟨(some 40), .nilck (.t 39), none, none, [], none⟩,
  ⟨(some 41), .faddr 1 (.t 40), none, none, [], none⟩,
  ⟨(some 42), .load none (.t 41), none, none, [0], none⟩,
  ⟨(some 48), .build [(.int .i64 0), .nilm] [(0, 1, (.t 46)), (1, 1, (.t 47))], none, none, [], none⟩,
  ⟨(some 49), .box (.t 48), none, (some 0), [], none⟩,
  ⟨none, .mop .set [(.t 42), (.t 44), (.t 49)], none, none, [], none⟩]
def l_model_Model_create_17t12 : List AOp := [⟨(some 47), .mop .mk [], none, none, [0], none⟩,
  ⟨(some 39), .mv (.t 0), none, none, [], none⟩,
  ⟨(some 40), .nilck (.t 39), none, none, [], none⟩,
  ⟨(some 41), .faddr 1 (.t 40), none, none, [], none⟩,
  ⟨(some 42), .load none (.t 41), none, none, [0], none⟩,
  ⟨(some 45), .faddr 3 (.t 3), none, none, [], none⟩,
  ⟨(some 46), .load none (.t 45), none, none, [0], none⟩,
  ⟨(some 48), .build [(.int .i64 0), .nilm] [(0, 1, (.t 46)), (1, 1, (.t 47))], none, none, [], none⟩,
  ⟨(some 49), .box (.t 48), none, (some 0), [], none⟩,
  ⟨none, .mop .set [(.t 42), (.t 44), (.t 49)], none, none, [], none⟩]
def l_model_Model_create_17t13 : List AOp := [⟨(some 45), .faddr 3 (.t 3), none, none, [], none⟩,
  ⟨(some 46), .load none (.t 45), none, none, [0], none⟩,
  ⟨(some 47), .mop .mk [], none, none, [0], none⟩,
  ⟨(some 39), .mv (.t 0), none, none, [], none⟩,
  ⟨(some 40), .nilck (.t 39), none, none, [], none⟩,
  ⟨(some 41), .faddr 1 (.t 40), none, none, [], none⟩,
  ⟨(some 42), .load none (.t 41), none, none, [0], none⟩,
  ⟨(some 43), .faddr 1 (.t 3), none, none, [], none⟩,
  ⟨(some 44), .load none (.t 43), none, none, [0], none⟩,
  ⟨(some 48), .build [(.int .i64 0), .nilm] [(0, 1, (.t 46)), (1, 1, (.t 47))], none, none, [], none⟩,
  ⟨(some 49), .box (.t 48), none, (some 0), [], none⟩,
  ⟨none, .mop .set [(.t 42), (.t 44), (.t 49)], none, none, [], none⟩]
def l_model_Model_create_17t14 : List AOp := [⟨(some 47), .mop .mk [], none, none, [0], none⟩,
  ⟨(some 39), .mv (.t 0), none, none, [], none⟩,
  ⟨(some 40), .nilck (.t 39), none, none, [], none⟩,
  ⟨(some 41), .faddr 1 (.t 40), none, none, [], none⟩,
  ⟨(some 42), .load none (.t 41), none, none, [0], none⟩,
  ⟨(some 43), .faddr 1 (.t 3), none, none, [], none⟩,
  ⟨(some 44), .load none (.t 43), none, none, [0], none⟩,
  ⟨(some 45), .faddr 3 (.t 3), none, none, [], none⟩,
  ⟨(some 46), .load none (.t 45), none, none, [0], none⟩,
  ⟨(some 48), .build [(.int .i64 0), .nilm] [(0, 1, (.t 46)), (1, 1, (.t 47))], none, none, [], none⟩,
  ⟨(some 49), .box (.t 48), none, (some 0), [], none⟩,
  ⟨none, .mop .set [(.t 42), (.t 44), (.t 49)], none, none, [], none⟩]
def ac_model_Model_create_17 : AC := .dregs 1 (.node l_model_Model_create_17t0 (.node l_model_Model_create_17t1 (.node l_model_Model_create_17t2 (.node l_model_Model_create_17t3 (.node l_model_Model_create_17t4 (.node l_model_Model_create_17t5 (.leaf l_model_Model_create_17t6) (.leaf l_model_Model_create_17t7)) (.leaf l_model_Model_create_17t8)) (.leaf l_model_Model_create_17t9)) (.node l_model_Model_create_17t10 (.leaf l_model_Model_create_17t11) (.leaf l_model_Model_create_17t12))) (.leaf l_model_Model_create_17t13)) (.leaf l_model_Model_create_17t14))
def l_model_Model_create_18 : List AOp := [⟨(some 50), .build [(.int .i64 0), (.str []), (.int .i64 0), (.int .i64 0), (.slc [])] [], none, none, [], none⟩,
  ⟨none, .store 5 (.t 4) (.t 50), none, none, [], none⟩]
def ac_model_Model_create_18 : AC := .reg l_model_Model_create_18
def ac_model_Model_create_19 : AC := .seq ac_model_Model_create_18 .ret
def ac_model_Model_create_20 : AC := .seq ac_model_Model_create_17 ac_model_Model_create_19
def ac_model_Model_create_21 : AC := .seq ac_model_Model_create_16 ac_model_Model_create_20
def ac_model_Model_create_22 : AC := .seq ac_model_Model_create_0 ac_model_Model_create_21
def ac_model_Model_create : AC := ac_model_Model_create_22
theorem comp_model_Model_create : compF Try.prog [] (drawR Try.prog [] Try.f27.ntmps) [] 2 Try.f27 = some (ac_model_Model_create, [.c 4 (some 5)]) := by kernel_rfl
def U_model_Model_create := (And.intro (And.intro (And.intro (And.intro (And.intro (And.intro @ac_model_Model_create.eq_1 (@mR _ _ ac_model_Model_create_0.eq_1)) (@mR _ _ ac_model_Model_create_1.eq_1)) (And.intro (And.intro (@mR _ _ ac_model_Model_create_2.eq_1) (@mU _ _ ac_model_Model_create_3.eq_1)) (@mD _ _ _ ac_model_Model_create_4.eq_1))) (And.intro (And.intro (And.intro (@mR _ _ ac_model_Model_create_5.eq_1) (@mU _ _ ac_model_Model_create_6.eq_1)) (@mR _ _ ac_model_Model_create_7.eq_1)) (And.intro (And.intro (@mR _ _ ac_model_Model_create_8.eq_1) (@mU _ _ ac_model_Model_create_9.eq_1)) (@mU _ _ ac_model_Model_create_10.eq_1)))) (And.intro (And.intro (And.intro (And.intro (@mU _ _ ac_model_Model_create_11.eq_1) (@mU _ _ ac_model_Model_create_12.eq_1)) (@mU _ _ ac_model_Model_create_13.eq_1)) (And.intro (And.intro (@mU _ _ ac_model_Model_create_14.eq_1) (@mU _ _ ac_model_Model_create_15.eq_1)) (@mU _ _ ac_model_Model_create_16.eq_1))) (And.intro (And.intro (And.intro (@mDN _ _ _ ac_model_Model_create_17.eq_1) (@mR _ _ ac_model_Model_create_18.eq_1)) (@mU _ _ ac_model_Model_create_19.eq_1)) (And.intro (And.intro (@mU _ _ ac_model_Model_create_20.eq_1) (@mU _ _ ac_model_Model_create_21.eq_1)) (@mU _ _ ac_model_Model_create_22.eq_1))))) (And.intro (And.intro (And.intro (And.intro (And.intro @l_model_Model_create_0.eq_1 @l_model_Model_create_1.eq_1) @l_model_Model_create_2.eq_1) (And.intro (And.intro @l_model_Model_create_4.eq_1 @l_model_Model_create_5.eq_1) @l_model_Model_create_7.eq_1)) (And.intro (And.intro (And.intro @l_model_Model_create_8.eq_1 @l_model_Model_create_18.eq_1) @l_model_Model_create_17t0.eq_1) (And.intro (And.intro @l_model_Model_create_17t1.eq_1 @l_model_Model_create_17t2.eq_1) @l_model_Model_create_17t3.eq_1))) (And.intro (And.intro (And.intro (And.intro @l_model_Model_create_17t4.eq_1 @l_model_Model_create_17t5.eq_1) @l_model_Model_create_17t6.eq_1) (And.intro (And.intro @l_model_Model_create_17t7.eq_1 @l_model_Model_create_17t8.eq_1) @l_model_Model_create_17t9.eq_1)) (And.intro (And.intro (And.intro @l_model_Model_create_17t10.eq_1 @l_model_Model_create_17t11.eq_1) @l_model_Model_create_17t12.eq_1) (And.intro @l_model_Model_create_17t13.eq_1 @l_model_Model_create_17t14.eq_1)))))

/- (*scoria/model.Model).used -/
def l_model_Model_used_0 : List AOp := [⟨(some 2), .mv (.k (.int .i64 0)), none, none, [], none⟩]
def ac_model_Model_used_0 : AC := .reg l_model_Model_used_0
def l_model_Model_used_1 : List AOp := [⟨(some 3), .mv (.k (.int .i64 0)), none, none, [], none⟩]
def ac_model_Model_used_1 : AC := .reg l_model_Model_used_1
def l_model_Model_used_2 : List AOp := [⟨(some 6), .mv (.t 0), none, none, [], none⟩,
  ⟨(some 7), .nilck (.t 6), none, none, [], none⟩,
  ⟨(some 8), .faddr 1 (.t 7), none, none, [], none⟩,
  ⟨(some 9), .load none (.t 8), none, none, [], none⟩,
  ⟨(some 10), .mop .rng [(.t 9)], none, none, [], none⟩]
def ac_model_Model_used_2 : AC := .reg l_model_Model_used_2
def l_model_Model_used_3 : List AOp := [⟨(some 11), .mop .nxt [(.t 10)], none, none, [], none⟩,
  ⟨(some 12), .ext 0 (.t 11), none, none, [], none⟩]
def ac_model_Model_used_3 : AC := .reg l_model_Model_used_3
def ac_model_Model_used_4 : AC := .cond (.t 12) .skip (.exit 0)
def l_model_Model_used_5 : List AOp := [⟨(some 13), .mop .ent [(.t 10)], none, none, [], none⟩,
  ⟨(some 14), .ext 1 (.t 13), none, none, [], none⟩,
  ⟨(some 5), .mv (.t 14), none, none, [], none⟩]
def ac_model_Model_used_5 : AC := .reg l_model_Model_used_5
def l_model_Model_used_6 : List AOp := [⟨(some 15), .mv (.t 3), none, none, [], none⟩,
  ⟨(some 16), .mv (.t 5), none, none, [], none⟩,
  ⟨(some 17), .nilck (.t 16), none, none, [], none⟩,
  ⟨(some 18), .faddr 1 (.t 17), none, none, [], none⟩,
  ⟨(some 19), .load none (.t 18), none, none, [], none⟩,
  ⟨(some 20), .mop .len [(.t 19)], none, none, [], none⟩,
  ⟨(some 21), .bin .add (.t 15) (.t 20), none, none, [], none⟩,
  ⟨(some 3), .mv (.t 21), none, none, [], none⟩]
def ac_model_Model_used_6 : AC := .reg l_model_Model_used_6
def ac_model_Model_used_7 : AC := .seq ac_model_Model_used_5 ac_model_Model_used_6
def ac_model_Model_used_8 : AC := .block 1 ac_model_Model_used_7
def ac_model_Model_used_9 : AC := .seq ac_model_Model_used_4 ac_model_Model_used_8
def ac_model_Model_used_10 : AC := .seq ac_model_Model_used_3 ac_model_Model_used_9
def ac_model_Model_used_11 : AC := .loop [3, 10] 1000000000 ac_model_Model_used_10
def ac_model_Model_used_12 : AC := .block 0 ac_model_Model_used_11
def ac_model_Model_used_13 : AC := .seq ac_model_Model_used_2 ac_model_Model_used_12
def l_model_Model_used_14 : List AOp := [⟨(some 22), .mv (.t 3), none, none, [], none⟩,
  ⟨(some 2), .mv (.t 22), none, none, [], none⟩]
def ac_model_Model_used_14 : AC := .reg l_model_Model_used_14
def ac_model_Model_used_15 : AC := .seq ac_model_Model_used_14 .ret
def ac_model_Model_used_16 : AC := .seq ac_model_Model_used_13 ac_model_Model_used_15
def ac_model_Model_used_17 : AC := .seq ac_model_Model_used_1 ac_model_Model_used_16
def ac_model_Model_used_18 : AC := .seq ac_model_Model_used_0 ac_model_Model_used_17
def ac_model_Model_used : AC := ac_model_Model_used_18
theorem comp_model_Model_used : compF Try.prog [] (drawR Try.prog [] Try.f28.ntmps) [([3, 10], 1000000000)] 1 Try.f28 = some (ac_model_Model_used, [.t 2]) := by kernel_rfl
def U_model_Model_used := (And.intro (And.intro (And.intro (And.intro (And.intro @ac_model_Model_used.eq_1 (@mR _ _ ac_model_Model_used_0.eq_1)) (And.intro (@mR _ _ ac_model_Model_used_1.eq_1) (@mR _ _ ac_model_Model_used_2.eq_1))) (And.intro (And.intro (@mR _ _ ac_model_Model_used_3.eq_1) (@mU _ _ ac_model_Model_used_4.eq_1)) (@mR _ _ ac_model_Model_used_5.eq_1))) (And.intro (And.intro (And.intro (@mR _ _ ac_model_Model_used_6.eq_1) (@mU _ _ ac_model_Model_used_7.eq_1)) (And.intro (@mU _ _ ac_model_Model_used_8.eq_1) (@mU _ _ ac_model_Model_used_9.eq_1))) (And.intro (And.intro (@mU _ _ ac_model_Model_used_10.eq_1) (@mU _ _ ac_model_Model_used_11.eq_1)) (@mU _ _ ac_model_Model_used_12.eq_1)))) (And.intro (And.intro (And.intro (And.intro (@mU _ _ ac_model_Model_used_13.eq_1) (@mR _ _ ac_model_Model_used_14.eq_1)) (And.intro (@mU _ _ ac_model_Model_used_15.eq_1) (@mU _ _ ac_model_Model_used_16.eq_1))) (And.intro (And.intro (@mU _ _ ac_model_Model_used_17.eq_1) (@mU _ _ ac_model_Model_used_18.eq_1)) @l_model_Model_used_0.eq_1)) (And.intro (And.intro (And.intro @l_model_Model_used_1.eq_1 @l_model_Model_used_2.eq_1) @l_model_Model_used_3.eq_1) (And.intro (And.intro @l_model_Model_used_5.eq_1 @l_model_Model_used_6.eq_1) @l_model_Model_used_14.eq_1))))

/- (*scoria/model.space).cut -/
def l_model_space_cut_0 : List AOp := [⟨(some 3), .box (.t 1), none, none, [], none⟩]
def ac_model_space_cut_0 : AC := .reg l_model_space_cut_0
def l_model_space_cut_1 : List AOp := [⟨(some 4), .mv (.t 0), none, none, [], none⟩,
  ⟨(some 5), .nilck (.t 4), none, none, [], none⟩,
  ⟨(some 6), .faddr 1 (.t 5), none, none, [], none⟩,
  ⟨(some 7), .load none (.t 6), none, none, [], none⟩,
  ⟨(some 8), .mkfn (.func 50) [] [(.t 3)], none, none, [], none⟩,
  ⟨(some 9), .icall 49 [(.t 7), (.t 8)], none, none, [], none⟩]
def ac_model_space_cut_1 : AC := .reg l_model_space_cut_1
def ac_model_space_cut_2 : AC := .seq ac_model_space_cut_0 ac_model_space_cut_1
def ac_model_space_cut : AC := ac_model_space_cut_2
theorem comp_model_space_cut : compF Try.prog [1000049] (drawR Try.prog [1000049] Try.f29.ntmps) [] 2 Try.f29 = some (ac_model_space_cut, []) := by kernel_rfl
def U_model_space_cut := (And.intro (And.intro (And.intro @ac_model_space_cut.eq_1 (@mR _ _ ac_model_space_cut_0.eq_1)) (@mR _ _ ac_model_space_cut_1.eq_1)) (And.intro (And.intro (@mU _ _ ac_model_space_cut_2.eq_1) @l_model_space_cut_0.eq_1) @l_model_space_cut_1.eq_1))

/- (*scoria/model.Model).Do$1 -/
def l_model_Model_Do_c1_0 : List AOp := [⟨(some 3), .mv (.k (.bool false)), none, none, [], none⟩]
def ac_model_Model_Do_c1_0 : AC := .reg l_model_Model_Do_c1_0
def l_model_Model_Do_c1_1 : List AOp := [⟨(some 4), .mv (.t 0), none, none, [], none⟩,
  ⟨(some 5), .faddr 3 (.t 1), none, none, [], none⟩,
  ⟨(some 6), .load none (.t 5), none, none, [], none⟩,
  ⟨(some 7), .bin .geq (.t 4) (.t 6), none, none, [], none⟩,
  ⟨(some 3), .mv (.t 7), none, none, [], none⟩]
def ac_model_Model_Do_c1_1 : AC := .reg l_model_Model_Do_c1_1
def ac_model_Model_Do_c1_2 : AC := .seq ac_model_Model_Do_c1_1 .ret
def ac_model_Model_Do_c1_3 : AC := .seq ac_model_Model_Do_c1_0 ac_model_Model_Do_c1_2
def ac_model_Model_Do_c1 : AC := ac_model_Model_Do_c1_3
theorem comp_model_Model_Do_c1 : compF Try.prog [] (drawR Try.prog [] Try.f30.ntmps) [] 2 Try.f30 = some (ac_model_Model_Do_c1, [.t 3]) := by kernel_rfl
def U_model_Model_Do_c1 := (And.intro (And.intro (And.intro @ac_model_Model_Do_c1.eq_1 (@mR _ _ ac_model_Model_Do_c1_0.eq_1)) (And.intro (@mR _ _ ac_model_Model_Do_c1_1.eq_1) (@mU _ _ ac_model_Model_Do_c1_2.eq_1))) (And.intro (And.intro (@mU _ _ ac_model_Model_Do_c1_3.eq_1) @l_model_Model_Do_c1_0.eq_1) @l_model_Model_Do_c1_1.eq_1))

/- (*scoria/model.Model).sectors -/
def l_model_Model_sectors_0 : List AOp := [⟨(some 5), .box (.t 2), none, none, [], none⟩,
  ⟨(some 6), .alloc [(.int .i64 0), (.str []), (.int .i64 0), (.int .i64 0), (.slc [])], none, none, [], none⟩]
def ac_model_Model_sectors_0 : AC := .reg l_model_Model_sectors_0
def l_model_Model_sectors_1 : List AOp := [⟨(some 10), .load (some 5) (.t 5), none, none, [], none⟩,
  ⟨(some 11), .call false 51 [(.t 10)], none, none, [], none⟩,
  ⟨(some 9), .mv (.t 11), none, none, [], none⟩,
  ⟨(some 12), .ext 0 (.t 9), none, none, [], none⟩,
  ⟨(some 13), .ext 1 (.t 9), none, none, [], none⟩,
  ⟨(some 7), .alloc [(.int .i64 0)], none, none, [], none⟩,
  ⟨none, .store 1 (.t 7) (.t 12), none, none, [], none⟩,
  ⟨(some 8), .mv (.t 13), none, none, [], none⟩]
def ac_model_Model_sectors_1 : AC := .reg l_model_Model_sectors_1
def l_model_Model_sectors_2 : List AOp := [⟨(some 15), .mv (.t 8), none, none, [], none⟩,
  ⟨(some 16), .un .not (.t 15), none, none, [], none⟩,
  ⟨(some 14), .mv (.t 16), none, none, [], none⟩]
def ac_model_Model_sectors_2 : AC := .reg l_model_Model_sectors_2
def l_model_Model_sectors_3 : List AOp := [⟨(some 17), .call false 26 [(.k (.int .i64 1))], none, none, [], none⟩,
  ⟨none, .store 5 (.t 6) (.t 17), none, none, [], none⟩]
def ac_model_Model_sectors_3 : AC := .reg l_model_Model_sectors_3
def ac_model_Model_sectors_4 : AC := .seq ac_model_Model_sectors_3 .ret
def l_model_Model_sectors_5 : List AOp := [⟨(some 19), .faddr 2 (.t 5), none, none, [], none⟩,
  ⟨(some 20), .load none (.t 19), none, none, [], none⟩,
  ⟨(some 21), .bin .lss (.t 20) (.k (.int .i64 0)), none, none, [], none⟩,
  ⟨(some 22), .mv (.t 21), none, none, [], none⟩,
  ⟨(some 23), .faddr 2 (.t 5), (some (22, false)), none, [], none⟩,
  ⟨(some 24), .load none (.t 23), (some (22, false)), none, [], none⟩,
  ⟨(some 25), .mv (.t 1), (some (22, false)), none, [], none⟩,
  ⟨(some 26), .nilck (.t 25), (some (22, false)), none, [], none⟩,
  ⟨(some 27), .faddr 0 (.t 26), (some (22, false)), none, [], none⟩,
  ⟨(some 28), .load none (.t 27), (some (22, false)), none, [], none⟩,
  ⟨(some 29), .bin .gtr (.t 24) (.t 28), (some (22, false)), none, [], none⟩,
  ⟨(some 30), .pick (.t 22) (.k (.bool true)) (.t 29), none, none, [], none⟩,
  ⟨(some 31), .mv (.t 30), none, none, [], none⟩,
  ⟨(some 32), .load none (.t 7), (some (31, false)), none, [], none⟩,
  ⟨(some 33), .mv (.t 1), (some (31, false)), none, [], none⟩,
  ⟨(some 34), .nilck (.t 33), (some (31, false)), none, [], none⟩,
  ⟨(some 35), .faddr 0 (.t 34), (some (31, false)), none, [], none⟩,
  ⟨(some 36), .load none (.t 35), (some (31, false)), none, [], none⟩,
  ⟨(some 37), .faddr 2 (.t 5), (some (31, false)), none, [], none⟩,
  ⟨(some 38), .load none (.t 37), (some (31, false)), none, [], none⟩,
  ⟨(some 39), .bin .sub (.t 36) (.t 38), (some (31, false)), none, [], none⟩,
  ⟨(some 40), .bin .gtr (.t 32) (.t 39), (some (31, false)), none, [], none⟩,
  ⟨(some 41), .pick (.t 31) (.k (.bool true)) (.t 40), none, none, [], none⟩,
  ⟨(some 18), .mv (.t 41), none, none, [], none⟩]
def ac_model_Model_sectors_5 : AC := .dreg 0 l_model_Model_sectors_5
def l_model_Model_sectors_6 : List AOp := [⟨(some 42), .call false 26 [(.k (.int .i64 82))], none, none, [], none⟩,
  ⟨none, .store 5 (.t 6) (.t 42), none, none, [], none⟩]
def ac_model_Model_sectors_6 : AC := .reg l_model_Model_sectors_6
def ac_model_Model_sectors_7 : AC := .seq ac_model_Model_sectors_6 .ret
def ac_model_Model_sectors_8 : AC := .cond (.t 18) ac_model_Model_sectors_7 .skip
def ac_model_Model_sectors_9 : AC := .seq ac_model_Model_sectors_5 ac_model_Model_sectors_8
def ac_model_Model_sectors_10 : AC := .cond (.t 14) ac_model_Model_sectors_4 ac_model_Model_sectors_9
def ac_model_Model_sectors_11 : AC := .seq ac_model_Model_sectors_2 ac_model_Model_sectors_10
def ac_model_Model_sectors_12 : AC := .block 0 ac_model_Model_sectors_11
def l_model_Model_sectors_13 : List AOp := [⟨(some 43), .faddr 0 (.t 5), none, none, [], none⟩,
  ⟨(some 44), .load none (.t 43), none, none, [], none⟩]
def ac_model_Model_sectors_13 : AC := .reg l_model_Model_sectors_13
def l_model_Model_sectors_14 : List AOp := [⟨(some 46), .bin .eql (.t 44) (.k (.int .i64 7)), none, none, [], none⟩,
  ⟨(some 45), .mv (.t 46), none, none, [], none⟩]
def ac_model_Model_sectors_14 : AC := .reg l_model_Model_sectors_14
def l_model_Model_sectors_15 : List AOp := [⟨(some 47), .mv (.t 1), none, none, [], none⟩,
  ⟨(some 48), .faddr 2 (.t 5), none, none, [], none⟩,
  ⟨(some 49), .load none (.t 48), none, none, [], none⟩,
  ⟨(some 50), .load none (.t 7), none, none, [], none⟩,
  ⟨(some 51), .icall 52 [(.t 47), (.t 49), (.t 50)], none, none, [], none⟩,
  ⟨none, .store 5 (.t 6) (.t 51), none, none, [], none⟩]
def ac_model_Model_sectors_15 : AC := .reg l_model_Model_sectors_15
def ac_model_Model_sectors_16 : AC := .seq ac_model_Model_sectors_15 .ret
def l_model_Model_sectors_17 : List AOp := [⟨(some 53), .bin .eql (.t 44) (.k (.int .i64 6)), none, none, [], none⟩,
  ⟨(some 52), .mv (.t 53), none, none, [], none⟩]
def ac_model_Model_sectors_17 : AC := .reg l_model_Model_sectors_17
def l_model_Model_sectors_18 : List AOp := [⟨(some 54), .mv (.t 1), none, none, [], none⟩,
  ⟨(some 55), .mkfn (.func 53) [] [(.t 5), (.t 7)], none, none, [], none⟩,
  ⟨(some 56), .icall 29 [(.t 54), (.t 55)], none, none, [], none⟩]
def ac_model_Model_sectors_18 : AC := .reg l_model_Model_sectors_18
def l_model_Model_sectors_19 : List AOp := [⟨(some 57), .build [(.int .i64 0), (.str []), (.int .i64 0), (.int .i64 0), (.slc [])] [], none, none, [], none⟩,
  ⟨none, .store 5 (.t 6) (.t 57), none, none, [], none⟩]
def ac_model_Model_sectors_19 : AC := .reg l_model_Model_sectors_19
def ac_model_Model_sectors_20 : AC := .seq ac_model_Model_sectors_19 .ret
def ac_model_Model_sectors_21 : AC := .seq ac_model_Model_sectors_18 ac_model_Model_sectors_20
def ac_model_Model_sectors_22 : AC := .cond (.t 52) ac_model_Model_sectors_21 .skip
def ac_model_Model_sectors_23 : AC := .seq ac_model_Model_sectors_17 ac_model_Model_sectors_22
def ac_model_Model_sectors_24 : AC := .cond (.t 45) ac_model_Model_sectors_16 ac_model_Model_sectors_23
def ac_model_Model_sectors_25 : AC := .seq ac_model_Model_sectors_14 ac_model_Model_sectors_24
def ac_model_Model_sectors_26 : AC := .block 1 ac_model_Model_sectors_25
def ac_model_Model_sectors_27 : AC := .seq ac_model_Model_sectors_13 ac_model_Model_sectors_26
def l_model_Model_sectors_28 : List AOp := [⟨(some 58), .mv (.t 0), none, none, [], none⟩,
  ⟨(some 59), .mv (.t 1), none, none, [], none⟩,
  ⟨(some 60), .load (some 5) (.t 5), none, none, [], none⟩,
  ⟨(some 61), .load none (.t 7), none, none, [], none⟩,
  ⟨(some 62), .icall 54 [(.t 58), (.t 59), (.t 60), (.t 61)], none, none, [], none⟩,
  ⟨none, .store 5 (.t 6) (.t 62), none, none, [], none⟩]
def ac_model_Model_sectors_28 : AC := .reg l_model_Model_sectors_28
def ac_model_Model_sectors_29 : AC := .seq ac_model_Model_sectors_28 .ret
def ac_model_Model_sectors_30 : AC := .seq ac_model_Model_sectors_27 ac_model_Model_sectors_29
def ac_model_Model_sectors_31 : AC := .seq ac_model_Model_sectors_12 ac_model_Model_sectors_30
def ac_model_Model_sectors_32 : AC := .seq ac_model_Model_sectors_1 ac_model_Model_sectors_31
def ac_model_Model_sectors_33 : AC := .seq ac_model_Model_sectors_0 ac_model_Model_sectors_32
def ac_model_Model_sectors : AC := ac_model_Model_sectors_33
theorem comp_model_Model_sectors : compF Try.prog [1000052, 1000029, 1000054] (drawR Try.prog [1000052, 1000029, 1000054] Try.f31.ntmps) [] 3 Try.f31 = some (ac_model_Model_sectors, [.c 6 (some 5)]) := by kernel_rfl
def U_model_Model_sectors := (And.intro (And.intro (And.intro (And.intro (And.intro (And.intro @ac_model_Model_sectors.eq_1 (@mR _ _ ac_model_Model_sectors_0.eq_1)) (@mR _ _ ac_model_Model_sectors_1.eq_1)) (And.intro (And.intro (@mR _ _ ac_model_Model_sectors_2.eq_1) (@mR _ _ ac_model_Model_sectors_3.eq_1)) (@mU _ _ ac_model_Model_sectors_4.eq_1))) (And.intro (And.intro (And.intro (@mD _ _ _ ac_model_Model_sectors_5.eq_1) (@mR _ _ ac_model_Model_sectors_6.eq_1)) (@mU _ _ ac_model_Model_sectors_7.eq_1)) (And.intro (And.intro (@mU _ _ ac_model_Model_sectors_8.eq_1) (@mU _ _ ac_model_Model_sectors_9.eq_1)) (@mU _ _ ac_model_Model_sectors_10.eq_1)))) (And.intro (And.intro (And.intro (And.intro (@mU _ _ ac_model_Model_sectors_11.eq_1) (@mU _ _ ac_model_Model_sectors_12.eq_1)) (@mR _ _ ac_model_Model_sectors_13.eq_1)) (And.intro (And.intro (@mR _ _ ac_model_Model_sectors_14.eq_1) (@mR _ _ ac_model_Model_sectors_15.eq_1)) (@mU _ _ ac_model_Model_sectors_16.eq_1))) (And.intro (And.intro (And.intro (@mR _ _ ac_model_Model_sectors_17.eq_1) (@mR _ _ ac_model_Model_sectors_18.eq_1)) (@mR _ _ ac_model_Model_sectors_19.eq_1)) (And.intro (And.intro (@mU _ _ ac_model_Model_sectors_20.eq_1) (@mU _ _ ac_model_Model_sectors_21.eq_1)) (@mU _ _ ac_model_Model_sectors_22.eq_1))))) (And.intro (And.intro (And.intro (And.intro (And.intro (@mU _ _ ac_model_Model_sectors_23.eq_1) (@mU _ _ ac_model_Model_sectors_24.eq_1)) (@mU _ _ ac_model_Model_sectors_25.eq_1)) (And.intro (And.intro (@mU _ _ ac_model_Model_sectors_26.eq_1) (@mU _ _ ac_model_Model_sectors_27.eq_1)) (@mR _ _ ac_model_Model_sectors_28.eq_1))) (And.intro (And.intro (And.intro (@mU _ _ ac_model_Model_sectors_29.eq_1) (@mU _ _ ac_model_Model_sectors_30.eq_1)) (@mU _ _ ac_model_Model_sectors_31.eq_1)) (And.intro (And.intro (@mU _ _ ac_model_Model_sectors_32.eq_1) (@mU _ _ ac_model_Model_sectors_33.eq_1)) @l_model_Model_sectors_0.eq_1))) (And.intro (And.intro (And.intro (And.intro @l_model_Model_sectors_1.eq_1 @l_model_Model_sectors_2.eq_1) @l_model_Model_sectors_3.eq_1) (And.intro (And.intro @l_model_Model_sectors_5.eq_1 @l_model_Model_sectors_6.eq_1) @l_model_Model_sectors_13.eq_1)) (And.intro (And.intro (And.intro @l_model_Model_sectors_14.eq_1 @l_model_Model_sectors_15.eq_1) @l_model_Model_sectors_17.eq_1) (And.intro (And.intro @l_model_Model_sectors_18.eq_1 @l_model_Model_sectors_19.eq_1) @l_model_Model_sectors_28.eq_1)))))

/- maps.Clone[map[int]string,int,string] -/
def l_maps_Clone_string_0 : List AOp := [⟨(some 2), .mv (.k .nilm), none, none, [], none⟩]
def ac_maps_Clone_string_0 : AC := .reg l_maps_Clone_string_0
def l_maps_Clone_string_1 : List AOp := [⟨(some 3), .mv (.t 0), none, none, [], none⟩,
  ⟨(some 4), .isn .m false (.t 3), none, none, [], none⟩]
def ac_maps_Clone_string_1 : AC := .reg l_maps_Clone_string_1
def l_maps_Clone_string_2 : List AOp := [⟨(some 2), .mv (.k .nilm), none, none, [], none⟩]
def ac_maps_Clone_string_2 : AC := .reg l_maps_Clone_string_2
def ac_maps_Clone_string_3 : AC := .seq ac_maps_Clone_string_2 .ret
def ac_maps_Clone_string_4 : AC := .cond (.t 4) ac_maps_Clone_string_3 .skip
def ac_maps_Clone_string_5 : AC := .seq ac_maps_Clone_string_1 ac_maps_Clone_string_4
def l_maps_Clone_string_6 : List AOp := [⟨(some 5), .mv (.t 0), none, none, [], none⟩,
  ⟨(some 6), .fail, none, none, [], none⟩,
  ⟨(some 7), .fail, none, none, [], none⟩,
  ⟨(some 8), .fail, none, none, [], none⟩,
  ⟨(some 2), .mv (.t 8), none, none, [], none⟩]
def ac_maps_Clone_string_6 : AC := .reg l_maps_Clone_string_6
def ac_maps_Clone_string_7 : AC := .seq ac_maps_Clone_string_6 .ret
def ac_maps_Clone_string_8 : AC := .seq ac_maps_Clone_string_5 ac_maps_Clone_string_7
def ac_maps_Clone_string_9 : AC := .seq ac_maps_Clone_string_0 ac_maps_Clone_string_8
def ac_maps_Clone_string : AC := ac_maps_Clone_string_9
theorem comp_maps_Clone_string : compF Try.prog [] (drawR Try.prog [] Try.f42.ntmps) [] 1 Try.f42 = some (ac_maps_Clone_string, [.t 2]) := by kernel_rfl
def U_maps_Clone_string := (And.intro (And.intro (And.intro (And.intro @ac_maps_Clone_string.eq_1 (@mR _ _ ac_maps_Clone_string_0.eq_1)) (And.intro (@mR _ _ ac_maps_Clone_string_1.eq_1) (@mR _ _ ac_maps_Clone_string_2.eq_1))) (And.intro (And.intro (@mU _ _ ac_maps_Clone_string_3.eq_1) (@mU _ _ ac_maps_Clone_string_4.eq_1)) (And.intro (@mU _ _ ac_maps_Clone_string_5.eq_1) (@mR _ _ ac_maps_Clone_string_6.eq_1)))) (And.intro (And.intro (And.intro (@mU _ _ ac_maps_Clone_string_7.eq_1) (@mU _ _ ac_maps_Clone_string_8.eq_1)) (And.intro (@mU _ _ ac_maps_Clone_string_9.eq_1) @l_maps_Clone_string_0.eq_1)) (And.intro (And.intro @l_maps_Clone_string_1.eq_1 @l_maps_Clone_string_2.eq_1) @l_maps_Clone_string_6.eq_1)))

/- maps.Keys[map[int]*scoria/model.space,int,*scoria/model.space] -/
def l_maps_Keys_model_space_0 : List AOp := [⟨(some 1), .box (.t 0), none, none, [], none⟩,
  ⟨(some 2), .mv (.k .nilf), none, none, [], none⟩]
def ac_maps_Keys_model_space_0 : AC := .reg l_maps_Keys_model_space_0
def l_maps_Keys_model_space_1 : List AOp := [⟨(some 3), .mkfn (.func 68) [] [(.t 1)], none, none, [], none⟩,
  ⟨(some 2), .mv (.t 3), none, none, [], none⟩]
def ac_maps_Keys_model_space_1 : AC := .reg l_maps_Keys_model_space_1
def ac_maps_Keys_model_space_2 : AC := .seq ac_maps_Keys_model_space_1 .ret
def ac_maps_Keys_model_space_3 : AC := .seq ac_maps_Keys_model_space_0 ac_maps_Keys_model_space_2
def ac_maps_Keys_model_space : AC := ac_maps_Keys_model_space_3
theorem comp_maps_Keys_model_space : compF Try.prog [] (drawR Try.prog [] Try.f44.ntmps) [] 1 Try.f44 = some (ac_maps_Keys_model_space, [.t 2]) := by kernel_rfl
def U_maps_Keys_model_space := (And.intro (And.intro (And.intro @ac_maps_Keys_model_space.eq_1 (@mR _ _ ac_maps_Keys_model_space_0.eq_1)) (And.intro (@mR _ _ ac_maps_Keys_model_space_1.eq_1) (@mU _ _ ac_maps_Keys_model_space_2.eq_1))) (And.intro (And.intro (@mU _ _ ac_maps_Keys_model_space_3.eq_1) @l_maps_Keys_model_space_0.eq_1) @l_maps_Keys_model_space_1.eq_1))

/- maps.Keys[map[int]string,int,string] -/
def l_maps_Keys_string_0 : List AOp := [⟨(some 1), .box (.t 0), none, none, [], none⟩,
  ⟨(some 2), .mv (.k .nilf), none, none, [], none⟩]
def ac_maps_Keys_string_0 : AC := .reg l_maps_Keys_string_0
def l_maps_Keys_string_1 : List AOp := [⟨(some 3), .mkfn (.func 69) [] [(.t 1)], none, none, [], none⟩,
  ⟨(some 2), .mv (.t 3), none, none, [], none⟩]
def ac_maps_Keys_string_1 : AC := .reg l_maps_Keys_string_1
def ac_maps_Keys_string_2 : AC := .seq ac_maps_Keys_string_1 .ret
def ac_maps_Keys_string_3 : AC := .seq ac_maps_Keys_string_0 ac_maps_Keys_string_2
def ac_maps_Keys_string : AC := ac_maps_Keys_string_3
theorem comp_maps_Keys_string : compF Try.prog [] (drawR Try.prog [] Try.f45.ntmps) [] 1 Try.f45 = some (ac_maps_Keys_string, [.t 2]) := by kernel_rfl
def U_maps_Keys_string := (And.intro (And.intro (And.intro @ac_maps_Keys_string.eq_1 (@mR _ _ ac_maps_Keys_string_0.eq_1)) (And.intro (@mR _ _ ac_maps_Keys_string_1.eq_1) (@mU _ _ ac_maps_Keys_string_2.eq_1))) (And.intro (And.intro (@mU _ _ ac_maps_Keys_string_3.eq_1) @l_maps_Keys_string_0.eq_1) @l_maps_Keys_string_1.eq_1))

/- maps.EqualFunc[map[int]*scoria/model.space,map[int]*scoria/model.space,int,*scoria/model.space,*scoria/model.space] -/
def l_maps_EqualFunc_model_space_0 : List AOp := [⟨(some 6), .mv (.k (.bool false)), none, none, [], none⟩]
def ac_maps_EqualFunc_model_space_0 : AC := .reg l_maps_EqualFunc_model_space_0
def l_maps_EqualFunc_model_space_1 : List AOp := [⟨(some 11), .mv (.t 0), none, none, [], none⟩,
  ⟨(some 12), .mop .len [(.t 11)], none, none, [], none⟩,
  ⟨(some 13), .mv (.t 1), none, none, [], none⟩,
  ⟨(some 14), .mop .len [(.t 13)], none, none, [], none⟩,
  ⟨(some 15), .bin .neq (.t 12) (.t 14), none, none, [], none⟩]
def ac_maps_EqualFunc_model_space_1 : AC := .reg l_maps_EqualFunc_model_space_1
def l_maps_EqualFunc_model_space_2 : List AOp := [⟨(some 6), .mv (.k (.bool false)), none, none, [], none⟩]
def ac_maps_EqualFunc_model_space_2 : AC := .reg l_maps_EqualFunc_model_space_2
def ac_maps_EqualFunc_model_space_3 : AC := .seq ac_maps_EqualFunc_model_space_2 .ret
def ac_maps_EqualFunc_model_space_4 : AC := .cond (.t 15) ac_maps_EqualFunc_model_space_3 .skip
def ac_maps_EqualFunc_model_space_5 : AC := .seq ac_maps_EqualFunc_model_space_1 ac_maps_EqualFunc_model_space_4
def l_maps_EqualFunc_model_space_6 : List AOp := [⟨(some 16), .mv (.t 0), none, none, [], none⟩,
  ⟨(some 17), .mop .rng [(.t 16)], none, none, [], none⟩]
def ac_maps_EqualFunc_model_space_6 : AC := .reg l_maps_EqualFunc_model_space_6
def l_maps_EqualFunc_model_space_7 : List AOp := [⟨(some 18), .mop .nxt [(.t 17)], none, none, [], none⟩,
  ⟨(some 19), .ext 0 (.t 18), none, none, [], none⟩]
def ac_maps_EqualFunc_model_space_7 : AC := .reg l_maps_EqualFunc_model_space_7
def ac_maps_EqualFunc_model_space_8 : AC := .cond (.t 19) .skip (.exit 0)
def l_maps_EqualFunc_model_space_9 : List AOp := [⟨(some 20), .mop .ent [(.t 17)], none, none, [], none⟩,
  ⟨(some 21), .ext 0 (.t 20), none, none, [], none⟩,
  ⟨(some 22), .ext 1 (.t 20), none, none, [], none⟩,
  ⟨(some 7), .mv (.t 21), none, none, [], none⟩,
  ⟨(some 8), .mv (.t 22), none, none, [], none⟩]
def ac_maps_EqualFunc_model_space_9 : AC := .reg l_maps_EqualFunc_model_space_9
def l_maps_EqualFunc_model_space_10 : List AOp := [⟨(some 24), .mv (.t 1), none, none, [], none⟩,
  ⟨(some 25), .mv (.t 7), none, none, [], none⟩,
  ⟨(some 26), .mop (.get true .nilp) [(.t 24), (.t 25)], none, none, [], none⟩,
  ⟨(some 23), .mv (.t 26), none, none, [], none⟩,
  ⟨(some 27), .ext 0 (.t 23), none, none, [], none⟩,
  ⟨(some 28), .ext 1 (.t 23), none, none, [], none⟩,
  ⟨(some 9), .mv (.t 27), none, none, [], none⟩,
  ⟨(some 10), .mv (.t 28), none, none, [], none⟩]
def ac_maps_EqualFunc_model_space_10 : AC := .reg l_maps_EqualFunc_model_space_10
def l_maps_EqualFunc_model_space_11 : List AOp := [⟨(some 29), .mv (.t 10), none, none, [], none⟩,
  ⟨(some 30), .un .not (.t 29), none, none, [], none⟩,
  ⟨(some 31), .mv (.t 30), none, none, [], none⟩,
  ⟨(some 32), .mv (.t 2), (some (31, false)), none, [], none⟩,
  ⟨(some 33), .mv (.t 8), (some (31, false)), none, [], none⟩,
  ⟨(some 34), .mv (.t 9), (some (31, false)), none, [], none⟩,
  ⟨(some 35), .icallv (.t 32) [(.t 33), (.t 34)], (some (31, false)), none, [], none⟩,
  ⟨(some 36), .un .not (.t 35), (some (31, false)), none, [], none⟩,
  ⟨(some 37), .pick (.t 31) (.k (.bool true)) (.t 36), none, none, [], none⟩]
def ac_maps_EqualFunc_model_space_11 : AC := .reg l_maps_EqualFunc_model_space_11
def l_maps_EqualFunc_model_space_12 : List AOp := [⟨(some 6), .mv (.k (.bool false)), none, none, [], none⟩]
def ac_maps_EqualFunc_model_space_12 : AC := .reg l_maps_EqualFunc_model_space_12
def ac_maps_EqualFunc_model_space_13 : AC := .seq ac_maps_EqualFunc_model_space_12 .ret
def ac_maps_EqualFunc_model_space_14 : AC := .cond (.t 37) ac_maps_EqualFunc_model_space_13 .skip
def ac_maps_EqualFunc_model_space_15 : AC := .seq ac_maps_EqualFunc_model_space_11 ac_maps_EqualFunc_model_space_14
def ac_maps_EqualFunc_model_space_16 : AC := .seq ac_maps_EqualFunc_model_space_10 ac_maps_EqualFunc_model_space_15
def ac_maps_EqualFunc_model_space_17 : AC := .seq ac_maps_EqualFunc_model_space_9 ac_maps_EqualFunc_model_space_16
def ac_maps_EqualFunc_model_space_18 : AC := .block 1 ac_maps_EqualFunc_model_space_17
def ac_maps_EqualFunc_model_space_19 : AC := .seq ac_maps_EqualFunc_model_space_8 ac_maps_EqualFunc_model_space_18
def ac_maps_EqualFunc_model_space_20 : AC := .seq ac_maps_EqualFunc_model_space_7 ac_maps_EqualFunc_model_space_19
def ac_maps_EqualFunc_model_space_21 : AC := .loop [1, 2, 17] 1000000000 ac_maps_EqualFunc_model_space_20
def ac_maps_EqualFunc_model_space_22 : AC := .block 0 ac_maps_EqualFunc_model_space_21
def ac_maps_EqualFunc_model_space_23 : AC := .seq ac_maps_EqualFunc_model_space_6 ac_maps_EqualFunc_model_space_22
def l_maps_EqualFunc_model_space_24 : List AOp := [⟨(some 6), .mv (.k (.bool true)), none, none, [], none⟩]
def ac_maps_EqualFunc_model_space_24 : AC := .reg l_maps_EqualFunc_model_space_24
def ac_maps_EqualFunc_model_space_25 : AC := .seq ac_maps_EqualFunc_model_space_24 .ret
def ac_maps_EqualFunc_model_space_26 : AC := .seq ac_maps_EqualFunc_model_space_23 ac_maps_EqualFunc_model_space_25
def ac_maps_EqualFunc_model_space_27 : AC := .seq ac_maps_EqualFunc_model_space_5 ac_maps_EqualFunc_model_space_26
def ac_maps_EqualFunc_model_space_28 : AC := .seq ac_maps_EqualFunc_model_space_0 ac_maps_EqualFunc_model_space_27
def ac_maps_EqualFunc_model_space : AC := ac_maps_EqualFunc_model_space_28
theorem comp_maps_EqualFunc_model_space : compF Try.prog [2000000] (drawR Try.prog [2000000] Try.f46.ntmps) [([1, 2, 17], 1000000000)] 3 Try.f46 = some (ac_maps_EqualFunc_model_space, [.t 6]) := by kernel_rfl
def U_maps_EqualFunc_model_space := (And.intro (And.intro (And.intro (And.intro (And.intro (And.intro @ac_maps_EqualFunc_model_space.eq_1 (@mR _ _ ac_maps_EqualFunc_model_space_0.eq_1)) (@mR _ _ ac_maps_EqualFunc_model_space_1.eq_1)) (And.intro (@mR _ _ ac_maps_EqualFunc_model_space_2.eq_1) (@mU _ _ ac_maps_EqualFunc_model_space_3.eq_1))) (And.intro (And.intro (And.intro (@mU _ _ ac_maps_EqualFunc_model_space_4.eq_1) (@mU _ _ ac_maps_EqualFunc_model_space_5.eq_1)) (@mR _ _ ac_maps_EqualFunc_model_space_6.eq_1)) (And.intro (@mR _ _ ac_maps_EqualFunc_model_space_7.eq_1) (@mU _ _ ac_maps_EqualFunc_model_space_8.eq_1)))) (And.intro (And.intro (And.intro (And.intro (@mR _ _ ac_maps_EqualFunc_model_space_9.eq_1) (@mR _ _ ac_maps_EqualFunc_model_space_10.eq_1)) (@mR _ _ ac_maps_EqualFunc_model_space_11.eq_1)) (And.intro (@mR _ _ ac_maps_EqualFunc_model_space_12.eq_1) (@mU _ _ ac_maps_EqualFunc_model_space_13.eq_1))) (And.intro (And.intro (And.intro (@mU _ _ ac_maps_EqualFunc_model_space_14.eq_1) (@mU _ _ ac_maps_EqualFunc_model_space_15.eq_1)) (@mU _ _ ac_maps_EqualFunc_model_space_16.eq_1)) (And.intro (@mU _ _ ac_maps_EqualFunc_model_space_17.eq_1) (@mU _ _ ac_maps_EqualFunc_model_space_18.eq_1))))) (And.intro (And.intro (And.intro (And.intro (And.intro (@mU _ _ ac_maps_EqualFunc_model_space_19.eq_1) (@mU _ _ ac_maps_EqualFunc_model_space_20.eq_1)) (@mU _ _ ac_maps_EqualFunc_model_space_21.eq_1)) (And.intro (@mU _ _ ac_maps_EqualFunc_model_space_22.eq_1) (@mU _ _ ac_maps_EqualFunc_model_space_23.eq_1))) (And.intro (And.intro (And.intro (@mR _ _ ac_maps_EqualFunc_model_space_24.eq_1) (@mU _ _ ac_maps_EqualFunc_model_space_25.eq_1)) (@mU _ _ ac_maps_EqualFunc_model_space_26.eq_1)) (And.intro (@mU _ _ ac_maps_EqualFunc_model_space_27.eq_1) (@mU _ _ ac_maps_EqualFunc_model_space_28.eq_1)))) (And.intro (And.intro (And.intro (And.intro @l_maps_EqualFunc_model_space_0.eq_1 @l_maps_EqualFunc_model_space_1.eq_1) @l_maps_EqualFunc_model_space_2.eq_1) (And.intro @l_maps_EqualFunc_model_space_6.eq_1 @l_maps_EqualFunc_model_space_7.eq_1)) (And.intro (And.intro (And.intro @l_maps_EqualFunc_model_space_9.eq_1 @l_maps_EqualFunc_model_space_10.eq_1) @l_maps_EqualFunc_model_space_11.eq_1) (And.intro @l_maps_EqualFunc_model_space_12.eq_1 @l_maps_EqualFunc_model_space_24.eq_1)))))

/- (*scoria/model.Model).Same$1 -/
def l_model_Model_Same_c1_0 : List AOp := [⟨(some 4), .mv (.k (.bool false)), none, none, [], none⟩]
def ac_model_Model_Same_c1_0 : AC := .reg l_model_Model_Same_c1_0
def l_model_Model_Same_c1_1 : List AOp := [⟨(some 5), .mv (.t 0), none, none, [], none⟩,
  ⟨(some 6), .nilck (.t 5), none, none, [], none⟩,
  ⟨(some 7), .faddr 0 (.t 6), none, none, [], none⟩,
  ⟨(some 8), .load none (.t 7), none, none, [], none⟩,
  ⟨(some 9), .mv (.t 1), none, none, [], none⟩,
  ⟨(some 10), .nilck (.t 9), none, none, [], none⟩,
  ⟨(some 11), .faddr 0 (.t 10), none, none, [], none⟩,
  ⟨(some 12), .load none (.t 11), none, none, [], none⟩,
  ⟨(some 13), .bin .eql (.t 8) (.t 12), none, none, [], none⟩,
  ⟨(some 14), .mv (.t 13), none, none, [], none⟩,
  ⟨(some 15), .mv (.t 0), (some (14, true)), none, [], none⟩,
  ⟨(some 16), .nilck (.t 15), (some (14, true)), none, [], none⟩,
  ⟨(some 17), .faddr 1 (.t 16), (some (14, true)), none, [], none⟩,
  ⟨(some 18), .load none (.t 17), (some (14, true)), none, [], none⟩,
  ⟨(some 19), .mv (.t 1), (some (14, true)), none, [], none⟩,
  ⟨(some 20), .nilck (.t 19), (some (14, true)), none, [], none⟩,
  ⟨(some 21), .faddr 1 (.t 20), (some (14, true)), none, [], none⟩,
  ⟨(some 22), .load none (.t 21), (some (14, true)), none, [], none⟩,
  ⟨(some 23), .icall 48 [(.t 18), (.t 22)], (some (14, true)), none, [], none⟩,
  ⟨(some 24), .pick (.t 14) (.t 23) (.k (.bool false)), none, none, [], none⟩,
  ⟨(some 4), .mv (.t 24), none, none, [], none⟩]
def ac_model_Model_Same_c1_1 : AC := .dreg 0 l_model_Model_Same_c1_1
def ac_model_Model_Same_c1_2 : AC := .seq ac_model_Model_Same_c1_1 .ret
def ac_model_Model_Same_c1_3 : AC := .seq ac_model_Model_Same_c1_0 ac_model_Model_Same_c1_2
def ac_model_Model_Same_c1 : AC := ac_model_Model_Same_c1_3
theorem comp_model_Model_Same_c1 : compF Try.prog [1000048] (drawR Try.prog [1000048] Try.f47.ntmps) [] 2 Try.f47 = some (ac_model_Model_Same_c1, [.t 4]) := by kernel_rfl
def U_model_Model_Same_c1 := (And.intro (And.intro (And.intro @ac_model_Model_Same_c1.eq_1 (@mR _ _ ac_model_Model_Same_c1_0.eq_1)) (And.intro (@mD _ _ _ ac_model_Model_Same_c1_1.eq_1) (@mU _ _ ac_model_Model_Same_c1_2.eq_1))) (And.intro (And.intro (@mU _ _ ac_model_Model_Same_c1_3.eq_1) @l_model_Model_Same_c1_0.eq_1) @l_model_Model_Same_c1_1.eq_1))

/- maps.Equal[map[int]string,map[int]string,int,string] -/
def l_maps_Equal_string_0 : List AOp := [⟨(some 4), .mv (.k (.bool false)), none, none, [], none⟩]
def ac_maps_Equal_string_0 : AC := .reg l_maps_Equal_string_0
def l_maps_Equal_string_1 : List AOp := [⟨(some 9), .mv (.t 0), none, none, [], none⟩,
  ⟨(some 10), .mop .len [(.t 9)], none, none, [], none⟩,
  ⟨(some 11), .mv (.t 1), none, none, [], none⟩,
  ⟨(some 12), .mop .len [(.t 11)], none, none, [], none⟩,
  ⟨(some 13), .bin .neq (.t 10) (.t 12), none, none, [], none⟩]
def ac_maps_Equal_string_1 : AC := .reg l_maps_Equal_string_1
def l_maps_Equal_string_2 : List AOp := [⟨(some 4), .mv (.k (.bool false)), none, none, [], none⟩]
def ac_maps_Equal_string_2 : AC := .reg l_maps_Equal_string_2
def ac_maps_Equal_string_3 : AC := .seq ac_maps_Equal_string_2 .ret
def ac_maps_Equal_string_4 : AC := .cond (.t 13) ac_maps_Equal_string_3 .skip
def ac_maps_Equal_string_5 : AC := .seq ac_maps_Equal_string_1 ac_maps_Equal_string_4
def l_maps_Equal_string_6 : List AOp := [⟨(some 14), .mv (.t 0), none, none, [], none⟩,
  ⟨(some 15), .mop .rng [(.t 14)], none, none, [], none⟩]
def ac_maps_Equal_string_6 : AC := .reg l_maps_Equal_string_6
def l_maps_Equal_string_7 : List AOp := [⟨(some 16), .mop .nxt [(.t 15)], none, none, [], none⟩,
  ⟨(some 17), .ext 0 (.t 16), none, none, [], none⟩]
def ac_maps_Equal_string_7 : AC := .reg l_maps_Equal_string_7
def ac_maps_Equal_string_8 : AC := .cond (.t 17) .skip (.exit 0)
def l_maps_Equal_string_9 : List AOp := [⟨(some 18), .mop .ent [(.t 15)], none, none, [], none⟩,
  ⟨(some 19), .ext 0 (.t 18), none, none, [], none⟩,
  ⟨(some 20), .ext 1 (.t 18), none, none, [], none⟩,
  ⟨(some 5), .mv (.t 19), none, none, [], none⟩,
  ⟨(some 6), .mv (.t 20), none, none, [], none⟩]
def ac_maps_Equal_string_9 : AC := .reg l_maps_Equal_string_9
def l_maps_Equal_string_10 : List AOp := [⟨(some 22), .mv (.t 1), none, none, [], none⟩,
  ⟨(some 23), .mv (.t 5), none, none, [], none⟩,
  ⟨(some 24), .mop (.get true (.str [])) [(.t 22), (.t 23)], none, none, [], none⟩,
  ⟨(some 21), .mv (.t 24), none, none, [], none⟩,
  ⟨(some 25), .ext 0 (.t 21), none, none, [], none⟩,
  ⟨(some 26), .ext 1 (.t 21), none, none, [], none⟩,
  ⟨(some 7), .mv (.t 25), none, none, [], none⟩,
  ⟨(some 8), .mv (.t 26), none, none, [], none⟩]
def ac_maps_Equal_string_10 : AC := .reg l_maps_Equal_string_10
def l_maps_Equal_string_11 : List AOp := [⟨(some 27), .mv (.t 8), none, none, [], none⟩,
  ⟨(some 28), .un .not (.t 27), none, none, [], none⟩,
  ⟨(some 29), .mv (.t 28), none, none, [], none⟩,
  ⟨(some 30), .mv (.t 6), (some (29, false)), none, [], none⟩,
  ⟨(some 31), .mv (.t 7), (some (29, false)), none, [], none⟩,
  ⟨(some 32), .bin .neq (.t 30) (.t 31), (some (29, false)), none, [], none⟩,
  ⟨(some 33), .pick (.t 29) (.k (.bool true)) (.t 32), none, none, [], none⟩]
def ac_maps_Equal_string_11 : AC := .reg l_maps_Equal_string_11
def l_maps_Equal_string_12 : List AOp := [⟨(some 4), .mv (.k (.bool false)), none, none, [], none⟩]
def ac_maps_Equal_string_12 : AC := .reg l_maps_Equal_string_12
def ac_maps_Equal_string_13 : AC := .seq ac_maps_Equal_string_12 .ret
def ac_maps_Equal_string_14 : AC := .cond (.t 33) ac_maps_Equal_string_13 .skip
def ac_maps_Equal_string_15 : AC := .seq ac_maps_Equal_string_11 ac_maps_Equal_string_14
def ac_maps_Equal_string_16 : AC := .seq ac_maps_Equal_string_10 ac_maps_Equal_string_15
def ac_maps_Equal_string_17 : AC := .seq ac_maps_Equal_string_9 ac_maps_Equal_string_16
def ac_maps_Equal_string_18 : AC := .block 1 ac_maps_Equal_string_17
def ac_maps_Equal_string_19 : AC := .seq ac_maps_Equal_string_8 ac_maps_Equal_string_18
def ac_maps_Equal_string_20 : AC := .seq ac_maps_Equal_string_7 ac_maps_Equal_string_19
def ac_maps_Equal_string_21 : AC := .loop [1, 15] 1000000000 ac_maps_Equal_string_20
def ac_maps_Equal_string_22 : AC := .block 0 ac_maps_Equal_string_21
def ac_maps_Equal_string_23 : AC := .seq ac_maps_Equal_string_6 ac_maps_Equal_string_22
def l_maps_Equal_string_24 : List AOp := [⟨(some 4), .mv (.k (.bool true)), none, none, [], none⟩]
def ac_maps_Equal_string_24 : AC := .reg l_maps_Equal_string_24
def ac_maps_Equal_string_25 : AC := .seq ac_maps_Equal_string_24 .ret
def ac_maps_Equal_string_26 : AC := .seq ac_maps_Equal_string_23 ac_maps_Equal_string_25
def ac_maps_Equal_string_27 : AC := .seq ac_maps_Equal_string_5 ac_maps_Equal_string_26
def ac_maps_Equal_string_28 : AC := .seq ac_maps_Equal_string_0 ac_maps_Equal_string_27
def ac_maps_Equal_string : AC := ac_maps_Equal_string_28
theorem comp_maps_Equal_string : compF Try.prog [] (drawR Try.prog [] Try.f48.ntmps) [([1, 15], 1000000000)] 2 Try.f48 = some (ac_maps_Equal_string, [.t 4]) := by kernel_rfl
def U_maps_Equal_string := (And.intro (And.intro (And.intro (And.intro (And.intro (And.intro @ac_maps_Equal_string.eq_1 (@mR _ _ ac_maps_Equal_string_0.eq_1)) (@mR _ _ ac_maps_Equal_string_1.eq_1)) (And.intro (@mR _ _ ac_maps_Equal_string_2.eq_1) (@mU _ _ ac_maps_Equal_string_3.eq_1))) (And.intro (And.intro (And.intro (@mU _ _ ac_maps_Equal_string_4.eq_1) (@mU _ _ ac_maps_Equal_string_5.eq_1)) (@mR _ _ ac_maps_Equal_string_6.eq_1)) (And.intro (@mR _ _ ac_maps_Equal_string_7.eq_1) (@mU _ _ ac_maps_Equal_string_8.eq_1)))) (And.intro (And.intro (And.intro (And.intro (@mR _ _ ac_maps_Equal_string_9.eq_1) (@mR _ _ ac_maps_Equal_string_10.eq_1)) (@mR _ _ ac_maps_Equal_string_11.eq_1)) (And.intro (@mR _ _ ac_maps_Equal_string_12.eq_1) (@mU _ _ ac_maps_Equal_string_13.eq_1))) (And.intro (And.intro (And.intro (@mU _ _ ac_maps_Equal_string_14.eq_1) (@mU _ _ ac_maps_Equal_string_15.eq_1)) (@mU _ _ ac_maps_Equal_string_16.eq_1)) (And.intro (@mU _ _ ac_maps_Equal_string_17.eq_1) (@mU _ _ ac_maps_Equal_string_18.eq_1))))) (And.intro (And.intro (And.intro (And.intro (And.intro (@mU _ _ ac_maps_Equal_string_19.eq_1) (@mU _ _ ac_maps_Equal_string_20.eq_1)) (@mU _ _ ac_maps_Equal_string_21.eq_1)) (And.intro (@mU _ _ ac_maps_Equal_string_22.eq_1) (@mU _ _ ac_maps_Equal_string_23.eq_1))) (And.intro (And.intro (And.intro (@mR _ _ ac_maps_Equal_string_24.eq_1) (@mU _ _ ac_maps_Equal_string_25.eq_1)) (@mU _ _ ac_maps_Equal_string_26.eq_1)) (And.intro (@mU _ _ ac_maps_Equal_string_27.eq_1) (@mU _ _ ac_maps_Equal_string_28.eq_1)))) (And.intro (And.intro (And.intro (And.intro @l_maps_Equal_string_0.eq_1 @l_maps_Equal_string_1.eq_1) @l_maps_Equal_string_2.eq_1) (And.intro @l_maps_Equal_string_6.eq_1 @l_maps_Equal_string_7.eq_1)) (And.intro (And.intro (And.intro @l_maps_Equal_string_9.eq_1 @l_maps_Equal_string_10.eq_1) @l_maps_Equal_string_11.eq_1) (And.intro @l_maps_Equal_string_12.eq_1 @l_maps_Equal_string_24.eq_1)))))

/- maps.DeleteFunc[map[int]string,int,string] -/
def l_maps_DeleteFunc_string_0 : List AOp := [⟨(some 6), .mv (.t 0), none, none, [], none⟩,
  ⟨(some 7), .mop .rng [(.t 6)], none, none, [], none⟩]
def ac_maps_DeleteFunc_string_0 : AC := .reg l_maps_DeleteFunc_string_0
def l_maps_DeleteFunc_string_1 : List AOp := [⟨(some 8), .mop .nxt [(.t 7)], none, none, [], none⟩,
  ⟨(some 9), .ext 0 (.t 8), none, none, [], none⟩]
def ac_maps_DeleteFunc_string_1 : AC := .reg l_maps_DeleteFunc_string_1
def ac_maps_DeleteFunc_string_2 : AC := .cond (.t 9) .skip (.exit 0)
def l_maps_DeleteFunc_string_3 : List AOp := [⟨(some 10), .mop .ent [(.t 7)], none, none, [], none⟩,
  ⟨(some 11), .ext 0 (.t 10), none, none, [], none⟩,
  ⟨(some 12), .ext 1 (.t 10), none, none, [], none⟩,
  ⟨(some 4), .mv (.t 11), none, none, [], none⟩,
  ⟨(some 5), .mv (.t 12), none, none, [], none⟩]
def ac_maps_DeleteFunc_string_3 : AC := .reg l_maps_DeleteFunc_string_3
def l_maps_DeleteFunc_string_4 : List AOp := [⟨(some 13), .mv (.t 1), none, none, [], none⟩,
  ⟨(some 14), .mv (.t 4), none, none, [], none⟩,
  ⟨(some 15), .mv (.t 5), none, none, [], none⟩,
  ⟨(some 16), .icallv (.t 13) [(.t 14), (.t 15)], none, none, [], none⟩]
def ac_maps_DeleteFunc_string_4 : AC := .reg l_maps_DeleteFunc_string_4
def l_maps_DeleteFunc_string_5 : List AOp := [⟨(some 17), .mv (.t 0), none, none, [], none⟩,
  ⟨(some 18), .mv (.t 4), none, none, [], none⟩,
  ⟨none, .mop .del [(.t 17), (.t 18)], none, none, [], none⟩]
def ac_maps_DeleteFunc_string_5 : AC := .reg l_maps_DeleteFunc_string_5
def ac_maps_DeleteFunc_string_6 : AC := .cond (.t 16) ac_maps_DeleteFunc_string_5 .skip
def ac_maps_DeleteFunc_string_7 : AC := .seq ac_maps_DeleteFunc_string_4 ac_maps_DeleteFunc_string_6
def ac_maps_DeleteFunc_string_8 : AC := .seq ac_maps_DeleteFunc_string_3 ac_maps_DeleteFunc_string_7
def ac_maps_DeleteFunc_string_9 : AC := .block 1 ac_maps_DeleteFunc_string_8
def ac_maps_DeleteFunc_string_10 : AC := .seq ac_maps_DeleteFunc_string_2 ac_maps_DeleteFunc_string_9
def ac_maps_DeleteFunc_string_11 : AC := .seq ac_maps_DeleteFunc_string_1 ac_maps_DeleteFunc_string_10
def ac_maps_DeleteFunc_string_12 : AC := .loop [0, 1, 7] 1000000000 ac_maps_DeleteFunc_string_11
def ac_maps_DeleteFunc_string_13 : AC := .block 0 ac_maps_DeleteFunc_string_12
def ac_maps_DeleteFunc_string_14 : AC := .seq ac_maps_DeleteFunc_string_0 ac_maps_DeleteFunc_string_13
def ac_maps_DeleteFunc_string : AC := ac_maps_DeleteFunc_string_14
theorem comp_maps_DeleteFunc_string : compF Try.prog [2000000] (drawR Try.prog [2000000] Try.f49.ntmps) [([0, 1, 7], 1000000000)] 2 Try.f49 = some (ac_maps_DeleteFunc_string, []) := by kernel_rfl
def U_maps_DeleteFunc_string := (And.intro (And.intro (And.intro (And.intro (And.intro @ac_maps_DeleteFunc_string.eq_1 (@mR _ _ ac_maps_DeleteFunc_string_0.eq_1)) (@mR _ _ ac_maps_DeleteFunc_string_1.eq_1)) (And.intro (And.intro (@mU _ _ ac_maps_DeleteFunc_string_2.eq_1) (@mR _ _ ac_maps_DeleteFunc_string_3.eq_1)) (@mR _ _ ac_maps_DeleteFunc_string_4.eq_1))) (And.intro (And.intro (And.intro (@mR _ _ ac_maps_DeleteFunc_string_5.eq_1) (@mU _ _ ac_maps_DeleteFunc_string_6.eq_1)) (@mU _ _ ac_maps_DeleteFunc_string_7.eq_1)) (And.intro (@mU _ _ ac_maps_DeleteFunc_string_8.eq_1) (@mU _ _ ac_maps_DeleteFunc_string_9.eq_1)))) (And.intro (And.intro (And.intro (And.intro (@mU _ _ ac_maps_DeleteFunc_string_10.eq_1) (@mU _ _ ac_maps_DeleteFunc_string_11.eq_1)) (@mU _ _ ac_maps_DeleteFunc_string_12.eq_1)) (And.intro (@mU _ _ ac_maps_DeleteFunc_string_13.eq_1) (@mU _ _ ac_maps_DeleteFunc_string_14.eq_1))) (And.intro (And.intro (And.intro @l_maps_DeleteFunc_string_0.eq_1 @l_maps_DeleteFunc_string_1.eq_1) @l_maps_DeleteFunc_string_3.eq_1) (And.intro @l_maps_DeleteFunc_string_4.eq_1 @l_maps_DeleteFunc_string_5.eq_1))))

/- (*scoria/model.space).cut$1 -/
def l_model_space_cut_c1_0 : List AOp := [⟨(some 5), .mv (.k (.bool false)), none, none, [], none⟩]
def ac_model_space_cut_c1_0 : AC := .reg l_model_space_cut_c1_0
def l_model_space_cut_c1_1 : List AOp := [⟨(some 6), .load none (.t 2), none, none, [], none⟩,
  ⟨(some 7), .mv (.t 0), none, none, [], none⟩,
  ⟨(some 8), .icallv (.t 6) [(.t 7)], none, none, [], none⟩,
  ⟨(some 5), .mv (.t 8), none, none, [], none⟩]
def ac_model_space_cut_c1_1 : AC := .reg l_model_space_cut_c1_1
def ac_model_space_cut_c1_2 : AC := .seq ac_model_space_cut_c1_1 .ret
def ac_model_space_cut_c1_3 : AC := .seq ac_model_space_cut_c1_0 ac_model_space_cut_c1_2
def ac_model_space_cut_c1 : AC := ac_model_space_cut_c1_3
theorem comp_model_space_cut_c1 : compF Try.prog [2000000] (drawR Try.prog [2000000] Try.f50.ntmps) [] 3 Try.f50 = some (ac_model_space_cut_c1, [.t 5]) := by kernel_rfl
def U_model_space_cut_c1 := (And.intro (And.intro (And.intro @ac_model_space_cut_c1.eq_1 (@mR _ _ ac_model_space_cut_c1_0.eq_1)) (And.intro (@mR _ _ ac_model_space_cut_c1_1.eq_1) (@mU _ _ ac_model_space_cut_c1_2.eq_1))) (And.intro (And.intro (@mU _ _ ac_model_space_cut_c1_3.eq_1) @l_model_space_cut_c1_0.eq_1) @l_model_space_cut_c1_1.eq_1))

/- scoria/model.whole -/
def l_model_whole_0 : List AOp := [⟨(some 1), .box (.t 0), none, none, [], none⟩,
  ⟨(some 2), .mv (.k (.int .i64 0)), none, none, [], none⟩,
  ⟨(some 3), .mv (.k (.bool false)), none, none, [], none⟩]
def ac_model_whole_0 : AC := .reg l_model_whole_0
def l_model_whole_1 : List AOp := [⟨(some 5), .faddr 3 (.t 1), none, none, [], none⟩,
  ⟨(some 6), .load none (.t 5), none, none, [], none⟩,
  ⟨(some 4), .mv (.t 6), none, none, [], none⟩]
def ac_model_whole_1 : AC := .reg l_model_whole_1
def l_model_whole_2 : List AOp := [⟨(some 7), .faddr 0 (.t 1), none, none, [], none⟩,
  ⟨(some 8), .load none (.t 7), none, none, [], none⟩]
def ac_model_whole_2 : AC := .reg l_model_whole_2
def l_model_whole_3 : List AOp := [⟨(some 10), .bin .eql (.t 8) (.k (.int .i64 4)), none, none, [], none⟩,
  ⟨(some 9), .mv (.t 10), none, none, [], none⟩]
def ac_model_whole_3 : AC := .reg l_model_whole_3
def l_model_whole_4 : List AOp := [⟨(some 11), .faddr 4 (.t 1), none, none, [], none⟩,
  ⟨(some 12), .load none (.t 11), none, none, [], none⟩,
  ⟨(some 13), .lens (.t 12), none, none, [], none⟩,
  ⟨(some 14), .bin .quo (.t 13) (.k (.int .i64 32)), none, none, [], none⟩,
  ⟨(some 4), .mv (.t 14), none, none, [], none⟩]
def ac_model_whole_4 : AC := .reg l_model_whole_4
def l_model_whole_5 : List AOp := [⟨(some 15), .mv (.t 4), none, none, [], none⟩,
  ⟨(some 16), .mv (.t 4), none, none, [], none⟩,
  ⟨(some 17), .bin .geq (.t 16) (.k (.int .i64 1)), none, none, [], none⟩,
  ⟨(some 18), .mv (.t 17), none, none, [], none⟩,
  ⟨(some 19), .mv (.t 4), (some (18, true)), none, [], none⟩,
  ⟨(some 20), .bin .leq (.t 19) (.k (.int .i64 8)), (some (18, true)), none, [], none⟩,
  ⟨(some 21), .pick (.t 18) (.t 20) (.k (.bool false)), none, none, [], none⟩,
  ⟨(some 22), .mv (.t 21), none, none, [], none⟩,
  ⟨(some 23), .faddr 4 (.t 1), (some (22, true)), none, [], none⟩,
  ⟨(some 24), .load none (.t 23), (some (22, true)), none, [], none⟩,
  ⟨(some 25), .lens (.t 24), (some (22, true)), none, [], none⟩,
  ⟨(some 26), .bin .rem (.t 25) (.k (.int .i64 32)), (some (22, true)), none, [], none⟩,
  ⟨(some 27), .bin .eql (.t 26) (.k (.int .i64 0)), (some (22, true)), none, [], none⟩,
  ⟨(some 28), .pick (.t 22) (.t 27) (.k (.bool false)), none, none, [], none⟩,
  ⟨(some 2), .mv (.t 15), none, none, [], none⟩,
  ⟨(some 3), .mv (.t 28), none, none, [], none⟩]
def ac_model_whole_5 : AC := .dreg 0 l_model_whole_5
def ac_model_whole_6 : AC := .seq ac_model_whole_5 .ret
def ac_model_whole_7 : AC := .seq ac_model_whole_4 ac_model_whole_6
def l_model_whole_8 : List AOp := [⟨(some 30), .bin .eql (.t 8) (.k (.int .i64 7)), none, none, [], none⟩,
  ⟨(some 29), .mv (.t 30), none, none, [], none⟩]
def ac_model_whole_8 : AC := .reg l_model_whole_8
def l_model_whole_9 : List AOp := [⟨(some 31), .mv (.t 4), none, none, [], none⟩,
  ⟨(some 32), .mv (.t 4), none, none, [], none⟩,
  ⟨(some 33), .bin .geq (.t 32) (.k (.int .i64 1)), none, none, [], none⟩,
  ⟨(some 34), .mv (.t 33), none, none, [], none⟩,
  ⟨(some 35), .mv (.t 4), (some (34, true)), none, [], none⟩,
  ⟨(some 36), .bin .leq (.t 35) (.k (.int .i64 8)), (some (34, true)), none, [], none⟩,
  ⟨(some 37), .pick (.t 34) (.t 36) (.k (.bool false)), none, none, [], none⟩,
  ⟨(some 2), .mv (.t 31), none, none, [], none⟩,
  ⟨(some 3), .mv (.t 37), none, none, [], none⟩]
def ac_model_whole_9 : AC := .reg l_model_whole_9
def ac_model_whole_10 : AC := .seq ac_model_whole_9 .ret
def ac_model_whole_11 : AC := .cond (.t 29) ac_model_whole_10 .skip
def ac_model_whole_12 : AC := .seq ac_model_whole_8 ac_model_whole_11
def ac_model_whole_13 : AC := .cond (.t 9) ac_model_whole_7 ac_model_whole_12
def ac_model_whole_14 : AC := .seq ac_model_whole_3 ac_model_whole_13
def ac_model_whole_15 : AC := .block 0 ac_model_whole_14
def ac_model_whole_16 : AC := .seq ac_model_whole_2 ac_model_whole_15
def l_model_whole_17 : List AOp := [⟨(some 38), .mv (.t 4), none, none, [], none⟩,
  ⟨(some 39), .mv (.t 4), none, none, [], none⟩,
  ⟨(some 40), .bin .geq (.t 39) (.k (.int .i64 1)), none, none, [], none⟩,
  ⟨(some 2), .mv (.t 38), none, none, [], none⟩,
  ⟨(some 3), .mv (.t 40), none, none, [], none⟩]
def ac_model_whole_17 : AC := .reg l_model_whole_17
def ac_model_whole_18 : AC := .seq ac_model_whole_17 .ret
def ac_model_whole_19 : AC := .seq ac_model_whole_16 ac_model_whole_18
def ac_model_whole_20 : AC := .seq ac_model_whole_1 ac_model_whole_19
def ac_model_whole_21 : AC := .seq ac_model_whole_0 ac_model_whole_20
def ac_model_whole : AC := ac_model_whole_21
theorem comp_model_whole : compF Try.prog [] (drawR Try.prog [] Try.f51.ntmps) [] 1 Try.f51 = some (ac_model_whole, [.t 2, .t 3]) := by kernel_rfl
def U_model_whole := (And.intro (And.intro (And.intro (And.intro (And.intro @ac_model_whole.eq_1 (@mR _ _ ac_model_whole_0.eq_1)) (And.intro (@mR _ _ ac_model_whole_1.eq_1) (@mR _ _ ac_model_whole_2.eq_1))) (And.intro (And.intro (@mR _ _ ac_model_whole_3.eq_1) (@mR _ _ ac_model_whole_4.eq_1)) (And.intro (@mD _ _ _ ac_model_whole_5.eq_1) (@mU _ _ ac_model_whole_6.eq_1)))) (And.intro (And.intro (And.intro (@mU _ _ ac_model_whole_7.eq_1) (@mR _ _ ac_model_whole_8.eq_1)) (And.intro (@mR _ _ ac_model_whole_9.eq_1) (@mU _ _ ac_model_whole_10.eq_1))) (And.intro (And.intro (@mU _ _ ac_model_whole_11.eq_1) (@mU _ _ ac_model_whole_12.eq_1)) (And.intro (@mU _ _ ac_model_whole_13.eq_1) (@mU _ _ ac_model_whole_14.eq_1))))) (And.intro (And.intro (And.intro (And.intro (@mU _ _ ac_model_whole_15.eq_1) (@mU _ _ ac_model_whole_16.eq_1)) (And.intro (@mR _ _ ac_model_whole_17.eq_1) (@mU _ _ ac_model_whole_18.eq_1))) (And.intro (And.intro (@mU _ _ ac_model_whole_19.eq_1) (@mU _ _ ac_model_whole_20.eq_1)) (And.intro (@mU _ _ ac_model_whole_21.eq_1) @l_model_whole_0.eq_1))) (And.intro (And.intro (And.intro @l_model_whole_1.eq_1 @l_model_whole_2.eq_1) (And.intro @l_model_whole_3.eq_1 @l_model_whole_4.eq_1)) (And.intro (And.intro @l_model_whole_5.eq_1 @l_model_whole_8.eq_1) (And.intro @l_model_whole_9.eq_1 @l_model_whole_17.eq_1)))))

/- (*scoria/model.space).read -/
def l_model_space_read_0 : List AOp := [⟨(some 6), .alloc [(.int .i64 0), (.str []), (.int .i64 0), (.int .i64 0), (.slc [])], none, none, [], none⟩]
def ac_model_space_read_0 : AC := .reg l_model_space_read_0
def l_model_space_read_1 : List AOp := [⟨(some 7), .balloc 117 5, none, none, [], none⟩]
def ac_model_space_read_1 : AC := .reg l_model_space_read_1
def l_model_space_read_2 : List AOp := [⟨(some 11), .mv (.t 2), none, none, [], none⟩,
  ⟨(some 12), .mv (.k (.int .i64 0)), none, none, [], none⟩]
def ac_model_space_read_2 : AC := .reg l_model_space_read_2
def l_model_space_read_3 : List AOp := [⟨(some 13), .bin .lss (.t 12) (.t 11), none, none, [], none⟩]
def ac_model_space_read_3 : AC := .reg l_model_space_read_3
def ac_model_space_read_4 : AC := .cond (.t 13) .skip (.exit 0)
def l_model_space_read_5 : List AOp := [⟨(some 14), .mv (.t 12), none, none, [], none⟩,
  ⟨(some 8), .mv (.t 14), none, none, [], none⟩]
def ac_model_space_read_5 : AC := .reg l_model_space_read_5
def l_model_space_read_6 : List AOp := [⟨(some 16), .mv (.t 0), none, none, [], none⟩,
  ⟨(some 17), .nilck (.t 16), none, none, [], none⟩,
  ⟨(some 18), .faddr 1 (.t 17), none, none, [], none⟩,
  ⟨(some 19), .load none (.t 18), none, none, [], none⟩,
  ⟨(some 20), .mv (.t 1), none, none, [], none⟩,
  ⟨(some 21), .mv (.t 8), none, none, [], none⟩,
  ⟨(some 22), .bin .add (.t 20) (.t 21), none, none, [], none⟩,
  ⟨(some 23), .mop (.get true (.str [])) [(.t 19), (.t 22)], none, none, [], none⟩,
  ⟨(some 15), .mv (.t 23), none, none, [], none⟩,
  ⟨(some 24), .ext 0 (.t 15), none, none, [], none⟩,
  ⟨(some 25), .ext 1 (.t 15), none, none, [], none⟩,
  ⟨(some 9), .mv (.t 24), none, none, [], none⟩,
  ⟨(some 10), .mv (.t 25), none, none, [], none⟩]
def ac_model_space_read_6 : AC := .reg l_model_space_read_6
def l_model_space_read_7 : List AOp := [⟨(some 26), .mv (.t 10), none, none, [], none⟩]
def ac_model_space_read_7 : AC := .reg l_model_space_read_7
def l_model_space_read_8 : List AOp := [⟨(some 27), .mv (.t 9), none, none, [], none⟩,
  ⟨(some 28), .icall 70 [(.t 7), (.t 27)], none, none, [], none⟩]
def ac_model_space_read_8 : AC := .reg l_model_space_read_8
def l_model_space_read_9 : List AOp := [⟨(some 29), .call false 71 [], none, none, [], none⟩,
  ⟨(some 30), .icall 70 [(.t 7), (.t 29)], none, none, [], none⟩]
def ac_model_space_read_9 : AC := .reg l_model_space_read_9
def ac_model_space_read_10 : AC := .cond (.t 26) ac_model_space_read_8 ac_model_space_read_9
def ac_model_space_read_11 : AC := .seq ac_model_space_read_7 ac_model_space_read_10
def ac_model_space_read_12 : AC := .seq ac_model_space_read_6 ac_model_space_read_11
def ac_model_space_read_13 : AC := .seq ac_model_space_read_5 ac_model_space_read_12
def ac_model_space_read_14 : AC := .block 1 ac_model_space_read_13
def l_model_space_read_15 : List AOp := [⟨(some 31), .bin .add (.t 12) (.k (.int .i64 1)), none, none, [], none⟩,
  ⟨(some 12), .mv (.t 31), none, none, [], none⟩]
def ac_model_space_read_15 : AC := .reg l_model_space_read_15
def ac_model_space_read_16 : AC := .seq ac_model_space_read_14 ac_model_space_read_15
def ac_model_space_read_17 : AC := .seq ac_model_space_read_4 ac_model_space_read_16
def ac_model_space_read_18 : AC := .seq ac_model_space_read_3 ac_model_space_read_17
def ac_model_space_read_19 : AC := .loop [0, 1, 6, 7, 11, 12] 1000000000 ac_model_space_read_18
def ac_model_space_read_20 : AC := .block 0 ac_model_space_read_19
def ac_model_space_read_21 : AC := .seq ac_model_space_read_2 ac_model_space_read_20
def l_model_space_read_22 : List AOp := [⟨(some 32), .icall 72 [(.t 7)], none, none, [], none⟩,
  ⟨(some 33), .build [(.int .i64 0), (.str []), (.int .i64 0), (.int .i64 0), (.slc [])] [(1, 1, (.t 32))], none, none, [], none⟩,
  ⟨none, .store 5 (.t 6) (.t 33), none, none, [], none⟩]
def ac_model_space_read_22 : AC := .reg l_model_space_read_22
def ac_model_space_read_23 : AC := .seq ac_model_space_read_22 .ret
def ac_model_space_read_24 : AC := .seq ac_model_space_read_21 ac_model_space_read_23
def ac_model_space_read_25 : AC := .seq ac_model_space_read_1 ac_model_space_read_24
def ac_model_space_read_26 : AC := .seq ac_model_space_read_0 ac_model_space_read_25
def ac_model_space_read : AC := ac_model_space_read_26
theorem comp_model_space_read : compF Try.prog [7, 1000070, 1000072] (drawR Try.prog [7, 1000070, 1000072] Try.f52.ntmps) [([0, 1, 6, 7, 11, 12], 1000000000)] 3 Try.f52 = some (ac_model_space_read, [.c 6 (some 5)]) := by kernel_rfl
def U_model_space_read := (And.intro (And.intro (And.intro (And.intro (And.intro (And.intro @ac_model_space_read.eq_1 (@mR _ _ ac_model_space_read_0.eq_1)) (@mR _ _ ac_model_space_read_1.eq_1)) (And.intro (@mR _ _ ac_model_space_read_2.eq_1) (@mR _ _ ac_model_space_read_3.eq_1))) (And.intro (And.intro (And.intro (@mU _ _ ac_model_space_read_4.eq_1) (@mR _ _ ac_model_space_read_5.eq_1)) (@mR _ _ ac_model_space_read_6.eq_1)) (And.intro (@mR _ _ ac_model_space_read_7.eq_1) (@mR _ _ ac_model_space_read_8.eq_1)))) (And.intro (And.intro (And.intro (And.intro (@mR _ _ ac_model_space_read_9.eq_1) (@mU _ _ ac_model_space_read_10.eq_1)) (@mU _ _ ac_model_space_read_11.eq_1)) (And.intro (@mU _ _ ac_model_space_read_12.eq_1) (@mU _ _ ac_model_space_read_13.eq_1))) (And.intro (And.intro (And.intro (@mU _ _ ac_model_space_read_14.eq_1) (@mR _ _ ac_model_space_read_15.eq_1)) (@mU _ _ ac_model_space_read_16.eq_1)) (And.intro (@mU _ _ ac_model_space_read_17.eq_1) (@mU _ _ ac_model_space_read_18.eq_1))))) (And.intro (And.intro (And.intro (And.intro (And.intro (@mU _ _ ac_model_space_read_19.eq_1) (@mU _ _ ac_model_space_read_20.eq_1)) (@mU _ _ ac_model_space_read_21.eq_1)) (And.intro (@mR _ _ ac_model_space_read_22.eq_1) (@mU _ _ ac_model_space_read_23.eq_1))) (And.intro (And.intro (And.intro (@mU _ _ ac_model_space_read_24.eq_1) (@mU _ _ ac_model_space_read_25.eq_1)) (@mU _ _ ac_model_space_read_26.eq_1)) (And.intro @l_model_space_read_0.eq_1 @l_model_space_read_1.eq_1))) (And.intro (And.intro (And.intro (And.intro @l_model_space_read_2.eq_1 @l_model_space_read_3.eq_1) @l_model_space_read_5.eq_1) (And.intro @l_model_space_read_6.eq_1 @l_model_space_read_7.eq_1)) (And.intro (And.intro @l_model_space_read_8.eq_1 @l_model_space_read_9.eq_1) (And.intro @l_model_space_read_15.eq_1 @l_model_space_read_22.eq_1)))))

/- (*scoria/model.Model).sectors$1 -/
def l_model_Model_sectors_c1_0 : List AOp := [⟨(some 4), .mv (.k (.bool false)), none, none, [], none⟩]
def ac_model_Model_sectors_c1_0 : AC := .reg l_model_Model_sectors_c1_0
def l_model_Model_sectors_c1_1 : List AOp := [⟨(some 5), .mv (.t 0), none, none, [], none⟩,
  ⟨(some 6), .faddr 2 (.t 1), none, none, [], none⟩,
  ⟨(some 7), .load none (.t 6), none, none, [], none⟩,
  ⟨(some 8), .bin .geq (.t 5) (.t 7), none, none, [], none⟩,
  ⟨(some 9), .mv (.t 8), none, none, [], none⟩,
  ⟨(some 10), .mv (.t 0), (some (9, true)), none, [], none⟩,
  ⟨(some 11), .faddr 2 (.t 1), (some (9, true)), none, [], none⟩,
  ⟨(some 12), .load none (.t 11), (some (9, true)), none, [], none⟩,
  ⟨(some 13), .bin .sub (.t 10) (.t 12), (some (9, true)), none, [], none⟩,
  ⟨(some 14), .load none (.t 2), (some (9, true)), none, [], none⟩,
  ⟨(some 15), .bin .lss (.t 13) (.t 14), (some (9, true)), none, [], none⟩,
  ⟨(some 16), .pick (.t 9) (.t 15) (.k (.bool false)), none, none, [], none⟩,
  ⟨(some 4), .mv (.t 16), none, none, [], none⟩]
def ac_model_Model_sectors_c1_1 : AC := .reg l_model_Model_sectors_c1_1
def ac_model_Model_sectors_c1_2 : AC := .seq ac_model_Model_sectors_c1_1 .ret
def ac_model_Model_sectors_c1_3 : AC := .seq ac_model_Model_sectors_c1_0 ac_model_Model_sectors_c1_2
def ac_model_Model_sectors_c1 : AC := ac_model_Model_sectors_c1_3
theorem comp_model_Model_sectors_c1 : compF Try.prog [] (drawR Try.prog [] Try.f53.ntmps) [] 3 Try.f53 = some (ac_model_Model_sectors_c1, [.t 4]) := by kernel_rfl
def U_model_Model_sectors_c1 := (And.intro (And.intro (And.intro @ac_model_Model_sectors_c1.eq_1 (@mR _ _ ac_model_Model_sectors_c1_0.eq_1)) (And.intro (@mR _ _ ac_model_Model_sectors_c1_1.eq_1) (@mU _ _ ac_model_Model_sectors_c1_2.eq_1))) (And.intro (And.intro (@mU _ _ ac_model_Model_sectors_c1_3.eq_1) @l_model_Model_sectors_c1_0.eq_1) @l_model_Model_sectors_c1_1.eq_1))

/- (*scoria/model.Model).lay -/
def l_model_Model_lay_0 : List AOp := [⟨(some 6), .box (.t 2), none, none, [], none⟩,
  ⟨(some 8), .alloc [(.int .i64 0), (.str []), (.int .i64 0), (.int .i64 0), (.slc [])], none, none, [], none⟩]
def ac_model_Model_lay_0 : AC := .reg l_model_Model_lay_0
def l_model_Model_lay_1 : List AOp := [⟨(some 10), .mv (.t 1), none, none, [], none⟩,
  ⟨(some 11), .faddr 2 (.t 6), none, none, [], none⟩,
  ⟨(some 12), .load none (.t 11), none, none, [], none⟩,
  ⟨(some 13), .mv (.t 3), none, none, [], none⟩,
  ⟨(some 14), .rcall 73 [(.t 10), (.t 12), (.t 13)], none, none, [], none⟩,
  ⟨(some 15), .mv (.t 0), none, none, [], none⟩,
  ⟨(some 16), .nilck (.t 15), none, none, [], none⟩,
  ⟨(some 17), .faddr 0 (.t 16), none, none, [], none⟩,
  ⟨(some 18), .load none (.t 17), none, none, [], none⟩,
  ⟨(some 19), .mv (.t 0), none, none, [], none⟩,
  ⟨(some 20), .rcall 28 [(.t 19)], none, none, [], none⟩,
  ⟨(some 21), .bin .sub (.t 18) (.t 20), none, none, [], none⟩,
  ⟨(some 22), .bin .gtr (.t 14) (.t 21), none, none, [], none⟩]
def ac_model_Model_lay_1 : AC := .dreg 0 l_model_Model_lay_1
def l_model_Model_lay_2 : List AOp := [⟨(some 23), .call false 26 [(.k (.int .i64 71))], none, none, [], none⟩,
  ⟨none, .store 5 (.t 8) (.t 23), none, none, [], none⟩]
def ac_model_Model_lay_2 : AC := .reg l_model_Model_lay_2
def ac_model_Model_lay_3 : AC := .seq ac_model_Model_lay_2 .ret
def ac_model_Model_lay_4 : AC := .cond (.t 22) ac_model_Model_lay_3 .skip
def ac_model_Model_lay_5 : AC := .seq ac_model_Model_lay_1 ac_model_Model_lay_4
def l_model_Model_lay_6 : List AOp := [⟨(some 24), .mv (.t 3), none, none, [], none⟩,
  ⟨(some 25), .mv (.k (.int .i64 0)), none, none, [], none⟩]
def ac_model_Model_lay_6 : AC := .reg l_model_Model_lay_6
def l_model_Model_lay_7 : List AOp := [⟨(some 26), .bin .lss (.t 25) (.t 24), none, none, [], none⟩]
def ac_model_Model_lay_7 : AC := .reg l_model_Model_lay_7
def ac_model_Model_lay_8 : AC := .cond (.t 26) .skip (.exit 0)
def l_model_Model_lay_9 : List AOp := [⟨(some 27), .mv (.t 25), none, none, [], none⟩,
  ⟨(some 9), .mv (.t 27), none, none, [], none⟩]
def ac_model_Model_lay_9 : AC := .reg l_model_Model_lay_9
def l_model_Model_lay_10 : List AOp := [⟨(some 28), .mv (.t 1), none, none, [], none⟩,
  ⟨(some 29), .nilck (.t 28), none, none, [], none⟩,
  ⟨(some 30), .faddr 1 (.t 29), none, none, [], none⟩,
  ⟨(some 31), .load none (.t 30), none, none, [], none⟩,
  ⟨(some 32), .faddr 2 (.t 6), none, none, [], none⟩,
  ⟨(some 33), .load none (.t 32), none, none, [], none⟩,
  ⟨(some 34), .mv (.t 9), none, none, [], none⟩,
  ⟨(some 35), .bin .add (.t 33) (.t 34), none, none, [], none⟩,
  ⟨(some 36), .call false 71 [], none, none, [], none⟩,
  ⟨none, .mop .set [(.t 31), (.t 35), (.t 36)], none, none, [], none⟩]
def ac_model_Model_lay_10 : AC := .dreg 0 l_model_Model_lay_10
def l_model_Model_lay_11 : List AOp := [⟨(some 37), .faddr 0 (.t 6), none, none, [], none⟩,
  ⟨(some 38), .load none (.t 37), none, none, [], none⟩,
  ⟨(some 39), .bin .eql (.t 38) (.k (.int .i64 4)), none, none, [], none⟩]
def ac_model_Model_lay_11 : AC := .reg l_model_Model_lay_11
def l_model_Model_lay_12 : List AOp := [⟨(some 40), .mv (.t 1), none, none, [], none⟩,
  ⟨(some 41), .nilck (.t 40), none, none, [], none⟩,
  ⟨(some 42), .faddr 1 (.t 41), none, none, [], none⟩,
  ⟨(some 43), .load none (.t 42), none, none, [], none⟩,
  ⟨(some 44), .faddr 2 (.t 6), none, none, [], none⟩,
  ⟨(some 45), .load none (.t 44), none, none, [], none⟩,
  ⟨(some 46), .mv (.t 9), none, none, [], none⟩,
  ⟨(some 47), .bin .add (.t 45) (.t 46), none, none, [], none⟩,
  ⟨(some 48), .faddr 4 (.t 6), none, none, [], none⟩,
  ⟨(some 49), .load none (.t 48), none, none, [], none⟩,
  ⟨(some 50), .mv (.t 9), none, none, [], none⟩,
  ⟨(some 51), .bin .mul (.t 50) (.k (.int .i64 32)), none, none, [], none⟩,
  ⟨(some 52), .mv (.t 9), none, none, [], none⟩,
  ⟨(some 53), .bin .add (.t 52) (.k (.int .i64 1)), none, none, [], none⟩,
  ⟨(some 54), .bin .mul (.t 53) (.k (.int .i64 32)), none, none, [], none⟩,
  ⟨(some 55), .sstr (.t 49) (some (.t 51)) (some (.t 54)), none, none, [], none⟩,
  ⟨none, .mop .set [(.t 43), (.t 47), (.t 55)], none, none, [], none⟩]
def ac_model_Model_lay_12 : AC := .dreg 0 l_model_Model_lay_12
def ac_model_Model_lay_13 : AC := .cond (.t 39) ac_model_Model_lay_12 .skip
def ac_model_Model_lay_14 : AC := .seq ac_model_Model_lay_11 ac_model_Model_lay_13
def ac_model_Model_lay_15 : AC := .seq ac_model_Model_lay_10 ac_model_Model_lay_14
def ac_model_Model_lay_16 : AC := .seq ac_model_Model_lay_9 ac_model_Model_lay_15
def ac_model_Model_lay_17 : AC := .block 1 ac_model_Model_lay_16
def l_model_Model_lay_18 : List AOp := [⟨(some 56), .bin .add (.t 25) (.k (.int .i64 1)), none, none, [], none⟩,
  ⟨(some 25), .mv (.t 56), none, none, [], none⟩]
def ac_model_Model_lay_18 : AC := .reg l_model_Model_lay_18
def ac_model_Model_lay_19 : AC := .seq ac_model_Model_lay_17 ac_model_Model_lay_18
def ac_model_Model_lay_20 : AC := .seq ac_model_Model_lay_8 ac_model_Model_lay_19
def ac_model_Model_lay_21 : AC := .seq ac_model_Model_lay_7 ac_model_Model_lay_20
def ac_model_Model_lay_22 : AC := .loop [1, 6, 8, 24, 25] 1000000000 ac_model_Model_lay_21
def ac_model_Model_lay_23 : AC := .block 0 ac_model_Model_lay_22
def ac_model_Model_lay_24 : AC := .seq ac_model_Model_lay_6 ac_model_Model_lay_23
def l_model_Model_lay_25 : List AOp := [⟨(some 57), .build [(.int .i64 0), (.str []), (.int .i64 0), (.int .i64 0), (.slc [])] [], none, none, [], none⟩,
  ⟨none, .store 5 (.t 8) (.t 57), none, none, [], none⟩]
def ac_model_Model_lay_25 : AC := .reg l_model_Model_lay_25
def ac_model_Model_lay_26 : AC := .seq ac_model_Model_lay_25 .ret
def ac_model_Model_lay_27 : AC := .seq ac_model_Model_lay_24 ac_model_Model_lay_26
def ac_model_Model_lay_28 : AC := .seq ac_model_Model_lay_5 ac_model_Model_lay_27
def ac_model_Model_lay_29 : AC := .seq ac_model_Model_lay_0 ac_model_Model_lay_28
def ac_model_Model_lay : AC := ac_model_Model_lay_29
theorem comp_model_Model_lay : compF Try.prog [4000073, 4000028] (drawR Try.prog [4000073, 4000028] Try.f54.ntmps) [([1, 6, 8, 24, 25], 1000000000)] 4 Try.f54 = some (ac_model_Model_lay, [.c 8 (some 5)]) := by kernel_rfl
def U_model_Model_lay := (And.intro (And.intro (And.intro (And.intro (And.intro (And.intro @ac_model_Model_lay.eq_1 (@mR _ _ ac_model_Model_lay_0.eq_1)) (@mD _ _ _ ac_model_Model_lay_1.eq_1)) (And.intro (And.intro (@mR _ _ ac_model_Model_lay_2.eq_1) (@mU _ _ ac_model_Model_lay_3.eq_1)) (@mU _ _ ac_model_Model_lay_4.eq_1))) (And.intro (And.intro (And.intro (@mU _ _ ac_model_Model_lay_5.eq_1) (@mR _ _ ac_model_Model_lay_6.eq_1)) (@mR _ _ ac_model_Model_lay_7.eq_1)) (And.intro (@mU _ _ ac_model_Model_lay_8.eq_1) (@mR _ _ ac_model_Model_lay_9.eq_1)))) (And.intro (And.intro (And.intro (And.intro (@mD _ _ _ ac_model_Model_lay_10.eq_1) (@mR _ _ ac_model_Model_lay_11.eq_1)) (@mD _ _ _ ac_model_Model_lay_12.eq_1)) (And.intro (@mU _ _ ac_model_Model_lay_13.eq_1) (@mU _ _ ac_model_Model_lay_14.eq_1))) (And.intro (And.intro (And.intro (@mU _ _ ac_model_Model_lay_15.eq_1) (@mU _ _ ac_model_Model_lay_16.eq_1)) (@mU _ _ ac_model_Model_lay_17.eq_1)) (And.intro (@mR _ _ ac_model_Model_lay_18.eq_1) (@mU _ _ ac_model_Model_lay_19.eq_1))))) (And.intro (And.intro (And.intro (And.intro (And.intro (@mU _ _ ac_model_Model_lay_20.eq_1) (@mU _ _ ac_model_Model_lay_21.eq_1)) (@mU _ _ ac_model_Model_lay_22.eq_1)) (And.intro (And.intro (@mU _ _ ac_model_Model_lay_23.eq_1) (@mU _ _ ac_model_Model_lay_24.eq_1)) (@mR _ _ ac_model_Model_lay_25.eq_1))) (And.intro (And.intro (And.intro (@mU _ _ ac_model_Model_lay_26.eq_1) (@mU _ _ ac_model_Model_lay_27.eq_1)) (@mU _ _ ac_model_Model_lay_28.eq_1)) (And.intro (@mU _ _ ac_model_Model_lay_29.eq_1) @l_model_Model_lay_0.eq_1))) (And.intro (And.intro (And.intro (And.intro @l_model_Model_lay_1.eq_1 @l_model_Model_lay_2.eq_1) @l_model_Model_lay_6.eq_1) (And.intro @l_model_Model_lay_7.eq_1 @l_model_Model_lay_9.eq_1)) (And.intro (And.intro (And.intro @l_model_Model_lay_10.eq_1 @l_model_Model_lay_11.eq_1) @l_model_Model_lay_12.eq_1) (And.intro @l_model_Model_lay_18.eq_1 @l_model_Model_lay_25.eq_1)))))

/- scoria/model.blank -/
def l_model_blank_0 : List AOp := [⟨(some 0), .mv (.k (.str [])), none, none, [], none⟩]
def ac_model_blank_0 : AC := .reg l_model_blank_0
def l_model_blank_1 : List AOp := [⟨(some 1), .call false 79 [(.k (.str [0])), (.k (.int .i64 32))], none, none, [], none⟩,
  ⟨(some 0), .mv (.t 1), none, none, [], none⟩]
def ac_model_blank_1 : AC := .reg l_model_blank_1
def ac_model_blank_2 : AC := .seq ac_model_blank_1 .ret
def ac_model_blank_3 : AC := .seq ac_model_blank_0 ac_model_blank_2
def ac_model_blank : AC := ac_model_blank_3
theorem comp_model_blank : compF Try.prog [] (drawR Try.prog [] Try.f71.ntmps) [] 0 Try.f71 = some (ac_model_blank, [.t 0]) := by kernel_rfl
def U_model_blank := (And.intro (And.intro (And.intro @ac_model_blank.eq_1 (@mR _ _ ac_model_blank_0.eq_1)) (And.intro (@mR _ _ ac_model_blank_1.eq_1) (@mU _ _ ac_model_blank_2.eq_1))) (And.intro (And.intro (@mU _ _ ac_model_blank_3.eq_1) @l_model_blank_0.eq_1) @l_model_blank_1.eq_1))

/- (*scoria/model.space).holes -/
def l_model_space_holes_0 : List AOp := [⟨(some 6), .mv (.k (.int .i64 0)), none, none, [], none⟩]
def ac_model_space_holes_0 : AC := .reg l_model_space_holes_0
def l_model_space_holes_1 : List AOp := [⟨(some 9), .mv (.t 2), none, none, [], none⟩,
  ⟨(some 7), .mv (.t 9), none, none, [], none⟩]
def ac_model_space_holes_1 : AC := .reg l_model_space_holes_1
def l_model_space_holes_2 : List AOp := [⟨(some 10), .mv (.t 0), none, none, [], none⟩,
  ⟨(some 11), .nilck (.t 10), none, none, [], none⟩,
  ⟨(some 12), .faddr 1 (.t 11), none, none, [], none⟩,
  ⟨(some 13), .load none (.t 12), none, none, [], none⟩,
  ⟨(some 14), .mop .rng [(.t 13)], none, none, [], none⟩]
def ac_model_space_holes_2 : AC := .reg l_model_space_holes_2
def l_model_space_holes_3 : List AOp := [⟨(some 15), .mop .nxt [(.t 14)], none, none, [], none⟩,
  ⟨(some 16), .ext 0 (.t 15), none, none, [], none⟩]
def ac_model_space_holes_3 : AC := .reg l_model_space_holes_3
def ac_model_space_holes_4 : AC := .cond (.t 16) .skip (.exit 0)
def l_model_space_holes_5 : List AOp := [⟨(some 17), .mop .ent [(.t 14)], none, none, [], none⟩,
  ⟨(some 18), .ext 0 (.t 17), none, none, [], none⟩,
  ⟨(some 8), .mv (.t 18), none, none, [], none⟩]
def ac_model_space_holes_5 : AC := .reg l_model_space_holes_5
def l_model_space_holes_6 : List AOp := [⟨(some 19), .mv (.t 8), none, none, [], none⟩,
  ⟨(some 20), .mv (.t 1), none, none, [], none⟩,
  ⟨(some 21), .bin .geq (.t 19) (.t 20), none, none, [], none⟩,
  ⟨(some 22), .mv (.t 21), none, none, [], none⟩,
  ⟨(some 23), .mv (.t 8), (some (22, true)), none, [], none⟩,
  ⟨(some 24), .mv (.t 1), (some (22, true)), none, [], none⟩,
  ⟨(some 25), .bin .sub (.t 23) (.t 24), (some (22, true)), none, [], none⟩,
  ⟨(some 26), .mv (.t 2), (some (22, true)), none, [], none⟩,
  ⟨(some 27), .bin .lss (.t 25) (.t 26), (some (22, true)), none, [], none⟩,
  ⟨(some 28), .pick (.t 22) (.t 27) (.k (.bool false)), none, none, [], none⟩]
def ac_model_space_holes_6 : AC := .reg l_model_space_holes_6
def l_model_space_holes_7 : List AOp := [⟨(some 29), .mv (.t 7), none, none, [], none⟩,
  ⟨(some 30), .bin .sub (.t 29) (.k (.int .i64 1)), none, none, [], none⟩,
  ⟨(some 7), .mv (.t 30), none, none, [], none⟩]
def ac_model_space_holes_7 : AC := .reg l_model_space_holes_7
def ac_model_space_holes_8 : AC := .cond (.t 28) ac_model_space_holes_7 .skip
def ac_model_space_holes_9 : AC := .seq ac_model_space_holes_6 ac_model_space_holes_8
def ac_model_space_holes_10 : AC := .seq ac_model_space_holes_5 ac_model_space_holes_9
def ac_model_space_holes_11 : AC := .block 1 ac_model_space_holes_10
def ac_model_space_holes_12 : AC := .seq ac_model_space_holes_4 ac_model_space_holes_11
def ac_model_space_holes_13 : AC := .seq ac_model_space_holes_3 ac_model_space_holes_12
def ac_model_space_holes_14 : AC := .loop [1, 2, 7, 14] 1000000000 ac_model_space_holes_13
def ac_model_space_holes_15 : AC := .block 0 ac_model_space_holes_14
def ac_model_space_holes_16 : AC := .seq ac_model_space_holes_2 ac_model_space_holes_15
def l_model_space_holes_17 : List AOp := [⟨(some 31), .mv (.t 7), none, none, [], none⟩,
  ⟨(some 6), .mv (.t 31), none, none, [], none⟩]
def ac_model_space_holes_17 : AC := .reg l_model_space_holes_17
def ac_model_space_holes_18 : AC := .seq ac_model_space_holes_17 .ret
def ac_model_space_holes_19 : AC := .seq ac_model_space_holes_16 ac_model_space_holes_18
def ac_model_space_holes_20 : AC := .seq ac_model_space_holes_1 ac_model_space_holes_19
def ac_model_space_holes_21 : AC := .seq ac_model_space_holes_0 ac_model_space_holes_20
def ac_model_space_holes : AC := ac_model_space_holes_21
theorem comp_model_space_holes : compF Try.prog [] (drawR Try.prog [] Try.f73.ntmps) [([1, 2, 7, 14], 1000000000)] 3 Try.f73 = some (ac_model_space_holes, [.t 6]) := by kernel_rfl
def U_model_space_holes := (And.intro (And.intro (And.intro (And.intro (And.intro @ac_model_space_holes.eq_1 (@mR _ _ ac_model_space_holes_0.eq_1)) (And.intro (@mR _ _ ac_model_space_holes_1.eq_1) (@mR _ _ ac_model_space_holes_2.eq_1))) (And.intro (And.intro (@mR _ _ ac_model_space_holes_3.eq_1) (@mU _ _ ac_model_space_holes_4.eq_1)) (And.intro (@mR _ _ ac_model_space_holes_5.eq_1) (@mR _ _ ac_model_space_holes_6.eq_1)))) (And.intro (And.intro (And.intro (@mR _ _ ac_model_space_holes_7.eq_1) (@mU _ _ ac_model_space_holes_8.eq_1)) (And.intro (@mU _ _ ac_model_space_holes_9.eq_1) (@mU _ _ ac_model_space_holes_10.eq_1))) (And.intro (And.intro (@mU _ _ ac_model_space_holes_11.eq_1) (@mU _ _ ac_model_space_holes_12.eq_1)) (And.intro (@mU _ _ ac_model_space_holes_13.eq_1) (@mU _ _ ac_model_space_holes_14.eq_1))))) (And.intro (And.intro (And.intro (And.intro (@mU _ _ ac_model_space_holes_15.eq_1) (@mU _ _ ac_model_space_holes_16.eq_1)) (And.intro (@mR _ _ ac_model_space_holes_17.eq_1) (@mU _ _ ac_model_space_holes_18.eq_1))) (And.intro (And.intro (@mU _ _ ac_model_space_holes_19.eq_1) (@mU _ _ ac_model_space_holes_20.eq_1)) (And.intro (@mU _ _ ac_model_space_holes_21.eq_1) @l_model_space_holes_0.eq_1))) (And.intro (And.intro (And.intro @l_model_space_holes_1.eq_1 @l_model_space_holes_2.eq_1) (And.intro @l_model_space_holes_3.eq_1 @l_model_space_holes_5.eq_1)) (And.intro (And.intro @l_model_space_holes_6.eq_1 @l_model_space_holes_7.eq_1) @l_model_space_holes_17.eq_1))))

end Go.Proofs.Ythjnfjgejdlbfaa.Aw
