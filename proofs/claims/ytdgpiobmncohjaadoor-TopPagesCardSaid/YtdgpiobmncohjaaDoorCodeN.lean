/-
  The functions of the seat, translated to abstract code. Written by a program (wip/Gen2.lean).
-/
import Derived.Test.YtdgpiobmncohjaaDoorCode
import Derived.Test.YtdgpiobmncohjaaDoorProg
set_option maxRecDepth 100000
set_option linter.all false
namespace Go.Proofs.YtdgpiobmncohjaaDoor.Aw
open Go.RowKit
/- scoria/nand.New -/
def l_nand_New_0 : List AOp := [⟨(some 1), .box (.t 0), none, none, [], none⟩,
  ⟨(some 2), .mv (.k .nilp), none, none, [], none⟩,
  ⟨(some 3), .mv (.k .nili), none, none, [], none⟩]
def ac_nand_New_0 : AC := .reg l_nand_New_0
def l_nand_New_1 : List AOp := [⟨(some 4), .faddr 0 (.t 1), none, none, [], none⟩,
  ⟨(some 5), .load none (.t 4), none, none, [], none⟩,
  ⟨(some 6), .call false 21 [(.t 5), (.k (.int .i64 16)), (.k (.int .i64 64))], none, none, [], none⟩,
  ⟨(some 7), .un .not (.t 6), none, none, [], none⟩,
  ⟨(some 8), .mv (.t 7), none, none, [], none⟩,
  ⟨(some 9), .faddr 1 (.t 1), (some (8, false)), none, [], none⟩,
  ⟨(some 10), .load none (.t 9), (some (8, false)), none, [], none⟩,
  ⟨(some 11), .call false 21 [(.t 10), (.k (.int .i64 8)), (.k (.int .i64 32))], (some (8, false)), none, [], none⟩,
  ⟨(some 12), .un .not (.t 11), (some (8, false)), none, [], none⟩,
  ⟨(some 13), .pick (.t 8) (.k (.bool true)) (.t 12), none, none, [], none⟩]
def ac_nand_New_1 : AC := .reg l_nand_New_1
def l_nand_New_2 : List AOp := [⟨(some 14), .faddr 0 (.t 1), none, none, [], none⟩,
  ⟨(some 15), .load none (.t 14), none, none, [], none⟩,
  ⟨(some 16), .mki 26 (.k (.int .i64 1)), none, none, [], none⟩,
  ⟨(some 17), .icall 22 [(.k (.str [110, 101, 119])), (.t 15), (.t 16)], none, none, [], none⟩,
  ⟨(some 2), .mv (.k .nilp), none, none, [], none⟩,
  ⟨(some 3), .mv (.t 17), none, none, [], none⟩]
def ac_nand_New_2 : AC := .reg l_nand_New_2
def ac_nand_New_3 : AC := .seq ac_nand_New_2 .ret
def ac_nand_New_4 : AC := .cond (.t 13) ac_nand_New_3 .skip
def ac_nand_New_5 : AC := .seq ac_nand_New_1 ac_nand_New_4
def l_nand_New_6 : List AOp := [⟨(some 18), .load (some 2) (.t 1), none, none, [0, 1], none⟩,
  ⟨(some 19), .faddr 0 (.t 1), none, none, [], none⟩,
  ⟨(some 20), .load none (.t 19), none, none, [0, 1], none⟩,
  ⟨(some 21), .mks true [.nils, (.int .i64 0), (.bool false)] 40 (.t 20) (.t 20), none, (some 0), [1], none⟩,
  ⟨(some 22), .build [(.int .i64 0), (.int .i64 0), .nils, (.int .i64 0), .nils, (.bool false)] [(0, 2, (.t 18)), (2, 1, (.t 21))], none, none, [], none⟩,
  ⟨(some 23), .box (.t 22), none, (some 1), [], none⟩,
  ⟨(some 2), .mv (.t 23), none, none, [], none⟩,
  ⟨(some 3), .mv (.k .nili), none, none, [], none⟩]
def ac_nand_New_6 : AC := .dreg 2 l_nand_New_6
def ac_nand_New_7 : AC := .seq ac_nand_New_6 .ret
def ac_nand_New_8 : AC := .seq ac_nand_New_5 ac_nand_New_7
def ac_nand_New_9 : AC := .seq ac_nand_New_0 ac_nand_New_8
def ac_nand_New : AC := ac_nand_New_9
theorem comp_nand_New : compF Tryd.prog [21, 22, 1000022] (drawR Tryd.prog [21, 22, 1000022] Tryd.f7.ntmps) [] 1 Tryd.f7 = some (ac_nand_New, [.t 2, .t 3]) := by kernel_rfl
def U_nand_New := (And.intro (And.intro (And.intro (And.intro @ac_nand_New.eq_1 (@mR _ _ ac_nand_New_0.eq_1)) (And.intro (@mR _ _ ac_nand_New_1.eq_1) (@mR _ _ ac_nand_New_2.eq_1))) (And.intro (And.intro (@mU _ _ ac_nand_New_3.eq_1) (@mU _ _ ac_nand_New_4.eq_1)) (And.intro (@mU _ _ ac_nand_New_5.eq_1) (@mD _ _ _ ac_nand_New_6.eq_1)))) (And.intro (And.intro (And.intro (@mU _ _ ac_nand_New_7.eq_1) (@mU _ _ ac_nand_New_8.eq_1)) (And.intro (@mU _ _ ac_nand_New_9.eq_1) @l_nand_New_0.eq_1)) (And.intro (And.intro @l_nand_New_1.eq_1 @l_nand_New_2.eq_1) @l_nand_New_6.eq_1)))

/- scoria/scoriatop.plain -/
def l_top_plain_0 : List AOp := [⟨(some 0), .alloc [(.int .i64 0), (.int .i64 0)], none, none, [], none⟩]
def ac_top_plain_0 : AC := .reg l_top_plain_0
def l_top_plain_1 : List AOp := [⟨(some 1), .build [(.int .i64 0), (.int .i64 0)] [(0, 1, (.k (.int .i64 16))), (1, 1, (.k (.int .i64 8)))], none, none, [], none⟩,
  ⟨none, .store 2 (.t 0) (.t 1), none, none, [], none⟩]
def ac_top_plain_1 : AC := .reg l_top_plain_1
def ac_top_plain_2 : AC := .seq ac_top_plain_1 .ret
def ac_top_plain_3 : AC := .seq ac_top_plain_0 ac_top_plain_2
def ac_top_plain : AC := ac_top_plain_3
theorem comp_top_plain : compF Tryd.prog [] (drawR Tryd.prog [] Tryd.f8.ntmps) [] 0 Tryd.f8 = some (ac_top_plain, [.c 0 (some 2)]) := by kernel_rfl
def U_top_plain := (And.intro (And.intro (And.intro @ac_top_plain.eq_1 (@mR _ _ ac_top_plain_0.eq_1)) (And.intro (@mR _ _ ac_top_plain_1.eq_1) (@mU _ _ ac_top_plain_2.eq_1))) (And.intro (And.intro (@mU _ _ ac_top_plain_3.eq_1) @l_top_plain_0.eq_1) @l_top_plain_1.eq_1))

/- (*scoria/nand.Nand).Program -/
def l_nand_Nand_Program_0 : List AOp := [⟨(some 6), .mv (.k .nili), none, none, [], none⟩]
def ac_nand_Nand_Program_0 : AC := .reg l_nand_Nand_Program_0
def l_nand_Nand_Program_1 : List AOp := [⟨(some 7), .mv (.t 1), none, none, [], none⟩,
  ⟨(some 8), .mv (.t 0), none, none, [], none⟩,
  ⟨(some 9), .mv (.t 1), none, none, [], none⟩,
  ⟨(some 10), .mv (.t 2), none, none, [], none⟩,
  ⟨(some 11), .icall 23 [(.t 8), (.t 9), (.t 10)], none, none, [], none⟩,
  ⟨(some 12), .icall 22 [(.k (.str [112, 114, 111, 103, 114, 97, 109])), (.t 7), (.t 11)], none, none, [], none⟩,
  ⟨(some 6), .mv (.t 12), none, none, [], none⟩]
def ac_nand_Nand_Program_1 : AC := .reg l_nand_Nand_Program_1
def ac_nand_Nand_Program_2 : AC := .seq ac_nand_Nand_Program_1 .ret
def ac_nand_Nand_Program_3 : AC := .seq ac_nand_Nand_Program_0 ac_nand_Nand_Program_2
def ac_nand_Nand_Program : AC := ac_nand_Nand_Program_3
theorem comp_nand_Nand_Program : compF Tryd.prog [1000023, 1000022] (drawR Tryd.prog [1000023, 1000022] Tryd.f9.ntmps) [] 3 Tryd.f9 = some (ac_nand_Nand_Program, [.t 6]) := by kernel_rfl
def U_nand_Nand_Program := (And.intro (And.intro (And.intro @ac_nand_Nand_Program.eq_1 (@mR _ _ ac_nand_Nand_Program_0.eq_1)) (And.intro (@mR _ _ ac_nand_Nand_Program_1.eq_1) (@mU _ _ ac_nand_Nand_Program_2.eq_1))) (And.intro (And.intro (@mU _ _ ac_nand_Nand_Program_3.eq_1) @l_nand_Nand_Program_0.eq_1) @l_nand_Nand_Program_1.eq_1))

/- (*scoria/nand.Nand).Plan -/
def l_nand_Nand_Plan_0 : List AOp := [⟨(some 6), .mv (.t 0), none, none, [], none⟩,
  ⟨(some 7), .isn .p false (.t 6), none, none, [], none⟩]
def ac_nand_Nand_Plan_0 : AC := .reg l_nand_Nand_Plan_0
def ac_nand_Nand_Plan_1 : AC := .cond (.t 7) .ret .skip
def ac_nand_Nand_Plan_2 : AC := .seq ac_nand_Nand_Plan_0 ac_nand_Nand_Plan_1
def l_nand_Nand_Plan_3 : List AOp := [⟨(some 8), .mv (.t 0), none, none, [], none⟩,
  ⟨(some 9), .nilck (.t 8), none, none, [], none⟩,
  ⟨(some 10), .faddr 4 (.t 9), none, none, [], none⟩,
  ⟨none, .store 1 (.t 10) (.k .nils), none, none, [], none⟩]
def ac_nand_Nand_Plan_3 : AC := .reg l_nand_Nand_Plan_3
def l_nand_Nand_Plan_4 : List AOp := [⟨(some 11), .mv (.t 1), none, none, [], none⟩,
  ⟨(some 12), .len (.t 11), none, none, [], none⟩,
  ⟨(some 13), .mv (.k (.int .i64 0)), none, none, [], none⟩]
def ac_nand_Nand_Plan_4 : AC := .reg l_nand_Nand_Plan_4
def l_nand_Nand_Plan_5 : List AOp := [⟨(some 14), .bin .lss (.t 13) (.t 12), none, none, [], none⟩]
def ac_nand_Nand_Plan_5 : AC := .reg l_nand_Nand_Plan_5
def ac_nand_Nand_Plan_6 : AC := .cond (.t 14) .skip (.exit 0)
def l_nand_Nand_Plan_7 : List AOp := [⟨(some 15), .isl 4 (.t 11) (.t 13), none, none, [], none⟩,
  ⟨(some 16), .load (some 4) (.t 15), none, none, [], none⟩,
  ⟨(some 5), .alloc [(.int .i64 0), (.int .i64 0), (.int .i64 0), (.str [])], none, none, [], none⟩,
  ⟨none, .store 4 (.t 5) (.t 16), none, none, [], none⟩]
def ac_nand_Nand_Plan_7 : AC := .reg l_nand_Nand_Plan_7
def l_nand_Nand_Plan_8 : List AOp := [⟨(some 17), .faddr 0 (.t 5), none, none, [], none⟩,
  ⟨(some 18), .load none (.t 17), none, none, [], none⟩,
  ⟨(some 19), .bin .geq (.t 18) (.k (.int .i64 1)), none, none, [], none⟩,
  ⟨(some 20), .mv (.t 19), none, none, [], none⟩,
  ⟨(some 21), .faddr 0 (.t 5), (some (20, true)), none, [], none⟩,
  ⟨(some 22), .load none (.t 21), (some (20, true)), none, [], none⟩,
  ⟨(some 23), .bin .leq (.t 22) (.k (.int .i64 1099511627776)), (some (20, true)), none, [], none⟩,
  ⟨(some 24), .pick (.t 20) (.t 23) (.k (.bool false)), none, none, [], none⟩]
def ac_nand_Nand_Plan_8 : AC := .reg l_nand_Nand_Plan_8
def l_nand_Nand_Plan_9 : List AOp := [⟨(some 25), .faddr 0 (.t 5), none, none, [], none⟩,
  ⟨(some 26), .load none (.t 25), none, none, [], none⟩,
  ⟨(some 27), .mv (.t 0), none, none, [], none⟩,
  ⟨(some 28), .nilck (.t 27), none, none, [], none⟩,
  ⟨(some 29), .faddr 3 (.t 28), none, none, [], none⟩,
  ⟨(some 30), .load none (.t 29), none, none, [], none⟩,
  ⟨(some 31), .bin .add (.t 26) (.t 30), none, none, [], none⟩,
  ⟨(some 32), .faddr 0 (.t 5), none, none, [], none⟩,
  ⟨none, .store 1 (.t 32) (.t 31), none, none, [], none⟩]
def ac_nand_Nand_Plan_9 : AC := .dreg 0 l_nand_Nand_Plan_9
def l_nand_Nand_Plan_10 : List AOp := [⟨(some 33), .mv (.t 0), none, none, [], none⟩,
  ⟨(some 34), .mv (.t 0), none, none, [], none⟩,
  ⟨(some 35), .nilck (.t 34), none, none, [], none⟩,
  ⟨(some 36), .faddr 4 (.t 35), none, none, [], none⟩,
  ⟨(some 37), .load none (.t 36), none, none, [0], none⟩,
  ⟨(some 38), .load (some 4) (.t 5), none, none, [0], none⟩,
  ⟨(some 39), .blds false [(.int .i64 0), (.int .i64 0), (.int .i64 0), (.str [])] 1 [(0, (.t 38))], none, none, [0], none⟩,
  ⟨(some 40), .app 4 40 [(.int .i64 0), (.int .i64 0), (.int .i64 0), (.str [])] (.t 37) (.t 39), none, (some 0), [], none⟩,
  ⟨(some 41), .nilck (.t 33), none, none, [], none⟩,
  ⟨(some 42), .faddr 4 (.t 41), none, none, [], none⟩,
  ⟨none, .store 1 (.t 42) (.t 40), none, none, [], none⟩]
def ac_nand_Nand_Plan_10 : AC := .dreg 1 l_nand_Nand_Plan_10
def ac_nand_Nand_Plan_11 : AC := .seq ac_nand_Nand_Plan_9 ac_nand_Nand_Plan_10
def ac_nand_Nand_Plan_12 : AC := .cond (.t 24) ac_nand_Nand_Plan_11 .skip
def ac_nand_Nand_Plan_13 : AC := .seq ac_nand_Nand_Plan_8 ac_nand_Nand_Plan_12
def ac_nand_Nand_Plan_14 : AC := .seq ac_nand_Nand_Plan_7 ac_nand_Nand_Plan_13
def ac_nand_Nand_Plan_15 : AC := .block 1 ac_nand_Nand_Plan_14
def l_nand_Nand_Plan_16 : List AOp := [⟨(some 43), .bin .add (.t 13) (.k (.int .i64 1)), none, none, [], none⟩,
  ⟨(some 13), .mv (.t 43), none, none, [], none⟩]
def ac_nand_Nand_Plan_16 : AC := .reg l_nand_Nand_Plan_16
def ac_nand_Nand_Plan_17 : AC := .seq ac_nand_Nand_Plan_15 ac_nand_Nand_Plan_16
def ac_nand_Nand_Plan_18 : AC := .seq ac_nand_Nand_Plan_6 ac_nand_Nand_Plan_17
def ac_nand_Nand_Plan_19 : AC := .seq ac_nand_Nand_Plan_5 ac_nand_Nand_Plan_18
def ac_nand_Nand_Plan_20 : AC := .loop [0, 11, 12, 13] 1000000000 ac_nand_Nand_Plan_19
def ac_nand_Nand_Plan_21 : AC := .block 0 ac_nand_Nand_Plan_20
def ac_nand_Nand_Plan_22 : AC := .seq ac_nand_Nand_Plan_4 ac_nand_Nand_Plan_21
def ac_nand_Nand_Plan_23 : AC := .seq ac_nand_Nand_Plan_3 ac_nand_Nand_Plan_22
def ac_nand_Nand_Plan_24 : AC := .seq ac_nand_Nand_Plan_2 ac_nand_Nand_Plan_23
def ac_nand_Nand_Plan : AC := ac_nand_Nand_Plan_24
theorem comp_nand_Nand_Plan : compF Tryd.prog [] (drawR Tryd.prog [] Tryd.f10.ntmps) [([0, 11, 12, 13], 1000000000)] 2 Tryd.f10 = some (ac_nand_Nand_Plan, []) := by kernel_rfl
def U_nand_Nand_Plan := (And.intro (And.intro (And.intro (And.intro (And.intro (And.intro @ac_nand_Nand_Plan.eq_1 (@mR _ _ ac_nand_Nand_Plan_0.eq_1)) (@mU _ _ ac_nand_Nand_Plan_1.eq_1)) (And.intro (@mU _ _ ac_nand_Nand_Plan_2.eq_1) (@mR _ _ ac_nand_Nand_Plan_3.eq_1))) (And.intro (And.intro (@mR _ _ ac_nand_Nand_Plan_4.eq_1) (@mR _ _ ac_nand_Nand_Plan_5.eq_1)) (And.intro (@mU _ _ ac_nand_Nand_Plan_6.eq_1) (@mR _ _ ac_nand_Nand_Plan_7.eq_1)))) (And.intro (And.intro (And.intro (And.intro (@mR _ _ ac_nand_Nand_Plan_8.eq_1) (@mD _ _ _ ac_nand_Nand_Plan_9.eq_1)) (@mD _ _ _ ac_nand_Nand_Plan_10.eq_1)) (And.intro (@mU _ _ ac_nand_Nand_Plan_11.eq_1) (@mU _ _ ac_nand_Nand_Plan_12.eq_1))) (And.intro (And.intro (@mU _ _ ac_nand_Nand_Plan_13.eq_1) (@mU _ _ ac_nand_Nand_Plan_14.eq_1)) (And.intro (@mU _ _ ac_nand_Nand_Plan_15.eq_1) (@mR _ _ ac_nand_Nand_Plan_16.eq_1))))) (And.intro (And.intro (And.intro (And.intro (And.intro (@mU _ _ ac_nand_Nand_Plan_17.eq_1) (@mU _ _ ac_nand_Nand_Plan_18.eq_1)) (@mU _ _ ac_nand_Nand_Plan_19.eq_1)) (And.intro (@mU _ _ ac_nand_Nand_Plan_20.eq_1) (@mU _ _ ac_nand_Nand_Plan_21.eq_1))) (And.intro (And.intro (@mU _ _ ac_nand_Nand_Plan_22.eq_1) (@mU _ _ ac_nand_Nand_Plan_23.eq_1)) (And.intro (@mU _ _ ac_nand_Nand_Plan_24.eq_1) @l_nand_Nand_Plan_0.eq_1))) (And.intro (And.intro (And.intro @l_nand_Nand_Plan_3.eq_1 @l_nand_Nand_Plan_4.eq_1) (And.intro @l_nand_Nand_Plan_5.eq_1 @l_nand_Nand_Plan_7.eq_1)) (And.intro (And.intro @l_nand_Nand_Plan_8.eq_1 @l_nand_Nand_Plan_9.eq_1) (And.intro @l_nand_Nand_Plan_10.eq_1 @l_nand_Nand_Plan_16.eq_1)))))

/- scoria/fault.Code -/
def l_fault_Code_0 : List AOp := [⟨(some 2), .mv (.k (.int .i64 0)), none, none, [], none⟩]
def ac_fault_Code_0 : AC := .reg l_fault_Code_0
def l_fault_Code_1 : List AOp := [⟨(some 4), .mv (.t 0), none, none, [], none⟩,
  ⟨(some 5), .isn .i false (.t 4), none, none, [], none⟩]
def ac_fault_Code_1 : AC := .reg l_fault_Code_1
def l_fault_Code_2 : List AOp := [⟨(some 2), .mv (.k (.int .i64 0)), none, none, [], none⟩]
def ac_fault_Code_2 : AC := .reg l_fault_Code_2
def ac_fault_Code_3 : AC := .seq ac_fault_Code_2 .ret
def ac_fault_Code_4 : AC := .cond (.t 5) ac_fault_Code_3 .skip
def ac_fault_Code_5 : AC := .seq ac_fault_Code_1 ac_fault_Code_4
def l_fault_Code_6 : List AOp := [⟨(some 3), .alloc [(.int .i64 0)], none, none, [], none⟩,
  ⟨none, .store 1 (.t 3) (.k (.int .i64 0)), none, none, [], none⟩]
def ac_fault_Code_6 : AC := .reg l_fault_Code_6
def l_fault_Code_7 : List AOp := [⟨(some 6), .mv (.t 0), none, none, [], none⟩,
  ⟨(some 7), .mki 64 (.t 3), none, none, [], none⟩,
  ⟨(some 8), .icall 24 [(.t 6), (.t 7)], none, none, [], none⟩]
def ac_fault_Code_7 : AC := .reg l_fault_Code_7
def l_fault_Code_8 : List AOp := [⟨(some 9), .load none (.t 3), none, none, [], none⟩,
  ⟨(some 2), .mv (.t 9), none, none, [], none⟩]
def ac_fault_Code_8 : AC := .reg l_fault_Code_8
def ac_fault_Code_9 : AC := .seq ac_fault_Code_8 .ret
def ac_fault_Code_10 : AC := .cond (.t 8) ac_fault_Code_9 .skip
def ac_fault_Code_11 : AC := .seq ac_fault_Code_7 ac_fault_Code_10
def ac_fault_Code_12 : AC := .seq ac_fault_Code_6 ac_fault_Code_11
def l_fault_Code_13 : List AOp := [⟨(some 2), .mv (.k (.int .i64 8)), none, none, [], none⟩]
def ac_fault_Code_13 : AC := .reg l_fault_Code_13
def ac_fault_Code_14 : AC := .seq ac_fault_Code_13 .ret
def ac_fault_Code_15 : AC := .seq ac_fault_Code_12 ac_fault_Code_14
def ac_fault_Code_16 : AC := .seq ac_fault_Code_5 ac_fault_Code_15
def ac_fault_Code_17 : AC := .seq ac_fault_Code_0 ac_fault_Code_16
def ac_fault_Code : AC := ac_fault_Code_17
theorem comp_fault_Code : compF Tryd.prog [1000024] (drawR Tryd.prog [1000024] Tryd.f11.ntmps) [] 1 Tryd.f11 = some (ac_fault_Code, [.t 2]) := by kernel_rfl
def U_fault_Code := (And.intro (And.intro (And.intro (And.intro (And.intro @ac_fault_Code.eq_1 (@mR _ _ ac_fault_Code_0.eq_1)) (And.intro (@mR _ _ ac_fault_Code_1.eq_1) (@mR _ _ ac_fault_Code_2.eq_1))) (And.intro (And.intro (@mU _ _ ac_fault_Code_3.eq_1) (@mU _ _ ac_fault_Code_4.eq_1)) (@mU _ _ ac_fault_Code_5.eq_1))) (And.intro (And.intro (And.intro (@mR _ _ ac_fault_Code_6.eq_1) (@mR _ _ ac_fault_Code_7.eq_1)) (@mR _ _ ac_fault_Code_8.eq_1)) (And.intro (And.intro (@mU _ _ ac_fault_Code_9.eq_1) (@mU _ _ ac_fault_Code_10.eq_1)) (@mU _ _ ac_fault_Code_11.eq_1)))) (And.intro (And.intro (And.intro (And.intro (@mU _ _ ac_fault_Code_12.eq_1) (@mR _ _ ac_fault_Code_13.eq_1)) (And.intro (@mU _ _ ac_fault_Code_14.eq_1) (@mU _ _ ac_fault_Code_15.eq_1))) (And.intro (And.intro (@mU _ _ ac_fault_Code_16.eq_1) (@mU _ _ ac_fault_Code_17.eq_1)) @l_fault_Code_0.eq_1)) (And.intro (And.intro (And.intro @l_fault_Code_1.eq_1 @l_fault_Code_2.eq_1) @l_fault_Code_6.eq_1) (And.intro (And.intro @l_fault_Code_7.eq_1 @l_fault_Code_8.eq_1) @l_fault_Code_13.eq_1))))

/- (*scoria/nand.Nand).Up -/
def l_nand_Nand_Up_0 : List AOp := [⟨(some 2), .mv (.t 0), none, none, [], none⟩,
  ⟨(some 3), .isn .p true (.t 2), none, none, [], none⟩]
def ac_nand_Nand_Up_0 : AC := .reg l_nand_Nand_Up_0
def l_nand_Nand_Up_1 : List AOp := [⟨(some 4), .mv (.t 0), none, none, [], none⟩,
  ⟨(some 5), .mv (.t 0), none, none, [], none⟩,
  ⟨(some 6), .nilck (.t 4), none, none, [], none⟩,
  ⟨(some 7), .faddr 5 (.t 6), none, none, [], none⟩,
  ⟨none, .store 1 (.t 7) (.k (.bool false)), none, none, [], none⟩,
  ⟨(some 8), .nilck (.t 5), none, none, [], none⟩,
  ⟨(some 9), .faddr 4 (.t 8), none, none, [], none⟩,
  ⟨none, .store 1 (.t 9) (.k .nils), none, none, [], none⟩]
def ac_nand_Nand_Up_1 : AC := .reg l_nand_Nand_Up_1
def ac_nand_Nand_Up_2 : AC := .cond (.t 3) ac_nand_Nand_Up_1 .skip
def ac_nand_Nand_Up_3 : AC := .seq ac_nand_Nand_Up_0 ac_nand_Nand_Up_2
def ac_nand_Nand_Up : AC := ac_nand_Nand_Up_3
theorem comp_nand_Nand_Up : compF Tryd.prog [] (drawR Tryd.prog [] Tryd.f12.ntmps) [] 1 Tryd.f12 = some (ac_nand_Nand_Up, []) := by kernel_rfl
def U_nand_Nand_Up := (And.intro (And.intro (And.intro @ac_nand_Nand_Up.eq_1 (@mR _ _ ac_nand_Nand_Up_0.eq_1)) (And.intro (@mR _ _ ac_nand_Nand_Up_1.eq_1) (@mU _ _ ac_nand_Nand_Up_2.eq_1))) (And.intro (And.intro (@mU _ _ ac_nand_Nand_Up_3.eq_1) @l_nand_Nand_Up_0.eq_1) @l_nand_Nand_Up_1.eq_1))

/- (*scoria/nand.Nand).Read -/
def l_nand_Nand_Read_0 : List AOp := [⟨(some 4), .mv (.k (.str [])), none, none, [], none⟩,
  ⟨(some 5), .mv (.k .nili), none, none, [], none⟩]
def ac_nand_Nand_Read_0 : AC := .reg l_nand_Nand_Read_0
def l_nand_Nand_Read_1 : List AOp := [⟨(some 9), .mv (.t 0), none, none, [], none⟩,
  ⟨(some 10), .mv (.t 1), none, none, [], none⟩,
  ⟨(some 11), .icall 25 [(.t 9), (.t 10)], none, none, [], none⟩,
  ⟨(some 8), .mv (.t 11), none, none, [], none⟩,
  ⟨(some 12), .ext 0 (.t 8), none, none, [], none⟩,
  ⟨(some 13), .ext 1 (.t 8), none, none, [], none⟩,
  ⟨(some 6), .mv (.t 12), none, none, [], none⟩,
  ⟨(some 7), .mv (.t 13), none, none, [], none⟩]
def ac_nand_Nand_Read_1 : AC := .reg l_nand_Nand_Read_1
def l_nand_Nand_Read_2 : List AOp := [⟨(some 14), .mv (.t 6), none, none, [], none⟩,
  ⟨(some 15), .mv (.t 1), none, none, [], none⟩,
  ⟨(some 16), .mv (.t 7), none, none, [], none⟩,
  ⟨(some 17), .icall 22 [(.k (.str [114, 101, 97, 100])), (.t 15), (.t 16)], none, none, [], none⟩,
  ⟨(some 4), .mv (.t 14), none, none, [], none⟩,
  ⟨(some 5), .mv (.t 17), none, none, [], none⟩]
def ac_nand_Nand_Read_2 : AC := .reg l_nand_Nand_Read_2
def ac_nand_Nand_Read_3 : AC := .seq ac_nand_Nand_Read_2 .ret
def ac_nand_Nand_Read_4 : AC := .seq ac_nand_Nand_Read_1 ac_nand_Nand_Read_3
def ac_nand_Nand_Read_5 : AC := .seq ac_nand_Nand_Read_0 ac_nand_Nand_Read_4
def ac_nand_Nand_Read : AC := ac_nand_Nand_Read_5
theorem comp_nand_Nand_Read : compF Tryd.prog [1000025, 1000022] (drawR Tryd.prog [1000025, 1000022] Tryd.f13.ntmps) [] 2 Tryd.f13 = some (ac_nand_Nand_Read, [.t 4, .t 5]) := by kernel_rfl
def U_nand_Nand_Read := (And.intro (And.intro (And.intro (And.intro @ac_nand_Nand_Read.eq_1 (@mR _ _ ac_nand_Nand_Read_0.eq_1)) (@mR _ _ ac_nand_Nand_Read_1.eq_1)) (And.intro (@mR _ _ ac_nand_Nand_Read_2.eq_1) (@mU _ _ ac_nand_Nand_Read_3.eq_1))) (And.intro (And.intro (And.intro (@mU _ _ ac_nand_Nand_Read_4.eq_1) (@mU _ _ ac_nand_Nand_Read_5.eq_1)) @l_nand_Nand_Read_0.eq_1) (And.intro @l_nand_Nand_Read_1.eq_1 @l_nand_Nand_Read_2.eq_1)))

/- (*scoria/nand.Nand).Erase -/
def l_nand_Nand_Erase_0 : List AOp := [⟨(some 4), .mv (.k .nili), none, none, [], none⟩]
def ac_nand_Nand_Erase_0 : AC := .reg l_nand_Nand_Erase_0
def l_nand_Nand_Erase_1 : List AOp := [⟨(some 5), .mv (.t 1), none, none, [], none⟩,
  ⟨(some 6), .mv (.t 0), none, none, [], none⟩,
  ⟨(some 7), .mv (.t 1), none, none, [], none⟩,
  ⟨(some 8), .icall 28 [(.t 6), (.t 7)], none, none, [], none⟩,
  ⟨(some 9), .icall 22 [(.k (.str [101, 114, 97, 115, 101])), (.t 5), (.t 8)], none, none, [], none⟩,
  ⟨(some 4), .mv (.t 9), none, none, [], none⟩]
def ac_nand_Nand_Erase_1 : AC := .reg l_nand_Nand_Erase_1
def ac_nand_Nand_Erase_2 : AC := .seq ac_nand_Nand_Erase_1 .ret
def ac_nand_Nand_Erase_3 : AC := .seq ac_nand_Nand_Erase_0 ac_nand_Nand_Erase_2
def ac_nand_Nand_Erase : AC := ac_nand_Nand_Erase_3
theorem comp_nand_Nand_Erase : compF Tryd.prog [1000028, 1000022] (drawR Tryd.prog [1000028, 1000022] Tryd.f15.ntmps) [] 2 Tryd.f15 = some (ac_nand_Nand_Erase, [.t 4]) := by kernel_rfl
def U_nand_Nand_Erase := (And.intro (And.intro (And.intro @ac_nand_Nand_Erase.eq_1 (@mR _ _ ac_nand_Nand_Erase_0.eq_1)) (And.intro (@mR _ _ ac_nand_Nand_Erase_1.eq_1) (@mU _ _ ac_nand_Nand_Erase_2.eq_1))) (And.intro (And.intro (@mU _ _ ac_nand_Nand_Erase_3.eq_1) @l_nand_Nand_Erase_0.eq_1) @l_nand_Nand_Erase_1.eq_1))

/- (*scoria/nand.Nand).Bad -/
def l_nand_Nand_Bad_0 : List AOp := [⟨(some 4), .mv (.k (.bool false)), none, none, [], none⟩]
def ac_nand_Nand_Bad_0 : AC := .reg l_nand_Nand_Bad_0
def l_nand_Nand_Bad_1 : List AOp := [⟨(some 5), .mv (.t 0), none, none, [], none⟩,
  ⟨(some 6), .mv (.t 1), none, none, [], none⟩,
  ⟨(some 7), .rcall 29 [(.t 5), (.t 6)], none, none, [], none⟩,
  ⟨(some 8), .mv (.t 7), none, none, [], none⟩,
  ⟨(some 9), .mv (.t 0), (some (8, true)), none, [], none⟩,
  ⟨(some 10), .nilck (.t 9), (some (8, true)), none, [], none⟩,
  ⟨(some 11), .faddr 2 (.t 10), (some (8, true)), none, [], none⟩,
  ⟨(some 12), .load none (.t 11), (some (8, true)), none, [], none⟩,
  ⟨(some 13), .mv (.t 1), (some (8, true)), none, [], none⟩,
  ⟨(some 14), .isl 3 (.t 12) (.t 13), (some (8, true)), none, [], none⟩,
  ⟨(some 15), .faddr 2 (.t 14), (some (8, true)), none, [], none⟩,
  ⟨(some 16), .load none (.t 15), (some (8, true)), none, [], none⟩,
  ⟨(some 17), .pick (.t 8) (.t 16) (.k (.bool false)), none, none, [], none⟩,
  ⟨(some 4), .mv (.t 17), none, none, [], none⟩]
def ac_nand_Nand_Bad_1 : AC := .reg l_nand_Nand_Bad_1
def ac_nand_Nand_Bad_2 : AC := .seq ac_nand_Nand_Bad_1 .ret
def ac_nand_Nand_Bad_3 : AC := .seq ac_nand_Nand_Bad_0 ac_nand_Nand_Bad_2
def ac_nand_Nand_Bad : AC := ac_nand_Nand_Bad_3
theorem comp_nand_Nand_Bad : compF Tryd.prog [4000029] (drawR Tryd.prog [4000029] Tryd.f16.ntmps) [] 2 Tryd.f16 = some (ac_nand_Nand_Bad, [.t 4]) := by kernel_rfl
def U_nand_Nand_Bad := (And.intro (And.intro (And.intro @ac_nand_Nand_Bad.eq_1 (@mR _ _ ac_nand_Nand_Bad_0.eq_1)) (And.intro (@mR _ _ ac_nand_Nand_Bad_1.eq_1) (@mU _ _ ac_nand_Nand_Bad_2.eq_1))) (And.intro (And.intro (@mU _ _ ac_nand_Nand_Bad_3.eq_1) @l_nand_Nand_Bad_0.eq_1) @l_nand_Nand_Bad_1.eq_1))

/- scoria/nand.in -/
def l_nand_in_0 : List AOp := [⟨(some 6), .mv (.k (.bool false)), none, none, [], none⟩]
def ac_nand_in_0 : AC := .reg l_nand_in_0
def l_nand_in_1 : List AOp := [⟨(some 7), .mv (.t 0), none, none, [], none⟩,
  ⟨(some 8), .mv (.t 1), none, none, [], none⟩,
  ⟨(some 9), .bin .geq (.t 7) (.t 8), none, none, [], none⟩,
  ⟨(some 10), .mv (.t 9), none, none, [], none⟩,
  ⟨(some 11), .mv (.t 0), (some (10, true)), none, [], none⟩,
  ⟨(some 12), .mv (.t 2), (some (10, true)), none, [], none⟩,
  ⟨(some 13), .bin .leq (.t 11) (.t 12), (some (10, true)), none, [], none⟩,
  ⟨(some 14), .pick (.t 10) (.t 13) (.k (.bool false)), none, none, [], none⟩,
  ⟨(some 6), .mv (.t 14), none, none, [], none⟩]
def ac_nand_in_1 : AC := .reg l_nand_in_1
def ac_nand_in_2 : AC := .seq ac_nand_in_1 .ret
def ac_nand_in_3 : AC := .seq ac_nand_in_0 ac_nand_in_2
def ac_nand_in : AC := ac_nand_in_3
theorem comp_nand_in : compF Tryd.prog [] (drawR Tryd.prog [] Tryd.f21.ntmps) [] 3 Tryd.f21 = some (ac_nand_in, [.t 6]) := by kernel_rfl
def U_nand_in := (And.intro (And.intro (And.intro @ac_nand_in.eq_1 (@mR _ _ ac_nand_in_0.eq_1)) (And.intro (@mR _ _ ac_nand_in_1.eq_1) (@mU _ _ ac_nand_in_2.eq_1))) (And.intro (And.intro (@mU _ _ ac_nand_in_3.eq_1) @l_nand_in_0.eq_1) @l_nand_in_1.eq_1))

/- scoria/fault.Wrap -/
def l_fault_Wrap_0 : List AOp := [⟨(some 6), .mv (.k .nili), none, none, [], none⟩]
def ac_fault_Wrap_0 : AC := .reg l_fault_Wrap_0
def l_fault_Wrap_1 : List AOp := [⟨(some 7), .mv (.t 2), none, none, [], none⟩,
  ⟨(some 8), .isn .i false (.t 7), none, none, [], none⟩]
def ac_fault_Wrap_1 : AC := .reg l_fault_Wrap_1
def l_fault_Wrap_2 : List AOp := [⟨(some 6), .mv (.k .nili), none, none, [], none⟩]
def ac_fault_Wrap_2 : AC := .reg l_fault_Wrap_2
def ac_fault_Wrap_3 : AC := .seq ac_fault_Wrap_2 .ret
def ac_fault_Wrap_4 : AC := .cond (.t 8) ac_fault_Wrap_3 .skip
def ac_fault_Wrap_5 : AC := .seq ac_fault_Wrap_1 ac_fault_Wrap_4
def l_fault_Wrap_6 : List AOp := [⟨(some 9), .mv (.t 0), none, none, [], none⟩,
  ⟨(some 10), .mv (.t 1), none, none, [], none⟩,
  ⟨(some 11), .build [(.str []), (.int .i64 0)] [(0, 1, (.t 9)), (1, 1, (.t 10))], none, none, [], none⟩,
  ⟨(some 12), .mv (.t 2), none, none, [], none⟩,
  ⟨(some 13), .build [(.str []), (.int .i64 0), .nili] [(0, 2, (.t 11)), (2, 1, (.t 12))], none, none, [], none⟩,
  ⟨(some 14), .box (.t 13), none, none, [], none⟩,
  ⟨(some 15), .mki 85 (.t 14), none, none, [], none⟩,
  ⟨(some 6), .mv (.t 15), none, none, [], none⟩]
def ac_fault_Wrap_6 : AC := .reg l_fault_Wrap_6
def ac_fault_Wrap_7 : AC := .seq ac_fault_Wrap_6 .ret
def ac_fault_Wrap_8 : AC := .seq ac_fault_Wrap_5 ac_fault_Wrap_7
def ac_fault_Wrap_9 : AC := .seq ac_fault_Wrap_0 ac_fault_Wrap_8
def ac_fault_Wrap : AC := ac_fault_Wrap_9
theorem comp_fault_Wrap : compF Tryd.prog [] (drawR Tryd.prog [] Tryd.f22.ntmps) [] 3 Tryd.f22 = some (ac_fault_Wrap, [.t 6]) := by kernel_rfl
def U_fault_Wrap := (And.intro (And.intro (And.intro (And.intro @ac_fault_Wrap.eq_1 (@mR _ _ ac_fault_Wrap_0.eq_1)) (And.intro (@mR _ _ ac_fault_Wrap_1.eq_1) (@mR _ _ ac_fault_Wrap_2.eq_1))) (And.intro (And.intro (@mU _ _ ac_fault_Wrap_3.eq_1) (@mU _ _ ac_fault_Wrap_4.eq_1)) (And.intro (@mU _ _ ac_fault_Wrap_5.eq_1) (@mR _ _ ac_fault_Wrap_6.eq_1)))) (And.intro (And.intro (And.intro (@mU _ _ ac_fault_Wrap_7.eq_1) (@mU _ _ ac_fault_Wrap_8.eq_1)) (And.intro (@mU _ _ ac_fault_Wrap_9.eq_1) @l_fault_Wrap_0.eq_1)) (And.intro (And.intro @l_fault_Wrap_1.eq_1 @l_fault_Wrap_2.eq_1) @l_fault_Wrap_6.eq_1)))

/- (*scoria/nand.Nand).program -/
def l_nand_Nand_program_0 : List AOp := [⟨(some 3), .box (.t 0), none, none, [], none⟩,
  ⟨(some 4), .box (.t 1), none, none, [], none⟩,
  ⟨(some 5), .box (.t 2), none, none, [], none⟩,
  ⟨(some 6), .mv (.k .nili), none, none, [], none⟩]
def ac_nand_Nand_program_0 : AC := .reg l_nand_Nand_program_0
def l_nand_Nand_program_1 : List AOp := [⟨(some 10), .load none (.t 3), none, none, [], none⟩,
  ⟨(some 11), .mkfn (.func 39) [] [(.t 3), (.t 4), (.t 5)], none, none, [], none⟩,
  ⟨(some 12), .icall 38 [(.t 10), (.t 11)], none, none, [], none⟩,
  ⟨(some 7), .mv (.t 12), none, none, [], none⟩]
def ac_nand_Nand_program_1 : AC := .reg l_nand_Nand_program_1
def l_nand_Nand_program_2 : List AOp := [⟨(some 13), .mv (.t 7), none, none, [], none⟩,
  ⟨(some 14), .isn .i true (.t 13), none, none, [], none⟩]
def ac_nand_Nand_program_2 : AC := .reg l_nand_Nand_program_2
def l_nand_Nand_program_3 : List AOp := [⟨(some 15), .mv (.t 7), none, none, [], none⟩,
  ⟨(some 6), .mv (.t 15), none, none, [], none⟩]
def ac_nand_Nand_program_3 : AC := .reg l_nand_Nand_program_3
def ac_nand_Nand_program_4 : AC := .seq ac_nand_Nand_program_3 .ret
def ac_nand_Nand_program_5 : AC := .cond (.t 14) ac_nand_Nand_program_4 .skip
def ac_nand_Nand_program_6 : AC := .seq ac_nand_Nand_program_2 ac_nand_Nand_program_5
def ac_nand_Nand_program_7 : AC := .seq ac_nand_Nand_program_1 ac_nand_Nand_program_6
def l_nand_Nand_program_8 : List AOp := [⟨(some 16), .load none (.t 3), none, none, [], none⟩,
  ⟨(some 17), .nilck (.t 16), none, none, [], none⟩,
  ⟨(some 18), .faddr 2 (.t 17), none, none, [], none⟩,
  ⟨(some 19), .load none (.t 18), none, none, [], none⟩,
  ⟨(some 20), .load none (.t 4), none, none, [], none⟩,
  ⟨(some 21), .load none (.t 3), none, none, [], none⟩,
  ⟨(some 22), .nilck (.t 21), none, none, [], none⟩,
  ⟨(some 23), .faddr 0 (.t 22), none, none, [], none⟩,
  ⟨(some 24), .faddr 1 (.t 23), none, none, [], none⟩,
  ⟨(some 25), .load none (.t 24), none, none, [], none⟩,
  ⟨(some 26), .bin .quo (.t 20) (.t 25), none, none, [], none⟩,
  ⟨(some 27), .isl 3 (.t 19) (.t 26), none, none, [], none⟩,
  ⟨(some 8), .mv (.t 27), none, none, [], none⟩]
def ac_nand_Nand_program_8 : AC := .dreg 0 l_nand_Nand_program_8
def l_nand_Nand_program_9 : List AOp := [⟨(some 29), .mv (.t 8), none, none, [], none⟩,
  ⟨(some 30), .nilck (.t 29), none, none, [], none⟩,
  ⟨(some 31), .faddr 2 (.t 30), none, none, [], none⟩,
  ⟨(some 32), .load none (.t 31), none, none, [], none⟩,
  ⟨(some 28), .mv (.t 32), none, none, [], none⟩]
def ac_nand_Nand_program_9 : AC := .reg l_nand_Nand_program_9
def l_nand_Nand_program_10 : List AOp := [⟨(some 33), .mki 26 (.k (.int .i64 41)), none, none, [], none⟩,
  ⟨(some 6), .mv (.t 33), none, none, [], none⟩]
def ac_nand_Nand_program_10 : AC := .reg l_nand_Nand_program_10
def ac_nand_Nand_program_11 : AC := .seq ac_nand_Nand_program_10 .ret
def l_nand_Nand_program_12 : List AOp := [⟨(some 35), .load none (.t 4), none, none, [], none⟩,
  ⟨(some 36), .load none (.t 3), none, none, [], none⟩,
  ⟨(some 37), .nilck (.t 36), none, none, [], none⟩,
  ⟨(some 38), .faddr 0 (.t 37), none, none, [], none⟩,
  ⟨(some 39), .faddr 1 (.t 38), none, none, [], none⟩,
  ⟨(some 40), .load none (.t 39), none, none, [], none⟩,
  ⟨(some 41), .bin .rem (.t 35) (.t 40), none, none, [], none⟩,
  ⟨(some 42), .mv (.t 8), none, none, [], none⟩,
  ⟨(some 43), .nilck (.t 42), none, none, [], none⟩,
  ⟨(some 44), .faddr 0 (.t 43), none, none, [], none⟩,
  ⟨(some 45), .load none (.t 44), none, none, [], none⟩,
  ⟨(some 46), .len (.t 45), none, none, [], none⟩,
  ⟨(some 47), .bin .neq (.t 41) (.t 46), none, none, [], none⟩,
  ⟨(some 34), .mv (.t 47), none, none, [], none⟩]
def ac_nand_Nand_program_12 : AC := .dreg 0 l_nand_Nand_program_12
def l_nand_Nand_program_13 : List AOp := [⟨(some 48), .mki 26 (.k (.int .i64 40)), none, none, [], none⟩,
  ⟨(some 6), .mv (.t 48), none, none, [], none⟩]
def ac_nand_Nand_program_13 : AC := .reg l_nand_Nand_program_13
def ac_nand_Nand_program_14 : AC := .seq ac_nand_Nand_program_13 .ret
def ac_nand_Nand_program_15 : AC := .cond (.t 34) ac_nand_Nand_program_14 .skip
def ac_nand_Nand_program_16 : AC := .seq ac_nand_Nand_program_12 ac_nand_Nand_program_15
def ac_nand_Nand_program_17 : AC := .cond (.t 28) ac_nand_Nand_program_11 ac_nand_Nand_program_16
def ac_nand_Nand_program_18 : AC := .seq ac_nand_Nand_program_9 ac_nand_Nand_program_17
def ac_nand_Nand_program_19 : AC := .block 0 ac_nand_Nand_program_18
def l_nand_Nand_program_20 : List AOp := [⟨(some 49), .load none (.t 3), none, none, [], none⟩,
  ⟨(some 50), .icall 41 [(.t 49)], none, none, [], none⟩,
  ⟨(some 9), .alloc [(.int .i64 0), (.int .i64 0), (.int .i64 0), (.str [])], none, none, [], none⟩,
  ⟨none, .store 4 (.t 9) (.t 50), none, none, [], none⟩]
def ac_nand_Nand_program_20 : AC := .reg l_nand_Nand_program_20
def l_nand_Nand_program_21 : List AOp := [⟨(some 51), .faddr 1 (.t 9), none, none, [], none⟩,
  ⟨(some 52), .load none (.t 51), none, none, [], none⟩]
def ac_nand_Nand_program_21 : AC := .reg l_nand_Nand_program_21
def l_nand_Nand_program_22 : List AOp := [⟨(some 54), .bin .eql (.t 52) (.k (.int .i64 1)), none, none, [], none⟩,
  ⟨(some 53), .mv (.t 54), none, none, [], none⟩]
def ac_nand_Nand_program_22 : AC := .reg l_nand_Nand_program_22
def l_nand_Nand_program_23 : List AOp := [⟨(some 55), .mv (.t 8), none, none, [], none⟩,
  ⟨(some 56), .mv (.t 8), none, none, [], none⟩,
  ⟨(some 57), .nilck (.t 56), none, none, [], none⟩,
  ⟨(some 58), .faddr 0 (.t 57), none, none, [], none⟩,
  ⟨(some 59), .load none (.t 58), none, none, [0], none⟩,
  ⟨(some 60), .load (some 4) (.t 9), none, none, [0], none⟩,
  ⟨(some 61), .load none (.t 5), none, none, [0], none⟩,
  ⟨(some 62), .call false 42 [(.t 60), (.t 61)], none, none, [0], none⟩,
  ⟨(some 63), .blds false [(.str [])] 1 [(0, (.t 62))], none, none, [0], none⟩,
  ⟨(some 64), .app 1 16 [(.str [])] (.t 59) (.t 63), none, (some 0), [], none⟩,
  ⟨(some 65), .nilck (.t 55), none, none, [], none⟩,
  ⟨(some 66), .faddr 0 (.t 65), none, none, [], none⟩,
  ⟨none, .store 1 (.t 66) (.t 64), none, none, [], none⟩]
def ac_nand_Nand_program_23 : AC := .dreg 1 l_nand_Nand_program_23
def l_nand_Nand_program_24 : List AOp := [⟨(some 67), .load none (.t 3), none, none, [], none⟩,
  ⟨(some 68), .nilck (.t 67), none, none, [], none⟩,
  ⟨(some 69), .faddr 5 (.t 68), none, none, [], none⟩,
  ⟨none, .store 1 (.t 69) (.k (.bool true)), none, none, [], none⟩]
def ac_nand_Nand_program_24 : AC := .reg l_nand_Nand_program_24
def l_nand_Nand_program_25 : List AOp := [⟨(some 70), .mki 26 (.k (.int .i64 9)), none, none, [], none⟩,
  ⟨(some 6), .mv (.t 70), none, none, [], none⟩]
def ac_nand_Nand_program_25 : AC := .reg l_nand_Nand_program_25
def ac_nand_Nand_program_26 : AC := .seq ac_nand_Nand_program_25 .ret
def ac_nand_Nand_program_27 : AC := .seq ac_nand_Nand_program_24 ac_nand_Nand_program_26
def ac_nand_Nand_program_28 : AC := .seq ac_nand_Nand_program_23 ac_nand_Nand_program_27
def l_nand_Nand_program_29 : List AOp := [⟨(some 72), .bin .eql (.t 52) (.k (.int .i64 2)), none, none, [], none⟩,
  ⟨(some 71), .mv (.t 72), none, none, [], none⟩]
def ac_nand_Nand_program_29 : AC := .reg l_nand_Nand_program_29
def l_nand_Nand_program_30 : List AOp := [⟨(some 73), .mv (.t 8), none, none, [], none⟩,
  ⟨(some 74), .mv (.t 8), none, none, [], none⟩,
  ⟨(some 75), .nilck (.t 74), none, none, [], none⟩,
  ⟨(some 76), .faddr 0 (.t 75), none, none, [], none⟩,
  ⟨(some 77), .load none (.t 76), none, none, [0], none⟩,
  ⟨(some 78), .load (some 4) (.t 9), none, none, [0], none⟩,
  ⟨(some 79), .load none (.t 5), none, none, [0], none⟩,
  ⟨(some 80), .call false 42 [(.t 78), (.t 79)], none, none, [0], none⟩,
  ⟨(some 81), .blds false [(.str [])] 1 [(0, (.t 80))], none, none, [0], none⟩,
  ⟨(some 82), .app 1 16 [(.str [])] (.t 77) (.t 81), none, (some 0), [], none⟩,
  ⟨(some 83), .nilck (.t 73), none, none, [], none⟩,
  ⟨(some 84), .faddr 0 (.t 83), none, none, [], none⟩,
  ⟨none, .store 1 (.t 84) (.t 82), none, none, [], none⟩]
def ac_nand_Nand_program_30 : AC := .dreg 1 l_nand_Nand_program_30
def l_nand_Nand_program_31 : List AOp := [⟨(some 85), .mv (.t 8), none, none, [], none⟩,
  ⟨(some 86), .nilck (.t 85), none, none, [], none⟩,
  ⟨(some 87), .faddr 2 (.t 86), none, none, [], none⟩,
  ⟨none, .store 1 (.t 87) (.k (.bool true)), none, none, [], none⟩]
def ac_nand_Nand_program_31 : AC := .reg l_nand_Nand_program_31
def l_nand_Nand_program_32 : List AOp := [⟨(some 88), .mki 26 (.k (.int .i64 41)), none, none, [], none⟩,
  ⟨(some 6), .mv (.t 88), none, none, [], none⟩]
def ac_nand_Nand_program_32 : AC := .reg l_nand_Nand_program_32
def ac_nand_Nand_program_33 : AC := .seq ac_nand_Nand_program_32 .ret
def ac_nand_Nand_program_34 : AC := .seq ac_nand_Nand_program_31 ac_nand_Nand_program_33
def ac_nand_Nand_program_35 : AC := .seq ac_nand_Nand_program_30 ac_nand_Nand_program_34
def ac_nand_Nand_program_36 : AC := .cond (.t 71) ac_nand_Nand_program_35 .skip
def ac_nand_Nand_program_37 : AC := .seq ac_nand_Nand_program_29 ac_nand_Nand_program_36
def ac_nand_Nand_program_38 : AC := .cond (.t 53) ac_nand_Nand_program_28 ac_nand_Nand_program_37
def ac_nand_Nand_program_39 : AC := .seq ac_nand_Nand_program_22 ac_nand_Nand_program_38
def ac_nand_Nand_program_40 : AC := .block 1 ac_nand_Nand_program_39
def ac_nand_Nand_program_41 : AC := .seq ac_nand_Nand_program_21 ac_nand_Nand_program_40
def l_nand_Nand_program_42 : List AOp := [⟨(some 89), .mv (.t 8), none, none, [], none⟩,
  ⟨(some 90), .mv (.t 8), none, none, [], none⟩,
  ⟨(some 91), .nilck (.t 90), none, none, [], none⟩,
  ⟨(some 92), .faddr 0 (.t 91), none, none, [], none⟩,
  ⟨(some 93), .load none (.t 92), none, none, [0], none⟩,
  ⟨(some 94), .load none (.t 5), none, none, [0], none⟩,
  ⟨(some 95), .blds false [(.str [])] 1 [(0, (.t 94))], none, none, [0], none⟩,
  ⟨(some 96), .app 1 16 [(.str [])] (.t 93) (.t 95), none, (some 0), [], none⟩,
  ⟨(some 97), .nilck (.t 89), none, none, [], none⟩,
  ⟨(some 98), .faddr 0 (.t 97), none, none, [], none⟩,
  ⟨none, .store 1 (.t 98) (.t 96), none, none, [], none⟩]
def ac_nand_Nand_program_42 : AC := .dreg 1 l_nand_Nand_program_42
def l_nand_Nand_program_43 : List AOp := [⟨(some 6), .mv (.k .nili), none, none, [], none⟩]
def ac_nand_Nand_program_43 : AC := .reg l_nand_Nand_program_43
def ac_nand_Nand_program_44 : AC := .seq ac_nand_Nand_program_43 .ret
def ac_nand_Nand_program_45 : AC := .seq ac_nand_Nand_program_42 ac_nand_Nand_program_44
def ac_nand_Nand_program_46 : AC := .seq ac_nand_Nand_program_41 ac_nand_Nand_program_45
def ac_nand_Nand_program_47 : AC := .seq ac_nand_Nand_program_20 ac_nand_Nand_program_46
def ac_nand_Nand_program_48 : AC := .seq ac_nand_Nand_program_19 ac_nand_Nand_program_47
def ac_nand_Nand_program_49 : AC := .seq ac_nand_Nand_program_8 ac_nand_Nand_program_48
def ac_nand_Nand_program_50 : AC := .seq ac_nand_Nand_program_7 ac_nand_Nand_program_49
def ac_nand_Nand_program_51 : AC := .seq ac_nand_Nand_program_0 ac_nand_Nand_program_50
def ac_nand_Nand_program : AC := ac_nand_Nand_program_51
theorem comp_nand_Nand_program : compF Tryd.prog [1000038, 1000041] (drawR Tryd.prog [1000038, 1000041] Tryd.f23.ntmps) [] 3 Tryd.f23 = some (ac_nand_Nand_program, [.t 6]) := by kernel_rfl
def U_nand_Nand_program := (And.intro (And.intro (And.intro (And.intro (And.intro (And.intro (And.intro @ac_nand_Nand_program.eq_1 (@mR _ _ ac_nand_Nand_program_0.eq_1)) (@mR _ _ ac_nand_Nand_program_1.eq_1)) (And.intro (@mR _ _ ac_nand_Nand_program_2.eq_1) (@mR _ _ ac_nand_Nand_program_3.eq_1))) (And.intro (And.intro (And.intro (@mU _ _ ac_nand_Nand_program_4.eq_1) (@mU _ _ ac_nand_Nand_program_5.eq_1)) (@mU _ _ ac_nand_Nand_program_6.eq_1)) (And.intro (@mU _ _ ac_nand_Nand_program_7.eq_1) (@mD _ _ _ ac_nand_Nand_program_8.eq_1)))) (And.intro (And.intro (And.intro (And.intro (@mR _ _ ac_nand_Nand_program_9.eq_1) (@mR _ _ ac_nand_Nand_program_10.eq_1)) (@mU _ _ ac_nand_Nand_program_11.eq_1)) (And.intro (@mD _ _ _ ac_nand_Nand_program_12.eq_1) (@mR _ _ ac_nand_Nand_program_13.eq_1))) (And.intro (And.intro (@mU _ _ ac_nand_Nand_program_14.eq_1) (@mU _ _ ac_nand_Nand_program_15.eq_1)) (And.intro (@mU _ _ ac_nand_Nand_program_16.eq_1) (@mU _ _ ac_nand_Nand_program_17.eq_1))))) (And.intro (And.intro (And.intro (And.intro (And.intro (@mU _ _ ac_nand_Nand_program_18.eq_1) (@mU _ _ ac_nand_Nand_program_19.eq_1)) (@mR _ _ ac_nand_Nand_program_20.eq_1)) (And.intro (@mR _ _ ac_nand_Nand_program_21.eq_1) (@mR _ _ ac_nand_Nand_program_22.eq_1))) (And.intro (And.intro (@mD _ _ _ ac_nand_Nand_program_23.eq_1) (@mR _ _ ac_nand_Nand_program_24.eq_1)) (And.intro (@mR _ _ ac_nand_Nand_program_25.eq_1) (@mU _ _ ac_nand_Nand_program_26.eq_1)))) (And.intro (And.intro (And.intro (And.intro (@mU _ _ ac_nand_Nand_program_27.eq_1) (@mU _ _ ac_nand_Nand_program_28.eq_1)) (@mR _ _ ac_nand_Nand_program_29.eq_1)) (And.intro (@mD _ _ _ ac_nand_Nand_program_30.eq_1) (@mR _ _ ac_nand_Nand_program_31.eq_1))) (And.intro (And.intro (@mR _ _ ac_nand_Nand_program_32.eq_1) (@mU _ _ ac_nand_Nand_program_33.eq_1)) (And.intro (@mU _ _ ac_nand_Nand_program_34.eq_1) (@mU _ _ ac_nand_Nand_program_35.eq_1)))))) (And.intro (And.intro (And.intro (And.intro (And.intro (And.intro (@mU _ _ ac_nand_Nand_program_36.eq_1) (@mU _ _ ac_nand_Nand_program_37.eq_1)) (@mU _ _ ac_nand_Nand_program_38.eq_1)) (And.intro (@mU _ _ ac_nand_Nand_program_39.eq_1) (@mU _ _ ac_nand_Nand_program_40.eq_1))) (And.intro (And.intro (And.intro (@mU _ _ ac_nand_Nand_program_41.eq_1) (@mD _ _ _ ac_nand_Nand_program_42.eq_1)) (@mR _ _ ac_nand_Nand_program_43.eq_1)) (And.intro (@mU _ _ ac_nand_Nand_program_44.eq_1) (@mU _ _ ac_nand_Nand_program_45.eq_1)))) (And.intro (And.intro (And.intro (And.intro (@mU _ _ ac_nand_Nand_program_46.eq_1) (@mU _ _ ac_nand_Nand_program_47.eq_1)) (@mU _ _ ac_nand_Nand_program_48.eq_1)) (And.intro (@mU _ _ ac_nand_Nand_program_49.eq_1) (@mU _ _ ac_nand_Nand_program_50.eq_1))) (And.intro (And.intro (@mU _ _ ac_nand_Nand_program_51.eq_1) @l_nand_Nand_program_0.eq_1) (And.intro @l_nand_Nand_program_1.eq_1 @l_nand_Nand_program_2.eq_1)))) (And.intro (And.intro (And.intro (And.intro (And.intro @l_nand_Nand_program_3.eq_1 @l_nand_Nand_program_8.eq_1) @l_nand_Nand_program_9.eq_1) (And.intro @l_nand_Nand_program_10.eq_1 @l_nand_Nand_program_12.eq_1)) (And.intro (And.intro @l_nand_Nand_program_13.eq_1 @l_nand_Nand_program_20.eq_1) (And.intro @l_nand_Nand_program_21.eq_1 @l_nand_Nand_program_22.eq_1))) (And.intro (And.intro (And.intro (And.intro @l_nand_Nand_program_23.eq_1 @l_nand_Nand_program_24.eq_1) @l_nand_Nand_program_25.eq_1) (And.intro @l_nand_Nand_program_29.eq_1 @l_nand_Nand_program_30.eq_1)) (And.intro (And.intro @l_nand_Nand_program_31.eq_1 @l_nand_Nand_program_32.eq_1) (And.intro @l_nand_Nand_program_42.eq_1 @l_nand_Nand_program_43.eq_1))))))

/- (*scoria/nand.Nand).read -/
def l_nand_Nand_read_0 : List AOp := [⟨(some 2), .box (.t 0), none, none, [], none⟩,
  ⟨(some 3), .box (.t 1), none, none, [], none⟩,
  ⟨(some 4), .mv (.k (.str [])), none, none, [], none⟩,
  ⟨(some 5), .mv (.k .nili), none, none, [], none⟩]
def ac_nand_Nand_read_0 : AC := .reg l_nand_Nand_read_0
def l_nand_Nand_read_1 : List AOp := [⟨(some 9), .load none (.t 2), none, none, [], none⟩,
  ⟨(some 10), .mkfn (.func 47) [] [(.t 2), (.t 3)], none, none, [], none⟩,
  ⟨(some 11), .icall 38 [(.t 9), (.t 10)], none, none, [], none⟩,
  ⟨(some 6), .mv (.t 11), none, none, [], none⟩]
def ac_nand_Nand_read_1 : AC := .reg l_nand_Nand_read_1
def l_nand_Nand_read_2 : List AOp := [⟨(some 12), .mv (.t 6), none, none, [], none⟩,
  ⟨(some 13), .isn .i true (.t 12), none, none, [], none⟩]
def ac_nand_Nand_read_2 : AC := .reg l_nand_Nand_read_2
def l_nand_Nand_read_3 : List AOp := [⟨(some 14), .mv (.t 6), none, none, [], none⟩,
  ⟨(some 4), .mv (.k (.str [])), none, none, [], none⟩,
  ⟨(some 5), .mv (.t 14), none, none, [], none⟩]
def ac_nand_Nand_read_3 : AC := .reg l_nand_Nand_read_3
def ac_nand_Nand_read_4 : AC := .seq ac_nand_Nand_read_3 .ret
def ac_nand_Nand_read_5 : AC := .cond (.t 13) ac_nand_Nand_read_4 .skip
def ac_nand_Nand_read_6 : AC := .seq ac_nand_Nand_read_2 ac_nand_Nand_read_5
def ac_nand_Nand_read_7 : AC := .seq ac_nand_Nand_read_1 ac_nand_Nand_read_6
def l_nand_Nand_read_8 : List AOp := [⟨(some 15), .load none (.t 2), none, none, [], none⟩,
  ⟨(some 16), .nilck (.t 15), none, none, [], none⟩,
  ⟨(some 17), .faddr 2 (.t 16), none, none, [], none⟩,
  ⟨(some 18), .load none (.t 17), none, none, [], none⟩,
  ⟨(some 19), .load none (.t 3), none, none, [], none⟩,
  ⟨(some 20), .load none (.t 2), none, none, [], none⟩,
  ⟨(some 21), .nilck (.t 20), none, none, [], none⟩,
  ⟨(some 22), .faddr 0 (.t 21), none, none, [], none⟩,
  ⟨(some 23), .faddr 1 (.t 22), none, none, [], none⟩,
  ⟨(some 24), .load none (.t 23), none, none, [], none⟩,
  ⟨(some 25), .bin .quo (.t 19) (.t 24), none, none, [], none⟩,
  ⟨(some 26), .isl 3 (.t 18) (.t 25), none, none, [], none⟩,
  ⟨(some 27), .load none (.t 3), none, none, [], none⟩,
  ⟨(some 28), .load none (.t 2), none, none, [], none⟩,
  ⟨(some 29), .nilck (.t 28), none, none, [], none⟩,
  ⟨(some 30), .faddr 0 (.t 29), none, none, [], none⟩,
  ⟨(some 31), .faddr 1 (.t 30), none, none, [], none⟩,
  ⟨(some 32), .load none (.t 31), none, none, [], none⟩,
  ⟨(some 33), .bin .rem (.t 27) (.t 32), none, none, [], none⟩,
  ⟨(some 7), .mv (.t 26), none, none, [], none⟩,
  ⟨(some 8), .mv (.t 33), none, none, [], none⟩]
def ac_nand_Nand_read_8 : AC := .dreg 0 l_nand_Nand_read_8
def l_nand_Nand_read_9 : List AOp := [⟨(some 34), .mv (.t 8), none, none, [], none⟩,
  ⟨(some 35), .mv (.t 7), none, none, [], none⟩,
  ⟨(some 36), .nilck (.t 35), none, none, [], none⟩,
  ⟨(some 37), .faddr 0 (.t 36), none, none, [], none⟩,
  ⟨(some 38), .load none (.t 37), none, none, [], none⟩,
  ⟨(some 39), .len (.t 38), none, none, [], none⟩,
  ⟨(some 40), .bin .geq (.t 34) (.t 39), none, none, [], none⟩]
def ac_nand_Nand_read_9 : AC := .reg l_nand_Nand_read_9
def l_nand_Nand_read_10 : List AOp := [⟨(some 41), .mki 26 (.k (.int .i64 42)), none, none, [], none⟩,
  ⟨(some 4), .mv (.k (.str [])), none, none, [], none⟩,
  ⟨(some 5), .mv (.t 41), none, none, [], none⟩]
def ac_nand_Nand_read_10 : AC := .reg l_nand_Nand_read_10
def ac_nand_Nand_read_11 : AC := .seq ac_nand_Nand_read_10 .ret
def ac_nand_Nand_read_12 : AC := .cond (.t 40) ac_nand_Nand_read_11 .skip
def ac_nand_Nand_read_13 : AC := .seq ac_nand_Nand_read_9 ac_nand_Nand_read_12
def l_nand_Nand_read_14 : List AOp := [⟨(some 42), .mv (.t 7), none, none, [], none⟩,
  ⟨(some 43), .nilck (.t 42), none, none, [], none⟩,
  ⟨(some 44), .faddr 0 (.t 43), none, none, [], none⟩,
  ⟨(some 45), .load none (.t 44), none, none, [], none⟩,
  ⟨(some 46), .mv (.t 8), none, none, [], none⟩,
  ⟨(some 47), .isl 1 (.t 45) (.t 46), none, none, [], none⟩,
  ⟨(some 48), .load none (.t 47), none, none, [], none⟩,
  ⟨(some 4), .mv (.t 48), none, none, [], none⟩,
  ⟨(some 5), .mv (.k .nili), none, none, [], none⟩]
def ac_nand_Nand_read_14 : AC := .reg l_nand_Nand_read_14
def ac_nand_Nand_read_15 : AC := .seq ac_nand_Nand_read_14 .ret
def ac_nand_Nand_read_16 : AC := .seq ac_nand_Nand_read_13 ac_nand_Nand_read_15
def ac_nand_Nand_read_17 : AC := .seq ac_nand_Nand_read_8 ac_nand_Nand_read_16
def ac_nand_Nand_read_18 : AC := .seq ac_nand_Nand_read_7 ac_nand_Nand_read_17
def ac_nand_Nand_read_19 : AC := .seq ac_nand_Nand_read_0 ac_nand_Nand_read_18
def ac_nand_Nand_read : AC := ac_nand_Nand_read_19
theorem comp_nand_Nand_read : compF Tryd.prog [1000038] (drawR Tryd.prog [1000038] Tryd.f25.ntmps) [] 2 Tryd.f25 = some (ac_nand_Nand_read, [.t 4, .t 5]) := by kernel_rfl
def U_nand_Nand_read := (And.intro (And.intro (And.intro (And.intro (And.intro @ac_nand_Nand_read.eq_1 (@mR _ _ ac_nand_Nand_read_0.eq_1)) (And.intro (@mR _ _ ac_nand_Nand_read_1.eq_1) (@mR _ _ ac_nand_Nand_read_2.eq_1))) (And.intro (And.intro (@mR _ _ ac_nand_Nand_read_3.eq_1) (@mU _ _ ac_nand_Nand_read_4.eq_1)) (And.intro (@mU _ _ ac_nand_Nand_read_5.eq_1) (@mU _ _ ac_nand_Nand_read_6.eq_1)))) (And.intro (And.intro (And.intro (@mU _ _ ac_nand_Nand_read_7.eq_1) (@mD _ _ _ ac_nand_Nand_read_8.eq_1)) (And.intro (@mR _ _ ac_nand_Nand_read_9.eq_1) (@mR _ _ ac_nand_Nand_read_10.eq_1))) (And.intro (And.intro (@mU _ _ ac_nand_Nand_read_11.eq_1) (@mU _ _ ac_nand_Nand_read_12.eq_1)) (@mU _ _ ac_nand_Nand_read_13.eq_1)))) (And.intro (And.intro (And.intro (And.intro (@mR _ _ ac_nand_Nand_read_14.eq_1) (@mU _ _ ac_nand_Nand_read_15.eq_1)) (And.intro (@mU _ _ ac_nand_Nand_read_16.eq_1) (@mU _ _ ac_nand_Nand_read_17.eq_1))) (And.intro (And.intro (@mU _ _ ac_nand_Nand_read_18.eq_1) (@mU _ _ ac_nand_Nand_read_19.eq_1)) @l_nand_Nand_read_0.eq_1)) (And.intro (And.intro (And.intro @l_nand_Nand_read_1.eq_1 @l_nand_Nand_read_2.eq_1) (And.intro @l_nand_Nand_read_3.eq_1 @l_nand_Nand_read_8.eq_1)) (And.intro (And.intro @l_nand_Nand_read_9.eq_1 @l_nand_Nand_read_10.eq_1) @l_nand_Nand_read_14.eq_1))))

/- (*scoria/nand.Nand).erase -/
def l_nand_Nand_erase_0 : List AOp := [⟨(some 2), .box (.t 0), none, none, [], none⟩,
  ⟨(some 3), .box (.t 1), none, none, [], none⟩,
  ⟨(some 4), .mv (.k .nili), none, none, [], none⟩]
def ac_nand_Nand_erase_0 : AC := .reg l_nand_Nand_erase_0
def l_nand_Nand_erase_1 : List AOp := [⟨(some 8), .load none (.t 2), none, none, [], none⟩,
  ⟨(some 9), .mkfn (.func 49) [] [(.t 2), (.t 3)], none, none, [], none⟩,
  ⟨(some 10), .icall 38 [(.t 8), (.t 9)], none, none, [], none⟩,
  ⟨(some 5), .mv (.t 10), none, none, [], none⟩]
def ac_nand_Nand_erase_1 : AC := .reg l_nand_Nand_erase_1
def l_nand_Nand_erase_2 : List AOp := [⟨(some 11), .mv (.t 5), none, none, [], none⟩,
  ⟨(some 12), .isn .i true (.t 11), none, none, [], none⟩]
def ac_nand_Nand_erase_2 : AC := .reg l_nand_Nand_erase_2
def l_nand_Nand_erase_3 : List AOp := [⟨(some 13), .mv (.t 5), none, none, [], none⟩,
  ⟨(some 4), .mv (.t 13), none, none, [], none⟩]
def ac_nand_Nand_erase_3 : AC := .reg l_nand_Nand_erase_3
def ac_nand_Nand_erase_4 : AC := .seq ac_nand_Nand_erase_3 .ret
def ac_nand_Nand_erase_5 : AC := .cond (.t 12) ac_nand_Nand_erase_4 .skip
def ac_nand_Nand_erase_6 : AC := .seq ac_nand_Nand_erase_2 ac_nand_Nand_erase_5
def ac_nand_Nand_erase_7 : AC := .seq ac_nand_Nand_erase_1 ac_nand_Nand_erase_6
def l_nand_Nand_erase_8 : List AOp := [⟨(some 14), .load none (.t 2), none, none, [], none⟩,
  ⟨(some 15), .nilck (.t 14), none, none, [], none⟩,
  ⟨(some 16), .faddr 2 (.t 15), none, none, [], none⟩,
  ⟨(some 17), .load none (.t 16), none, none, [], none⟩,
  ⟨(some 18), .load none (.t 3), none, none, [], none⟩,
  ⟨(some 19), .isl 3 (.t 17) (.t 18), none, none, [], none⟩,
  ⟨(some 6), .mv (.t 19), none, none, [], none⟩]
def ac_nand_Nand_erase_8 : AC := .dreg 0 l_nand_Nand_erase_8
def l_nand_Nand_erase_9 : List AOp := [⟨(some 20), .mv (.t 6), none, none, [], none⟩,
  ⟨(some 21), .nilck (.t 20), none, none, [], none⟩,
  ⟨(some 22), .faddr 2 (.t 21), none, none, [], none⟩,
  ⟨(some 23), .load none (.t 22), none, none, [], none⟩]
def ac_nand_Nand_erase_9 : AC := .reg l_nand_Nand_erase_9
def l_nand_Nand_erase_10 : List AOp := [⟨(some 24), .mki 26 (.k (.int .i64 41)), none, none, [], none⟩,
  ⟨(some 4), .mv (.t 24), none, none, [], none⟩]
def ac_nand_Nand_erase_10 : AC := .reg l_nand_Nand_erase_10
def ac_nand_Nand_erase_11 : AC := .seq ac_nand_Nand_erase_10 .ret
def ac_nand_Nand_erase_12 : AC := .cond (.t 23) ac_nand_Nand_erase_11 .skip
def ac_nand_Nand_erase_13 : AC := .seq ac_nand_Nand_erase_9 ac_nand_Nand_erase_12
def l_nand_Nand_erase_14 : List AOp := [⟨(some 25), .load none (.t 2), none, none, [], none⟩,
  ⟨(some 26), .icall 41 [(.t 25)], none, none, [], none⟩,
  ⟨(some 7), .alloc [(.int .i64 0), (.int .i64 0), (.int .i64 0), (.str [])], none, none, [], none⟩,
  ⟨none, .store 4 (.t 7) (.t 26), none, none, [], none⟩]
def ac_nand_Nand_erase_14 : AC := .reg l_nand_Nand_erase_14
def l_nand_Nand_erase_15 : List AOp := [⟨(some 27), .faddr 1 (.t 7), none, none, [], none⟩,
  ⟨(some 28), .load none (.t 27), none, none, [], none⟩]
def ac_nand_Nand_erase_15 : AC := .reg l_nand_Nand_erase_15
def l_nand_Nand_erase_16 : List AOp := [⟨(some 30), .bin .eql (.t 28) (.k (.int .i64 1)), none, none, [], none⟩,
  ⟨(some 29), .mv (.t 30), none, none, [], none⟩]
def ac_nand_Nand_erase_16 : AC := .reg l_nand_Nand_erase_16
def l_nand_Nand_erase_17 : List AOp := [⟨(some 31), .load none (.t 2), none, none, [], none⟩,
  ⟨(some 32), .nilck (.t 31), none, none, [], none⟩,
  ⟨(some 33), .faddr 5 (.t 32), none, none, [], none⟩,
  ⟨none, .store 1 (.t 33) (.k (.bool true)), none, none, [], none⟩]
def ac_nand_Nand_erase_17 : AC := .reg l_nand_Nand_erase_17
def l_nand_Nand_erase_18 : List AOp := [⟨(some 34), .faddr 2 (.t 7), none, none, [], none⟩,
  ⟨(some 35), .load none (.t 34), none, none, [], none⟩,
  ⟨(some 36), .bin .gtr (.t 35) (.k (.int .i64 0)), none, none, [], none⟩]
def ac_nand_Nand_erase_18 : AC := .reg l_nand_Nand_erase_18
def l_nand_Nand_erase_19 : List AOp := [⟨(some 37), .mv (.t 6), none, none, [], none⟩,
  ⟨(some 38), .load (some 4) (.t 7), none, none, [], none⟩,
  ⟨(some 39), .call false 42 [(.t 38), (.k (.str []))], none, none, [], none⟩,
  ⟨(some 40), .blds false [(.str [])] 1 [(0, (.t 39))], none, none, [], none⟩,
  ⟨(some 41), .load none (.t 2), none, none, [], none⟩,
  ⟨(some 42), .nilck (.t 41), none, none, [], none⟩,
  ⟨(some 43), .faddr 0 (.t 42), none, none, [], none⟩,
  ⟨(some 44), .faddr 1 (.t 43), none, none, [], none⟩,
  ⟨(some 45), .load none (.t 44), none, none, [], none⟩,
  ⟨(some 46), .call false 50 [(.t 40), (.t 45)], none, none, [], none⟩,
  ⟨(some 47), .nilck (.t 37), none, none, [], none⟩,
  ⟨(some 48), .faddr 0 (.t 47), none, none, [], none⟩,
  ⟨none, .store 1 (.t 48) (.t 46), none, none, [], none⟩]
def ac_nand_Nand_erase_19 : AC := .dreg 0 l_nand_Nand_erase_19
def ac_nand_Nand_erase_20 : AC := .cond (.t 36) ac_nand_Nand_erase_19 .skip
def ac_nand_Nand_erase_21 : AC := .seq ac_nand_Nand_erase_18 ac_nand_Nand_erase_20
def l_nand_Nand_erase_22 : List AOp := [⟨(some 49), .mki 26 (.k (.int .i64 9)), none, none, [], none⟩,
  ⟨(some 4), .mv (.t 49), none, none, [], none⟩]
def ac_nand_Nand_erase_22 : AC := .reg l_nand_Nand_erase_22
def ac_nand_Nand_erase_23 : AC := .seq ac_nand_Nand_erase_22 .ret
def ac_nand_Nand_erase_24 : AC := .seq ac_nand_Nand_erase_21 ac_nand_Nand_erase_23
def ac_nand_Nand_erase_25 : AC := .seq ac_nand_Nand_erase_17 ac_nand_Nand_erase_24
def l_nand_Nand_erase_26 : List AOp := [⟨(some 51), .bin .eql (.t 28) (.k (.int .i64 3)), none, none, [], none⟩,
  ⟨(some 50), .mv (.t 51), none, none, [], none⟩]
def ac_nand_Nand_erase_26 : AC := .reg l_nand_Nand_erase_26
def l_nand_Nand_erase_27 : List AOp := [⟨(some 52), .mv (.t 6), none, none, [], none⟩,
  ⟨(some 53), .nilck (.t 52), none, none, [], none⟩,
  ⟨(some 54), .faddr 2 (.t 53), none, none, [], none⟩,
  ⟨none, .store 1 (.t 54) (.k (.bool true)), none, none, [], none⟩]
def ac_nand_Nand_erase_27 : AC := .reg l_nand_Nand_erase_27
def l_nand_Nand_erase_28 : List AOp := [⟨(some 55), .mki 26 (.k (.int .i64 41)), none, none, [], none⟩,
  ⟨(some 4), .mv (.t 55), none, none, [], none⟩]
def ac_nand_Nand_erase_28 : AC := .reg l_nand_Nand_erase_28
def ac_nand_Nand_erase_29 : AC := .seq ac_nand_Nand_erase_28 .ret
def ac_nand_Nand_erase_30 : AC := .seq ac_nand_Nand_erase_27 ac_nand_Nand_erase_29
def ac_nand_Nand_erase_31 : AC := .cond (.t 50) ac_nand_Nand_erase_30 .skip
def ac_nand_Nand_erase_32 : AC := .seq ac_nand_Nand_erase_26 ac_nand_Nand_erase_31
def ac_nand_Nand_erase_33 : AC := .cond (.t 29) ac_nand_Nand_erase_25 ac_nand_Nand_erase_32
def ac_nand_Nand_erase_34 : AC := .seq ac_nand_Nand_erase_16 ac_nand_Nand_erase_33
def ac_nand_Nand_erase_35 : AC := .block 0 ac_nand_Nand_erase_34
def ac_nand_Nand_erase_36 : AC := .seq ac_nand_Nand_erase_15 ac_nand_Nand_erase_35
def l_nand_Nand_erase_37 : List AOp := [⟨(some 56), .mv (.t 6), none, none, [], none⟩,
  ⟨(some 57), .nilck (.t 56), none, none, [], none⟩,
  ⟨(some 58), .faddr 0 (.t 57), none, none, [], none⟩,
  ⟨none, .store 1 (.t 58) (.k .nils), none, none, [], none⟩]
def ac_nand_Nand_erase_37 : AC := .reg l_nand_Nand_erase_37
def l_nand_Nand_erase_38 : List AOp := [⟨(some 59), .mv (.t 6), none, none, [], none⟩,
  ⟨(some 60), .nilck (.t 59), none, none, [], none⟩,
  ⟨(some 61), .faddr 1 (.t 60), none, none, [], none⟩,
  ⟨(some 62), .load none (.t 61), none, none, [], none⟩,
  ⟨(some 63), .bin .add (.t 62) (.k (.int .i64 1)), none, none, [], none⟩,
  ⟨(some 64), .nilck (.t 59), none, none, [], none⟩,
  ⟨(some 65), .faddr 1 (.t 64), none, none, [], none⟩,
  ⟨none, .store 1 (.t 65) (.t 63), none, none, [], none⟩]
def ac_nand_Nand_erase_38 : AC := .reg l_nand_Nand_erase_38
def l_nand_Nand_erase_39 : List AOp := [⟨(some 4), .mv (.k .nili), none, none, [], none⟩]
def ac_nand_Nand_erase_39 : AC := .reg l_nand_Nand_erase_39
def ac_nand_Nand_erase_40 : AC := .seq ac_nand_Nand_erase_39 .ret
def ac_nand_Nand_erase_41 : AC := .seq ac_nand_Nand_erase_38 ac_nand_Nand_erase_40
def ac_nand_Nand_erase_42 : AC := .seq ac_nand_Nand_erase_37 ac_nand_Nand_erase_41
def ac_nand_Nand_erase_43 : AC := .seq ac_nand_Nand_erase_36 ac_nand_Nand_erase_42
def ac_nand_Nand_erase_44 : AC := .seq ac_nand_Nand_erase_14 ac_nand_Nand_erase_43
def ac_nand_Nand_erase_45 : AC := .seq ac_nand_Nand_erase_13 ac_nand_Nand_erase_44
def ac_nand_Nand_erase_46 : AC := .seq ac_nand_Nand_erase_8 ac_nand_Nand_erase_45
def ac_nand_Nand_erase_47 : AC := .seq ac_nand_Nand_erase_7 ac_nand_Nand_erase_46
def ac_nand_Nand_erase_48 : AC := .seq ac_nand_Nand_erase_0 ac_nand_Nand_erase_47
def ac_nand_Nand_erase : AC := ac_nand_Nand_erase_48
theorem comp_nand_Nand_erase : compF Tryd.prog [1000038, 1000041] (drawR Tryd.prog [1000038, 1000041] Tryd.f28.ntmps) [] 2 Tryd.f28 = some (ac_nand_Nand_erase, [.t 4]) := by kernel_rfl
def U_nand_Nand_erase := (And.intro (And.intro (And.intro (And.intro (And.intro (And.intro (And.intro @ac_nand_Nand_erase.eq_1 (@mR _ _ ac_nand_Nand_erase_0.eq_1)) (@mR _ _ ac_nand_Nand_erase_1.eq_1)) (And.intro (@mR _ _ ac_nand_Nand_erase_2.eq_1) (@mR _ _ ac_nand_Nand_erase_3.eq_1))) (And.intro (And.intro (@mU _ _ ac_nand_Nand_erase_4.eq_1) (@mU _ _ ac_nand_Nand_erase_5.eq_1)) (And.intro (@mU _ _ ac_nand_Nand_erase_6.eq_1) (@mU _ _ ac_nand_Nand_erase_7.eq_1)))) (And.intro (And.intro (And.intro (And.intro (@mD _ _ _ ac_nand_Nand_erase_8.eq_1) (@mR _ _ ac_nand_Nand_erase_9.eq_1)) (@mR _ _ ac_nand_Nand_erase_10.eq_1)) (And.intro (@mU _ _ ac_nand_Nand_erase_11.eq_1) (@mU _ _ ac_nand_Nand_erase_12.eq_1))) (And.intro (And.intro (@mU _ _ ac_nand_Nand_erase_13.eq_1) (@mR _ _ ac_nand_Nand_erase_14.eq_1)) (And.intro (@mR _ _ ac_nand_Nand_erase_15.eq_1) (@mR _ _ ac_nand_Nand_erase_16.eq_1))))) (And.intro (And.intro (And.intro (And.intro (And.intro (@mR _ _ ac_nand_Nand_erase_17.eq_1) (@mR _ _ ac_nand_Nand_erase_18.eq_1)) (@mD _ _ _ ac_nand_Nand_erase_19.eq_1)) (And.intro (@mU _ _ ac_nand_Nand_erase_20.eq_1) (@mU _ _ ac_nand_Nand_erase_21.eq_1))) (And.intro (And.intro (@mR _ _ ac_nand_Nand_erase_22.eq_1) (@mU _ _ ac_nand_Nand_erase_23.eq_1)) (And.intro (@mU _ _ ac_nand_Nand_erase_24.eq_1) (@mU _ _ ac_nand_Nand_erase_25.eq_1)))) (And.intro (And.intro (And.intro (@mR _ _ ac_nand_Nand_erase_26.eq_1) (@mR _ _ ac_nand_Nand_erase_27.eq_1)) (And.intro (@mR _ _ ac_nand_Nand_erase_28.eq_1) (@mU _ _ ac_nand_Nand_erase_29.eq_1))) (And.intro (And.intro (@mU _ _ ac_nand_Nand_erase_30.eq_1) (@mU _ _ ac_nand_Nand_erase_31.eq_1)) (And.intro (@mU _ _ ac_nand_Nand_erase_32.eq_1) (@mU _ _ ac_nand_Nand_erase_33.eq_1)))))) (And.intro (And.intro (And.intro (And.intro (And.intro (And.intro (@mU _ _ ac_nand_Nand_erase_34.eq_1) (@mU _ _ ac_nand_Nand_erase_35.eq_1)) (@mU _ _ ac_nand_Nand_erase_36.eq_1)) (And.intro (@mR _ _ ac_nand_Nand_erase_37.eq_1) (@mR _ _ ac_nand_Nand_erase_38.eq_1))) (And.intro (And.intro (@mR _ _ ac_nand_Nand_erase_39.eq_1) (@mU _ _ ac_nand_Nand_erase_40.eq_1)) (And.intro (@mU _ _ ac_nand_Nand_erase_41.eq_1) (@mU _ _ ac_nand_Nand_erase_42.eq_1)))) (And.intro (And.intro (And.intro (And.intro (@mU _ _ ac_nand_Nand_erase_43.eq_1) (@mU _ _ ac_nand_Nand_erase_44.eq_1)) (@mU _ _ ac_nand_Nand_erase_45.eq_1)) (And.intro (@mU _ _ ac_nand_Nand_erase_46.eq_1) (@mU _ _ ac_nand_Nand_erase_47.eq_1))) (And.intro (And.intro (@mU _ _ ac_nand_Nand_erase_48.eq_1) @l_nand_Nand_erase_0.eq_1) (And.intro @l_nand_Nand_erase_1.eq_1 @l_nand_Nand_erase_2.eq_1)))) (And.intro (And.intro (And.intro (And.intro (And.intro @l_nand_Nand_erase_3.eq_1 @l_nand_Nand_erase_8.eq_1) @l_nand_Nand_erase_9.eq_1) (And.intro @l_nand_Nand_erase_10.eq_1 @l_nand_Nand_erase_14.eq_1)) (And.intro (And.intro @l_nand_Nand_erase_15.eq_1 @l_nand_Nand_erase_16.eq_1) (And.intro @l_nand_Nand_erase_17.eq_1 @l_nand_Nand_erase_18.eq_1))) (And.intro (And.intro (And.intro @l_nand_Nand_erase_19.eq_1 @l_nand_Nand_erase_22.eq_1) (And.intro @l_nand_Nand_erase_26.eq_1 @l_nand_Nand_erase_27.eq_1)) (And.intro (And.intro @l_nand_Nand_erase_28.eq_1 @l_nand_Nand_erase_37.eq_1) (And.intro @l_nand_Nand_erase_38.eq_1 @l_nand_Nand_erase_39.eq_1))))))

/- (*scoria/nand.Nand).block -/
def l_nand_Nand_block_0 : List AOp := [⟨(some 4), .mv (.k (.bool false)), none, none, [], none⟩]
def ac_nand_Nand_block_0 : AC := .reg l_nand_Nand_block_0
def l_nand_Nand_block_1 : List AOp := [⟨(some 5), .mv (.t 0), none, none, [], none⟩,
  ⟨(some 6), .isn .p true (.t 5), none, none, [], none⟩,
  ⟨(some 7), .mv (.t 6), none, none, [], none⟩,
  ⟨(some 8), .mv (.t 1), (some (7, true)), none, [], none⟩,
  ⟨(some 9), .bin .geq (.t 8) (.k (.int .i64 0)), (some (7, true)), none, [], none⟩,
  ⟨(some 10), .pick (.t 7) (.t 9) (.k (.bool false)), none, none, [], none⟩,
  ⟨(some 11), .mv (.t 10), none, none, [], none⟩,
  ⟨(some 12), .mv (.t 1), (some (11, true)), none, [], none⟩,
  ⟨(some 13), .mv (.t 0), (some (11, true)), none, [], none⟩,
  ⟨(some 14), .nilck (.t 13), (some (11, true)), none, [], none⟩,
  ⟨(some 15), .faddr 0 (.t 14), (some (11, true)), none, [], none⟩,
  ⟨(some 16), .faddr 0 (.t 15), (some (11, true)), none, [], none⟩,
  ⟨(some 17), .load none (.t 16), (some (11, true)), none, [], none⟩,
  ⟨(some 18), .bin .lss (.t 12) (.t 17), (some (11, true)), none, [], none⟩,
  ⟨(some 19), .pick (.t 11) (.t 18) (.k (.bool false)), none, none, [], none⟩,
  ⟨(some 4), .mv (.t 19), none, none, [], none⟩]
def ac_nand_Nand_block_1 : AC := .reg l_nand_Nand_block_1
def ac_nand_Nand_block_2 : AC := .seq ac_nand_Nand_block_1 .ret
def ac_nand_Nand_block_3 : AC := .seq ac_nand_Nand_block_0 ac_nand_Nand_block_2
def ac_nand_Nand_block : AC := ac_nand_Nand_block_3
theorem comp_nand_Nand_block : compF Tryd.prog [] (drawR Tryd.prog [] Tryd.f29.ntmps) [] 2 Tryd.f29 = some (ac_nand_Nand_block, [.t 4]) := by kernel_rfl
def U_nand_Nand_block := (And.intro (And.intro (And.intro @ac_nand_Nand_block.eq_1 (@mR _ _ ac_nand_Nand_block_0.eq_1)) (And.intro (@mR _ _ ac_nand_Nand_block_1.eq_1) (@mU _ _ ac_nand_Nand_block_2.eq_1))) (And.intro (And.intro (@mU _ _ ac_nand_Nand_block_3.eq_1) @l_nand_Nand_block_0.eq_1) @l_nand_Nand_block_1.eq_1))

/- (*scoria/nand.Nand).ready -/
def l_nand_Nand_ready_0 : List AOp := [⟨(some 4), .mv (.k .nili), none, none, [], none⟩]
def ac_nand_Nand_ready_0 : AC := .reg l_nand_Nand_ready_0
def l_nand_Nand_ready_1 : List AOp := [⟨(some 6), .mv (.t 0), none, none, [], none⟩,
  ⟨(some 7), .isn .p false (.t 6), none, none, [], none⟩,
  ⟨(some 5), .mv (.t 7), none, none, [], none⟩]
def ac_nand_Nand_ready_1 : AC := .reg l_nand_Nand_ready_1
def l_nand_Nand_ready_2 : List AOp := [⟨(some 8), .mki 26 (.k (.int .i64 1)), none, none, [], none⟩,
  ⟨(some 4), .mv (.t 8), none, none, [], none⟩]
def ac_nand_Nand_ready_2 : AC := .reg l_nand_Nand_ready_2
def ac_nand_Nand_ready_3 : AC := .seq ac_nand_Nand_ready_2 .ret
def l_nand_Nand_ready_4 : List AOp := [⟨(some 10), .mv (.t 0), none, none, [], none⟩,
  ⟨(some 11), .nilck (.t 10), none, none, [], none⟩,
  ⟨(some 12), .faddr 5 (.t 11), none, none, [], none⟩,
  ⟨(some 13), .load none (.t 12), none, none, [], none⟩,
  ⟨(some 9), .mv (.t 13), none, none, [], none⟩]
def ac_nand_Nand_ready_4 : AC := .reg l_nand_Nand_ready_4
def l_nand_Nand_ready_5 : List AOp := [⟨(some 14), .mki 26 (.k (.int .i64 9)), none, none, [], none⟩,
  ⟨(some 4), .mv (.t 14), none, none, [], none⟩]
def ac_nand_Nand_ready_5 : AC := .reg l_nand_Nand_ready_5
def ac_nand_Nand_ready_6 : AC := .seq ac_nand_Nand_ready_5 .ret
def l_nand_Nand_ready_7 : List AOp := [⟨(some 16), .mv (.t 1), none, none, [], none⟩,
  ⟨(some 17), .icallv (.t 16) [], none, none, [], none⟩,
  ⟨(some 18), .un .not (.t 17), none, none, [], none⟩,
  ⟨(some 15), .mv (.t 18), none, none, [], none⟩]
def ac_nand_Nand_ready_7 : AC := .reg l_nand_Nand_ready_7
def l_nand_Nand_ready_8 : List AOp := [⟨(some 19), .mki 26 (.k (.int .i64 1)), none, none, [], none⟩,
  ⟨(some 4), .mv (.t 19), none, none, [], none⟩]
def ac_nand_Nand_ready_8 : AC := .reg l_nand_Nand_ready_8
def ac_nand_Nand_ready_9 : AC := .seq ac_nand_Nand_ready_8 .ret
def ac_nand_Nand_ready_10 : AC := .cond (.t 15) ac_nand_Nand_ready_9 .skip
def ac_nand_Nand_ready_11 : AC := .seq ac_nand_Nand_ready_7 ac_nand_Nand_ready_10
def ac_nand_Nand_ready_12 : AC := .cond (.t 9) ac_nand_Nand_ready_6 ac_nand_Nand_ready_11
def ac_nand_Nand_ready_13 : AC := .seq ac_nand_Nand_ready_4 ac_nand_Nand_ready_12
def ac_nand_Nand_ready_14 : AC := .cond (.t 5) ac_nand_Nand_ready_3 ac_nand_Nand_ready_13
def ac_nand_Nand_ready_15 : AC := .seq ac_nand_Nand_ready_1 ac_nand_Nand_ready_14
def ac_nand_Nand_ready_16 : AC := .block 0 ac_nand_Nand_ready_15
def l_nand_Nand_ready_17 : List AOp := [⟨(some 4), .mv (.k .nili), none, none, [], none⟩]
def ac_nand_Nand_ready_17 : AC := .reg l_nand_Nand_ready_17
def ac_nand_Nand_ready_18 : AC := .seq ac_nand_Nand_ready_17 .ret
def ac_nand_Nand_ready_19 : AC := .seq ac_nand_Nand_ready_16 ac_nand_Nand_ready_18
def ac_nand_Nand_ready_20 : AC := .seq ac_nand_Nand_ready_0 ac_nand_Nand_ready_19
def ac_nand_Nand_ready : AC := ac_nand_Nand_ready_20
theorem comp_nand_Nand_ready : compF Tryd.prog [2000000] (drawR Tryd.prog [2000000] Tryd.f38.ntmps) [] 2 Tryd.f38 = some (ac_nand_Nand_ready, [.t 4]) := by kernel_rfl
def U_nand_Nand_ready := (And.intro (And.intro (And.intro (And.intro (And.intro @ac_nand_Nand_ready.eq_1 (@mR _ _ ac_nand_Nand_ready_0.eq_1)) (And.intro (@mR _ _ ac_nand_Nand_ready_1.eq_1) (@mR _ _ ac_nand_Nand_ready_2.eq_1))) (And.intro (And.intro (@mU _ _ ac_nand_Nand_ready_3.eq_1) (@mR _ _ ac_nand_Nand_ready_4.eq_1)) (And.intro (@mR _ _ ac_nand_Nand_ready_5.eq_1) (@mU _ _ ac_nand_Nand_ready_6.eq_1)))) (And.intro (And.intro (And.intro (@mR _ _ ac_nand_Nand_ready_7.eq_1) (@mR _ _ ac_nand_Nand_ready_8.eq_1)) (And.intro (@mU _ _ ac_nand_Nand_ready_9.eq_1) (@mU _ _ ac_nand_Nand_ready_10.eq_1))) (And.intro (And.intro (@mU _ _ ac_nand_Nand_ready_11.eq_1) (@mU _ _ ac_nand_Nand_ready_12.eq_1)) (@mU _ _ ac_nand_Nand_ready_13.eq_1)))) (And.intro (And.intro (And.intro (And.intro (@mU _ _ ac_nand_Nand_ready_14.eq_1) (@mU _ _ ac_nand_Nand_ready_15.eq_1)) (And.intro (@mU _ _ ac_nand_Nand_ready_16.eq_1) (@mR _ _ ac_nand_Nand_ready_17.eq_1))) (And.intro (And.intro (@mU _ _ ac_nand_Nand_ready_18.eq_1) (@mU _ _ ac_nand_Nand_ready_19.eq_1)) (And.intro (@mU _ _ ac_nand_Nand_ready_20.eq_1) @l_nand_Nand_ready_0.eq_1))) (And.intro (And.intro (And.intro @l_nand_Nand_ready_1.eq_1 @l_nand_Nand_ready_2.eq_1) (And.intro @l_nand_Nand_ready_4.eq_1 @l_nand_Nand_ready_5.eq_1)) (And.intro (And.intro @l_nand_Nand_ready_7.eq_1 @l_nand_Nand_ready_8.eq_1) @l_nand_Nand_ready_17.eq_1))))

/- (*scoria/nand.Nand).program$1 -/
def l_nand_Nand_program_c1_0 : List AOp := [⟨(some 3), .mv (.k (.bool false)), none, none, [], none⟩]
def ac_nand_Nand_program_c1_0 : AC := .reg l_nand_Nand_program_c1_0
def l_nand_Nand_program_c1_1 : List AOp := [⟨(some 4), .load none (.t 0), none, none, [], none⟩,
  ⟨(some 5), .load none (.t 1), none, none, [], none⟩,
  ⟨(some 6), .rcall 40 [(.t 4), (.t 5)], none, none, [], none⟩,
  ⟨(some 7), .mv (.t 6), none, none, [], none⟩,
  ⟨(some 8), .load none (.t 2), (some (7, true)), none, [], none⟩,
  ⟨(some 9), .lens (.t 8), (some (7, true)), none, [], none⟩,
  ⟨(some 10), .bin .leq (.t 9) (.k (.int .i64 128)), (some (7, true)), none, [], none⟩,
  ⟨(some 11), .pick (.t 7) (.t 10) (.k (.bool false)), none, none, [], none⟩,
  ⟨(some 3), .mv (.t 11), none, none, [], none⟩]
def ac_nand_Nand_program_c1_1 : AC := .reg l_nand_Nand_program_c1_1
def ac_nand_Nand_program_c1_2 : AC := .seq ac_nand_Nand_program_c1_1 .ret
def ac_nand_Nand_program_c1_3 : AC := .seq ac_nand_Nand_program_c1_0 ac_nand_Nand_program_c1_2
def ac_nand_Nand_program_c1 : AC := ac_nand_Nand_program_c1_3
theorem comp_nand_Nand_program_c1 : compF Tryd.prog [4000040] (drawR Tryd.prog [4000040] Tryd.f39.ntmps) [] 3 Tryd.f39 = some (ac_nand_Nand_program_c1, [.t 3]) := by kernel_rfl
def U_nand_Nand_program_c1 := (And.intro (And.intro (And.intro @ac_nand_Nand_program_c1.eq_1 (@mR _ _ ac_nand_Nand_program_c1_0.eq_1)) (And.intro (@mR _ _ ac_nand_Nand_program_c1_1.eq_1) (@mU _ _ ac_nand_Nand_program_c1_2.eq_1))) (And.intro (And.intro (@mU _ _ ac_nand_Nand_program_c1_3.eq_1) @l_nand_Nand_program_c1_0.eq_1) @l_nand_Nand_program_c1_1.eq_1))

/- (*scoria/nand.Nand).page -/
def l_nand_Nand_page_0 : List AOp := [⟨(some 4), .mv (.k (.bool false)), none, none, [], none⟩]
def ac_nand_Nand_page_0 : AC := .reg l_nand_Nand_page_0
def l_nand_Nand_page_1 : List AOp := [⟨(some 5), .mv (.t 1), none, none, [], none⟩,
  ⟨(some 6), .bin .geq (.t 5) (.k (.int .i64 0)), none, none, [], none⟩,
  ⟨(some 7), .mv (.t 6), none, none, [], none⟩,
  ⟨(some 8), .mv (.t 1), (some (7, true)), none, [], none⟩,
  ⟨(some 9), .mv (.t 0), (some (7, true)), none, [], none⟩,
  ⟨(some 10), .nilck (.t 9), (some (7, true)), none, [], none⟩,
  ⟨(some 11), .faddr 0 (.t 10), (some (7, true)), none, [], none⟩,
  ⟨(some 12), .faddr 0 (.t 11), (some (7, true)), none, [], none⟩,
  ⟨(some 13), .load none (.t 12), (some (7, true)), none, [], none⟩,
  ⟨(some 14), .mv (.t 0), (some (7, true)), none, [], none⟩,
  ⟨(some 15), .nilck (.t 14), (some (7, true)), none, [], none⟩,
  ⟨(some 16), .faddr 0 (.t 15), (some (7, true)), none, [], none⟩,
  ⟨(some 17), .faddr 1 (.t 16), (some (7, true)), none, [], none⟩,
  ⟨(some 18), .load none (.t 17), (some (7, true)), none, [], none⟩,
  ⟨(some 19), .bin .mul (.t 13) (.t 18), (some (7, true)), none, [], none⟩,
  ⟨(some 20), .bin .lss (.t 8) (.t 19), (some (7, true)), none, [], none⟩,
  ⟨(some 21), .pick (.t 7) (.t 20) (.k (.bool false)), none, none, [], none⟩,
  ⟨(some 4), .mv (.t 21), none, none, [], none⟩]
def ac_nand_Nand_page_1 : AC := .dreg 0 l_nand_Nand_page_1
def ac_nand_Nand_page_2 : AC := .seq ac_nand_Nand_page_1 .ret
def ac_nand_Nand_page_3 : AC := .seq ac_nand_Nand_page_0 ac_nand_Nand_page_2
def ac_nand_Nand_page : AC := ac_nand_Nand_page_3
theorem comp_nand_Nand_page : compF Tryd.prog [] (drawR Tryd.prog [] Tryd.f40.ntmps) [] 2 Tryd.f40 = some (ac_nand_Nand_page, [.t 4]) := by kernel_rfl
def U_nand_Nand_page := (And.intro (And.intro (And.intro @ac_nand_Nand_page.eq_1 (@mR _ _ ac_nand_Nand_page_0.eq_1)) (And.intro (@mD _ _ _ ac_nand_Nand_page_1.eq_1) (@mU _ _ ac_nand_Nand_page_2.eq_1))) (And.intro (And.intro (@mU _ _ ac_nand_Nand_page_3.eq_1) @l_nand_Nand_page_0.eq_1) @l_nand_Nand_page_1.eq_1))

/- (*scoria/nand.Nand).count -/
def l_nand_Nand_count_0 : List AOp := [⟨(some 1), .box (.t 0), none, none, [], none⟩,
  ⟨(some 2), .alloc [(.int .i64 0), (.int .i64 0), (.int .i64 0), (.str [])], none, none, [], none⟩]
def ac_nand_Nand_count_0 : AC := .reg l_nand_Nand_count_0
def l_nand_Nand_count_1 : List AOp := [⟨(some 4), .load none (.t 1), none, none, [], none⟩,
  ⟨(some 5), .nilck (.t 4), none, none, [], none⟩,
  ⟨(some 6), .faddr 3 (.t 5), none, none, [], none⟩,
  ⟨(some 7), .load none (.t 6), none, none, [], none⟩,
  ⟨(some 8), .bin .add (.t 7) (.k (.int .i64 1)), none, none, [], none⟩,
  ⟨(some 9), .nilck (.t 4), none, none, [], none⟩,
  ⟨(some 10), .faddr 3 (.t 9), none, none, [], none⟩,
  ⟨none, .store 1 (.t 10) (.t 8), none, none, [], none⟩]
def ac_nand_Nand_count_1 : AC := .reg l_nand_Nand_count_1
def l_nand_Nand_count_2 : List AOp := [⟨(some 11), .load none (.t 1), none, none, [], none⟩,
  ⟨(some 12), .nilck (.t 11), none, none, [], none⟩,
  ⟨(some 13), .faddr 4 (.t 12), none, none, [], none⟩,
  ⟨(some 14), .load none (.t 13), none, none, [], none⟩,
  ⟨(some 15), .mkfn (.func 56) [] [(.t 1)], none, none, [], none⟩,
  ⟨(some 16), .icall 55 [(.t 14), (.t 15)], none, none, [], none⟩,
  ⟨(some 3), .mv (.t 16), none, none, [], none⟩]
def ac_nand_Nand_count_2 : AC := .reg l_nand_Nand_count_2
def l_nand_Nand_count_3 : List AOp := [⟨(some 17), .mv (.t 3), none, none, [], none⟩,
  ⟨(some 18), .bin .lss (.t 17) (.k (.int .i64 0)), none, none, [], none⟩]
def ac_nand_Nand_count_3 : AC := .reg l_nand_Nand_count_3
def l_nand_Nand_count_4 : List AOp := [⟨(some 19), .build [(.int .i64 0), (.int .i64 0), (.int .i64 0), (.str [])] [], none, none, [], none⟩,
  ⟨none, .store 4 (.t 2) (.t 19), none, none, [], none⟩]
def ac_nand_Nand_count_4 : AC := .reg l_nand_Nand_count_4
def ac_nand_Nand_count_5 : AC := .seq ac_nand_Nand_count_4 .ret
def ac_nand_Nand_count_6 : AC := .cond (.t 18) ac_nand_Nand_count_5 .skip
def ac_nand_Nand_count_7 : AC := .seq ac_nand_Nand_count_3 ac_nand_Nand_count_6
def l_nand_Nand_count_8 : List AOp := [⟨(some 20), .load none (.t 1), none, none, [], none⟩,
  ⟨(some 21), .nilck (.t 20), none, none, [], none⟩,
  ⟨(some 22), .faddr 4 (.t 21), none, none, [], none⟩,
  ⟨(some 23), .load none (.t 22), none, none, [], none⟩,
  ⟨(some 24), .mv (.t 3), none, none, [], none⟩,
  ⟨(some 25), .isl 4 (.t 23) (.t 24), none, none, [], none⟩,
  ⟨(some 26), .load (some 4) (.t 25), none, none, [], none⟩,
  ⟨none, .store 4 (.t 2) (.t 26), none, none, [], none⟩]
def ac_nand_Nand_count_8 : AC := .reg l_nand_Nand_count_8
def ac_nand_Nand_count_9 : AC := .seq ac_nand_Nand_count_8 .ret
def ac_nand_Nand_count_10 : AC := .seq ac_nand_Nand_count_7 ac_nand_Nand_count_9
def ac_nand_Nand_count_11 : AC := .seq ac_nand_Nand_count_2 ac_nand_Nand_count_10
def ac_nand_Nand_count_12 : AC := .seq ac_nand_Nand_count_1 ac_nand_Nand_count_11
def ac_nand_Nand_count_13 : AC := .seq ac_nand_Nand_count_0 ac_nand_Nand_count_12
def ac_nand_Nand_count : AC := ac_nand_Nand_count_13
theorem comp_nand_Nand_count : compF Tryd.prog [1000055] (drawR Tryd.prog [1000055] Tryd.f41.ntmps) [] 1 Tryd.f41 = some (ac_nand_Nand_count, [.c 2 (some 4)]) := by kernel_rfl
def U_nand_Nand_count := (And.intro (And.intro (And.intro (And.intro (And.intro @ac_nand_Nand_count.eq_1 (@mR _ _ ac_nand_Nand_count_0.eq_1)) (@mR _ _ ac_nand_Nand_count_1.eq_1)) (And.intro (And.intro (@mR _ _ ac_nand_Nand_count_2.eq_1) (@mR _ _ ac_nand_Nand_count_3.eq_1)) (@mR _ _ ac_nand_Nand_count_4.eq_1))) (And.intro (And.intro (And.intro (@mU _ _ ac_nand_Nand_count_5.eq_1) (@mU _ _ ac_nand_Nand_count_6.eq_1)) (@mU _ _ ac_nand_Nand_count_7.eq_1)) (And.intro (@mR _ _ ac_nand_Nand_count_8.eq_1) (@mU _ _ ac_nand_Nand_count_9.eq_1)))) (And.intro (And.intro (And.intro (And.intro (@mU _ _ ac_nand_Nand_count_10.eq_1) (@mU _ _ ac_nand_Nand_count_11.eq_1)) (@mU _ _ ac_nand_Nand_count_12.eq_1)) (And.intro (@mU _ _ ac_nand_Nand_count_13.eq_1) @l_nand_Nand_count_0.eq_1)) (And.intro (And.intro (And.intro @l_nand_Nand_count_1.eq_1 @l_nand_Nand_count_2.eq_1) @l_nand_Nand_count_3.eq_1) (And.intro @l_nand_Nand_count_4.eq_1 @l_nand_Nand_count_8.eq_1))))

/- scoria/nand.spoilt -/
def l_nand_spoilt_0 : List AOp := [⟨(some 2), .box (.t 0), none, none, [], none⟩,
  ⟨(some 4), .mv (.k (.str [])), none, none, [], none⟩]
def ac_nand_spoilt_0 : AC := .reg l_nand_spoilt_0
def l_nand_spoilt_1 : List AOp := [⟨(some 6), .mv (.t 1), none, none, [], none⟩,
  ⟨(some 7), .faddr 2 (.t 2), none, none, [], none⟩,
  ⟨(some 8), .load none (.t 7), none, none, [], none⟩,
  ⟨(some 9), .mv (.t 1), none, none, [], none⟩,
  ⟨(some 10), .lens (.t 9), none, none, [], none⟩,
  ⟨(some 11), .mm false [(.t 8), (.t 10)], none, none, [], none⟩,
  ⟨(some 12), .mm true [(.t 11), (.k (.int .i64 0))], none, none, [], none⟩,
  ⟨(some 13), .sstr (.t 6) none (some (.t 12)), none, none, [], none⟩,
  ⟨(some 14), .faddr 3 (.t 2), none, none, [], none⟩,
  ⟨(some 15), .load none (.t 14), none, none, [], none⟩,
  ⟨(some 16), .bin .add (.t 13) (.t 15), none, none, [], none⟩,
  ⟨(some 5), .mv (.t 16), none, none, [], none⟩]
def ac_nand_spoilt_1 : AC := .dreg 0 l_nand_spoilt_1
def l_nand_spoilt_2 : List AOp := [⟨(some 17), .mv (.t 5), none, none, [], none⟩,
  ⟨(some 18), .mv (.t 5), none, none, [], none⟩,
  ⟨(some 19), .lens (.t 18), none, none, [], none⟩,
  ⟨(some 20), .mm false [(.t 19), (.k (.int .i64 128))], none, none, [], none⟩,
  ⟨(some 21), .sstr (.t 17) none (some (.t 20)), none, none, [], none⟩,
  ⟨(some 4), .mv (.t 21), none, none, [], none⟩]
def ac_nand_spoilt_2 : AC := .reg l_nand_spoilt_2
def ac_nand_spoilt_3 : AC := .seq ac_nand_spoilt_2 .ret
def ac_nand_spoilt_4 : AC := .seq ac_nand_spoilt_1 ac_nand_spoilt_3
def ac_nand_spoilt_5 : AC := .seq ac_nand_spoilt_0 ac_nand_spoilt_4
def ac_nand_spoilt : AC := ac_nand_spoilt_5
theorem comp_nand_spoilt : compF Tryd.prog [] (drawR Tryd.prog [] Tryd.f42.ntmps) [] 2 Tryd.f42 = some (ac_nand_spoilt, [.t 4]) := by kernel_rfl
def U_nand_spoilt := (And.intro (And.intro (And.intro (And.intro @ac_nand_spoilt.eq_1 (@mR _ _ ac_nand_spoilt_0.eq_1)) (@mD _ _ _ ac_nand_spoilt_1.eq_1)) (And.intro (@mR _ _ ac_nand_spoilt_2.eq_1) (@mU _ _ ac_nand_spoilt_3.eq_1))) (And.intro (And.intro (And.intro (@mU _ _ ac_nand_spoilt_4.eq_1) (@mU _ _ ac_nand_spoilt_5.eq_1)) @l_nand_spoilt_0.eq_1) (And.intro @l_nand_spoilt_1.eq_1 @l_nand_spoilt_2.eq_1)))

/- (*scoria/nand.Nand).read$1 -/
def l_nand_Nand_read_c1_0 : List AOp := [⟨(some 2), .mv (.k (.bool false)), none, none, [], none⟩]
def ac_nand_Nand_read_c1_0 : AC := .reg l_nand_Nand_read_c1_0
def l_nand_Nand_read_c1_1 : List AOp := [⟨(some 3), .load none (.t 0), none, none, [], none⟩,
  ⟨(some 4), .load none (.t 1), none, none, [], none⟩,
  ⟨(some 5), .rcall 40 [(.t 3), (.t 4)], none, none, [], none⟩,
  ⟨(some 2), .mv (.t 5), none, none, [], none⟩]
def ac_nand_Nand_read_c1_1 : AC := .reg l_nand_Nand_read_c1_1
def ac_nand_Nand_read_c1_2 : AC := .seq ac_nand_Nand_read_c1_1 .ret
def ac_nand_Nand_read_c1_3 : AC := .seq ac_nand_Nand_read_c1_0 ac_nand_Nand_read_c1_2
def ac_nand_Nand_read_c1 : AC := ac_nand_Nand_read_c1_3
theorem comp_nand_Nand_read_c1 : compF Tryd.prog [4000040] (drawR Tryd.prog [4000040] Tryd.f47.ntmps) [] 2 Tryd.f47 = some (ac_nand_Nand_read_c1, [.t 2]) := by kernel_rfl
def U_nand_Nand_read_c1 := (And.intro (And.intro (And.intro @ac_nand_Nand_read_c1.eq_1 (@mR _ _ ac_nand_Nand_read_c1_0.eq_1)) (And.intro (@mR _ _ ac_nand_Nand_read_c1_1.eq_1) (@mU _ _ ac_nand_Nand_read_c1_2.eq_1))) (And.intro (And.intro (@mU _ _ ac_nand_Nand_read_c1_3.eq_1) @l_nand_Nand_read_c1_0.eq_1) @l_nand_Nand_read_c1_1.eq_1))

/- (*scoria/nand.Nand).erase$1 -/
def l_nand_Nand_erase_c1_0 : List AOp := [⟨(some 2), .mv (.k (.bool false)), none, none, [], none⟩]
def ac_nand_Nand_erase_c1_0 : AC := .reg l_nand_Nand_erase_c1_0
def l_nand_Nand_erase_c1_1 : List AOp := [⟨(some 3), .load none (.t 0), none, none, [], none⟩,
  ⟨(some 4), .load none (.t 1), none, none, [], none⟩,
  ⟨(some 5), .rcall 29 [(.t 3), (.t 4)], none, none, [], none⟩,
  ⟨(some 2), .mv (.t 5), none, none, [], none⟩]
def ac_nand_Nand_erase_c1_1 : AC := .reg l_nand_Nand_erase_c1_1
def ac_nand_Nand_erase_c1_2 : AC := .seq ac_nand_Nand_erase_c1_1 .ret
def ac_nand_Nand_erase_c1_3 : AC := .seq ac_nand_Nand_erase_c1_0 ac_nand_Nand_erase_c1_2
def ac_nand_Nand_erase_c1 : AC := ac_nand_Nand_erase_c1_3
theorem comp_nand_Nand_erase_c1 : compF Tryd.prog [4000029] (drawR Tryd.prog [4000029] Tryd.f49.ntmps) [] 2 Tryd.f49 = some (ac_nand_Nand_erase_c1, [.t 2]) := by kernel_rfl
def U_nand_Nand_erase_c1 := (And.intro (And.intro (And.intro @ac_nand_Nand_erase_c1.eq_1 (@mR _ _ ac_nand_Nand_erase_c1_0.eq_1)) (And.intro (@mR _ _ ac_nand_Nand_erase_c1_1.eq_1) (@mU _ _ ac_nand_Nand_erase_c1_2.eq_1))) (And.intro (And.intro (@mU _ _ ac_nand_Nand_erase_c1_3.eq_1) @l_nand_Nand_erase_c1_0.eq_1) @l_nand_Nand_erase_c1_1.eq_1))

/- slices.IndexFunc[[]scoria/api.Mishap,scoria/api.Mishap] -/
def l_slices_IndexFunc_api_Mishap_0 : List AOp := [⟨(some 4), .mv (.k (.int .i64 0)), none, none, [], none⟩]
def ac_slices_IndexFunc_api_Mishap_0 : AC := .reg l_slices_IndexFunc_api_Mishap_0
def l_slices_IndexFunc_api_Mishap_1 : List AOp := [⟨(some 6), .mv (.t 0), none, none, [], none⟩,
  ⟨(some 7), .len (.t 6), none, none, [], none⟩,
  ⟨(some 8), .mv (.k (.int .i64 0)), none, none, [], none⟩]
def ac_slices_IndexFunc_api_Mishap_1 : AC := .reg l_slices_IndexFunc_api_Mishap_1
def l_slices_IndexFunc_api_Mishap_2 : List AOp := [⟨(some 9), .bin .lss (.t 8) (.t 7), none, none, [], none⟩]
def ac_slices_IndexFunc_api_Mishap_2 : AC := .reg l_slices_IndexFunc_api_Mishap_2
def ac_slices_IndexFunc_api_Mishap_3 : AC := .cond (.t 9) .skip (.exit 0)
def l_slices_IndexFunc_api_Mishap_4 : List AOp := [⟨(some 10), .mv (.t 8), none, none, [], none⟩,
  ⟨(some 5), .mv (.t 10), none, none, [], none⟩]
def ac_slices_IndexFunc_api_Mishap_4 : AC := .reg l_slices_IndexFunc_api_Mishap_4
def l_slices_IndexFunc_api_Mishap_5 : List AOp := [⟨(some 11), .mv (.t 1), none, none, [], none⟩,
  ⟨(some 12), .mv (.t 0), none, none, [], none⟩,
  ⟨(some 13), .mv (.t 5), none, none, [], none⟩,
  ⟨(some 14), .isl 4 (.t 12) (.t 13), none, none, [], none⟩,
  ⟨(some 15), .load (some 4) (.t 14), none, none, [], none⟩,
  ⟨(some 16), .icallv (.t 11) [(.t 15)], none, none, [], none⟩]
def ac_slices_IndexFunc_api_Mishap_5 : AC := .reg l_slices_IndexFunc_api_Mishap_5
def l_slices_IndexFunc_api_Mishap_6 : List AOp := [⟨(some 17), .mv (.t 5), none, none, [], none⟩,
  ⟨(some 4), .mv (.t 17), none, none, [], none⟩]
def ac_slices_IndexFunc_api_Mishap_6 : AC := .reg l_slices_IndexFunc_api_Mishap_6
def ac_slices_IndexFunc_api_Mishap_7 : AC := .seq ac_slices_IndexFunc_api_Mishap_6 .ret
def ac_slices_IndexFunc_api_Mishap_8 : AC := .cond (.t 16) ac_slices_IndexFunc_api_Mishap_7 .skip
def ac_slices_IndexFunc_api_Mishap_9 : AC := .seq ac_slices_IndexFunc_api_Mishap_5 ac_slices_IndexFunc_api_Mishap_8
def ac_slices_IndexFunc_api_Mishap_10 : AC := .seq ac_slices_IndexFunc_api_Mishap_4 ac_slices_IndexFunc_api_Mishap_9
def ac_slices_IndexFunc_api_Mishap_11 : AC := .block 1 ac_slices_IndexFunc_api_Mishap_10
def l_slices_IndexFunc_api_Mishap_12 : List AOp := [⟨(some 18), .bin .add (.t 8) (.k (.int .i64 1)), none, none, [], none⟩,
  ⟨(some 8), .mv (.t 18), none, none, [], none⟩]
def ac_slices_IndexFunc_api_Mishap_12 : AC := .reg l_slices_IndexFunc_api_Mishap_12
def ac_slices_IndexFunc_api_Mishap_13 : AC := .seq ac_slices_IndexFunc_api_Mishap_11 ac_slices_IndexFunc_api_Mishap_12
def ac_slices_IndexFunc_api_Mishap_14 : AC := .seq ac_slices_IndexFunc_api_Mishap_3 ac_slices_IndexFunc_api_Mishap_13
def ac_slices_IndexFunc_api_Mishap_15 : AC := .seq ac_slices_IndexFunc_api_Mishap_2 ac_slices_IndexFunc_api_Mishap_14
def ac_slices_IndexFunc_api_Mishap_16 : AC := .loop [0, 1, 7, 8] 1000000000 ac_slices_IndexFunc_api_Mishap_15
def ac_slices_IndexFunc_api_Mishap_17 : AC := .block 0 ac_slices_IndexFunc_api_Mishap_16
def ac_slices_IndexFunc_api_Mishap_18 : AC := .seq ac_slices_IndexFunc_api_Mishap_1 ac_slices_IndexFunc_api_Mishap_17
def l_slices_IndexFunc_api_Mishap_19 : List AOp := [⟨(some 4), .mv (.k (.int .i64 (-1))), none, none, [], none⟩]
def ac_slices_IndexFunc_api_Mishap_19 : AC := .reg l_slices_IndexFunc_api_Mishap_19
def ac_slices_IndexFunc_api_Mishap_20 : AC := .seq ac_slices_IndexFunc_api_Mishap_19 .ret
def ac_slices_IndexFunc_api_Mishap_21 : AC := .seq ac_slices_IndexFunc_api_Mishap_18 ac_slices_IndexFunc_api_Mishap_20
def ac_slices_IndexFunc_api_Mishap_22 : AC := .seq ac_slices_IndexFunc_api_Mishap_0 ac_slices_IndexFunc_api_Mishap_21
def ac_slices_IndexFunc_api_Mishap : AC := ac_slices_IndexFunc_api_Mishap_22
theorem comp_slices_IndexFunc_api_Mishap : compF Tryd.prog [2000000] (drawR Tryd.prog [2000000] Tryd.f55.ntmps) [([0, 1, 7, 8], 1000000000)] 2 Tryd.f55 = some (ac_slices_IndexFunc_api_Mishap, [.t 4]) := by kernel_rfl
def U_slices_IndexFunc_api_Mishap := (And.intro (And.intro (And.intro (And.intro (And.intro @ac_slices_IndexFunc_api_Mishap.eq_1 (@mR _ _ ac_slices_IndexFunc_api_Mishap_0.eq_1)) (And.intro (@mR _ _ ac_slices_IndexFunc_api_Mishap_1.eq_1) (@mR _ _ ac_slices_IndexFunc_api_Mishap_2.eq_1))) (And.intro (And.intro (@mU _ _ ac_slices_IndexFunc_api_Mishap_3.eq_1) (@mR _ _ ac_slices_IndexFunc_api_Mishap_4.eq_1)) (And.intro (@mR _ _ ac_slices_IndexFunc_api_Mishap_5.eq_1) (@mR _ _ ac_slices_IndexFunc_api_Mishap_6.eq_1)))) (And.intro (And.intro (And.intro (@mU _ _ ac_slices_IndexFunc_api_Mishap_7.eq_1) (@mU _ _ ac_slices_IndexFunc_api_Mishap_8.eq_1)) (And.intro (@mU _ _ ac_slices_IndexFunc_api_Mishap_9.eq_1) (@mU _ _ ac_slices_IndexFunc_api_Mishap_10.eq_1))) (And.intro (And.intro (@mU _ _ ac_slices_IndexFunc_api_Mishap_11.eq_1) (@mR _ _ ac_slices_IndexFunc_api_Mishap_12.eq_1)) (And.intro (@mU _ _ ac_slices_IndexFunc_api_Mishap_13.eq_1) (@mU _ _ ac_slices_IndexFunc_api_Mishap_14.eq_1))))) (And.intro (And.intro (And.intro (And.intro (@mU _ _ ac_slices_IndexFunc_api_Mishap_15.eq_1) (@mU _ _ ac_slices_IndexFunc_api_Mishap_16.eq_1)) (And.intro (@mU _ _ ac_slices_IndexFunc_api_Mishap_17.eq_1) (@mU _ _ ac_slices_IndexFunc_api_Mishap_18.eq_1))) (And.intro (And.intro (@mR _ _ ac_slices_IndexFunc_api_Mishap_19.eq_1) (@mU _ _ ac_slices_IndexFunc_api_Mishap_20.eq_1)) (And.intro (@mU _ _ ac_slices_IndexFunc_api_Mishap_21.eq_1) (@mU _ _ ac_slices_IndexFunc_api_Mishap_22.eq_1)))) (And.intro (And.intro (And.intro @l_slices_IndexFunc_api_Mishap_0.eq_1 @l_slices_IndexFunc_api_Mishap_1.eq_1) (And.intro @l_slices_IndexFunc_api_Mishap_2.eq_1 @l_slices_IndexFunc_api_Mishap_4.eq_1)) (And.intro (And.intro @l_slices_IndexFunc_api_Mishap_5.eq_1 @l_slices_IndexFunc_api_Mishap_6.eq_1) (And.intro @l_slices_IndexFunc_api_Mishap_12.eq_1 @l_slices_IndexFunc_api_Mishap_19.eq_1)))))

/- (*scoria/nand.Nand).count$1 -/
def l_nand_Nand_count_c1_0 : List AOp := [⟨(some 2), .box (.t 0), none, none, [], none⟩,
  ⟨(some 3), .mv (.k (.bool false)), none, none, [], none⟩]
def ac_nand_Nand_count_c1_0 : AC := .reg l_nand_Nand_count_c1_0
def l_nand_Nand_count_c1_1 : List AOp := [⟨(some 4), .faddr 0 (.t 2), none, none, [], none⟩,
  ⟨(some 5), .load none (.t 4), none, none, [], none⟩,
  ⟨(some 6), .load none (.t 1), none, none, [], none⟩,
  ⟨(some 7), .nilck (.t 6), none, none, [], none⟩,
  ⟨(some 8), .faddr 3 (.t 7), none, none, [], none⟩,
  ⟨(some 9), .load none (.t 8), none, none, [], none⟩,
  ⟨(some 10), .bin .eql (.t 5) (.t 9), none, none, [], none⟩,
  ⟨(some 3), .mv (.t 10), none, none, [], none⟩]
def ac_nand_Nand_count_c1_1 : AC := .dreg 0 l_nand_Nand_count_c1_1
def ac_nand_Nand_count_c1_2 : AC := .seq ac_nand_Nand_count_c1_1 .ret
def ac_nand_Nand_count_c1_3 : AC := .seq ac_nand_Nand_count_c1_0 ac_nand_Nand_count_c1_2
def ac_nand_Nand_count_c1 : AC := ac_nand_Nand_count_c1_3
theorem comp_nand_Nand_count_c1 : compF Tryd.prog [] (drawR Tryd.prog [] Tryd.f56.ntmps) [] 2 Tryd.f56 = some (ac_nand_Nand_count_c1, [.t 3]) := by kernel_rfl
def U_nand_Nand_count_c1 := (And.intro (And.intro (And.intro @ac_nand_Nand_count_c1.eq_1 (@mR _ _ ac_nand_Nand_count_c1_0.eq_1)) (And.intro (@mD _ _ _ ac_nand_Nand_count_c1_1.eq_1) (@mU _ _ ac_nand_Nand_count_c1_2.eq_1))) (And.intro (And.intro (@mU _ _ ac_nand_Nand_count_c1_3.eq_1) @l_nand_Nand_count_c1_0.eq_1) @l_nand_Nand_count_c1_1.eq_1))

end Go.Proofs.YtdgpiobmncohjaaDoor.Aw
